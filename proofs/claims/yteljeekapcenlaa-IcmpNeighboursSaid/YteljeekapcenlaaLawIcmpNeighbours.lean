/-
  'IcmpNeighbours' answers true at every input; its arguments read behind the call as they did before. No conditions.
-/
import Derived.Test.YteljeekapcenlaaRows
import Derived.Test.YteljeekapcenlaaEvR
import Derived.Test.YteljeekapcenlaaEvGg
import Derived.Test.YteljeekapcenlaaFac
import Derived.Test.YteljeekapcenlaaPh
namespace Go.Proofs.Yteljeekapcenlaa.icmpNeighbours
open Go Go.ChangeShapes Go.WideShapes Go.ChangeAt Go.RowKit
set_option linter.unusedVariables false
theorem own : ownKnob Try.prog.godebug = none := by kernel_rfl
theorem laidOut : laidOutB Try.prog = true := fLaid
set_option maxRecDepth 100000 in
theorem open66 {ds : List Value} (h1 : Ev.HasTL [.k (.int .i64), .k (.int .i64), .k (.int .i64), .k (.int .u64), .k (.int .u64), .k (.int .i64), .k (.int .u64), .k (.int .u64), .k (.int .i64), .k (.int .i64), .k (.int .i64), .k (.int .u32), .k (.int .u32), .k (.int .i64), .k (.int .i64), .k (.int .i64), .k .bool, .k (.int .i64), .k (.int .i64), .k (.int .i64), .k (.int .u64), .k (.int .u64), .k (.int .i64), .k (.int .u64), .k (.int .u64), .k (.int .i64), .k (.int .i64), .s 1 [.k (.int .u8)]] ds) : ∃ x : D_api_Seg, ds = c_api_Seg x ∧ IntKind.i64.has x.Tuple_Fam ∧ IntKind.i64.has x.Tuple_Proto ∧ IntKind.i64.has x.Tuple_Src_Fam ∧ IntKind.u64.has x.Tuple_Src_Hi ∧ IntKind.u64.has x.Tuple_Src_Lo ∧ IntKind.i64.has x.Tuple_Dst_Fam ∧ IntKind.u64.has x.Tuple_Dst_Hi ∧ IntKind.u64.has x.Tuple_Dst_Lo ∧ IntKind.i64.has x.Tuple_Sport ∧ IntKind.i64.has x.Tuple_Dport ∧ IntKind.i64.has x.Flags ∧ IntKind.u32.has x.Seq ∧ IntKind.u32.has x.Ack ∧ IntKind.i64.has x.Win ∧ IntKind.i64.has x.Type_ ∧ IntKind.i64.has x.Code ∧ IntKind.i64.has x.Inner_Fam ∧ IntKind.i64.has x.Inner_Proto ∧ IntKind.i64.has x.Inner_Src_Fam ∧ IntKind.u64.has x.Inner_Src_Hi ∧ IntKind.u64.has x.Inner_Src_Lo ∧ IntKind.i64.has x.Inner_Dst_Fam ∧ IntKind.u64.has x.Inner_Dst_Hi ∧ IntKind.u64.has x.Inner_Dst_Lo ∧ IntKind.i64.has x.Inner_Sport ∧ IntKind.i64.has x.Inner_Dport ∧ Ev.SlT 1 [.k (.int .u8)] x.Data := by
  obtain ⟨n0, c0, rfl, r2, h2⟩ := Ev.HasTL.int h1
  obtain ⟨n1, c1, rfl, r3, h3⟩ := Ev.HasTL.int h2
  obtain ⟨n2, c2, rfl, r4, h4⟩ := Ev.HasTL.int h3
  obtain ⟨n3, c3, rfl, r5, h5⟩ := Ev.HasTL.int h4
  obtain ⟨n4, c4, rfl, r6, h6⟩ := Ev.HasTL.int h5
  obtain ⟨n5, c5, rfl, r7, h7⟩ := Ev.HasTL.int h6
  obtain ⟨n6, c6, rfl, r8, h8⟩ := Ev.HasTL.int h7
  obtain ⟨n7, c7, rfl, r9, h9⟩ := Ev.HasTL.int h8
  obtain ⟨n8, c8, rfl, r10, h10⟩ := Ev.HasTL.int h9
  obtain ⟨n9, c9, rfl, r11, h11⟩ := Ev.HasTL.int h10
  obtain ⟨n10, c10, rfl, r12, h12⟩ := Ev.HasTL.int h11
  obtain ⟨n11, c11, rfl, r13, h13⟩ := Ev.HasTL.int h12
  obtain ⟨n12, c12, rfl, r14, h14⟩ := Ev.HasTL.int h13
  obtain ⟨n13, c13, rfl, r15, h15⟩ := Ev.HasTL.int h14
  obtain ⟨n14, c14, rfl, r16, h16⟩ := Ev.HasTL.int h15
  obtain ⟨n15, c15, rfl, r17, h17⟩ := Ev.HasTL.int h16
  obtain ⟨n16, c16, rfl, h18⟩ := Ev.HasTL.bool h17
  obtain ⟨n17, c17, rfl, r19, h19⟩ := Ev.HasTL.int h18
  obtain ⟨n18, c18, rfl, r20, h20⟩ := Ev.HasTL.int h19
  obtain ⟨n19, c19, rfl, r21, h21⟩ := Ev.HasTL.int h20
  obtain ⟨n20, c20, rfl, r22, h22⟩ := Ev.HasTL.int h21
  obtain ⟨n21, c21, rfl, r23, h23⟩ := Ev.HasTL.int h22
  obtain ⟨n22, c22, rfl, r24, h24⟩ := Ev.HasTL.int h23
  obtain ⟨n23, c23, rfl, r25, h25⟩ := Ev.HasTL.int h24
  obtain ⟨n24, c24, rfl, r26, h26⟩ := Ev.HasTL.int h25
  obtain ⟨n25, c25, rfl, r27, h27⟩ := Ev.HasTL.int h26
  obtain ⟨n26, c26, rfl, r28, h28⟩ := Ev.HasTL.int h27
  obtain ⟨n27, c27, rfl, r29, h29⟩ := Ev.HasTL.sl h28
  obtain rfl := Ev.HasTL.nil h29
  exact ⟨⟨n0, n1, n2, n3, n4, n5, n6, n7, n8, n9, n10, n11, n12, n13, n14, n15, n16, n17, n18, n19, n20, n21, n22, n23, n24, n25, n26, n27⟩, rfl, r2, r3, r4, r5, r6, r7, r8, r9, r10, r11, r12, r13, r14, r15, r16, r17, r19, r20, r21, r22, r23, r24, r25, r26, r27, r28, r29⟩
theorem walk (x0 : D_api_Seg) (x1 : Int) (r0 : IntKind.i64.has x0.Tuple_Fam ∧ IntKind.i64.has x0.Tuple_Proto ∧ IntKind.i64.has x0.Tuple_Src_Fam ∧ IntKind.u64.has x0.Tuple_Src_Hi ∧ IntKind.u64.has x0.Tuple_Src_Lo ∧ IntKind.i64.has x0.Tuple_Dst_Fam ∧ IntKind.u64.has x0.Tuple_Dst_Hi ∧ IntKind.u64.has x0.Tuple_Dst_Lo ∧ IntKind.i64.has x0.Tuple_Sport ∧ IntKind.i64.has x0.Tuple_Dport ∧ IntKind.i64.has x0.Flags ∧ IntKind.u32.has x0.Seq ∧ IntKind.u32.has x0.Ack ∧ IntKind.i64.has x0.Win ∧ IntKind.i64.has x0.Type_ ∧ IntKind.i64.has x0.Code ∧ IntKind.i64.has x0.Inner_Fam ∧ IntKind.i64.has x0.Inner_Proto ∧ IntKind.i64.has x0.Inner_Src_Fam ∧ IntKind.u64.has x0.Inner_Src_Hi ∧ IntKind.u64.has x0.Inner_Src_Lo ∧ IntKind.i64.has x0.Inner_Dst_Fam ∧ IntKind.u64.has x0.Inner_Dst_Hi ∧ IntKind.u64.has x0.Inner_Dst_Lo ∧ IntKind.i64.has x0.Inner_Sport ∧ IntKind.i64.has x0.Inner_Dport ∧ Ev.SlT 1 [.k (.int .u8)] x0.Data) (r1 : IntKind.i64.has x1) (W : World) {v0 : Value} (dr0 : Ev.DR W (v_api_Seg x0) v0) : Calls Try.prog 27 #[v0, .int .i64 x1] W fun e w' => e = .returned (.bool true) ∧ Below W.heap.size W w' := by
  refine Ev.calls_of_spec g_law21_IcmpNeighbours (vs := [v_api_Seg x0, .int .i64 x1]) (u := .bool true) ?_ ?_ rfl
  · show Ev.bnd (F_law21_IcmpNeighbours x0 x1) _ = _
    rw [lawd_IcmpNeighbours x0 x1 r0 r1]
    rfl
  · exact .cons _ _ _ _ (dr0) (.cons _ _ _ _ (.scalar _ rfl) (.nil))
set_option maxRecDepth 100000 in
theorem lifted (os : Os) (started : os.Started) (H : Type) (enc : TypeId × Value → H) :
    ReturnsInHanded {} Try.checked os 27 .any (Rows.icmpNeighboursSpec.pre6 enc Try.prog Try.f27 Rows.icmpNeighboursRow.domain false) (Rows.icmpNeighboursSpec.post enc Try.prog Try.f27 false true false false) := by
  refine returnsInHanded_of_change_sized (C := Try.checked) own started (by kernel_rfl) Try.func27
    (ChangeSpec.witness6 (enc := enc) (C := Try.checked) false ⟨#[], #[.agg ⟨[.int  .i64 0, .int  .i64 0, .int  .i64 0, .int  .u64 0, .int  .u64 0, .int  .i64 0, .int  .u64 0, .int  .u64 0, .int  .i64 0, .int  .i64 0, .int  .i64 0, .int  .u32 0, .int  .u32 0, .int  .i64 0, .int  .i64 0, .int  .i64 0, .bool false, .int  .i64 0, .int  .i64 0, .int  .i64 0, .int  .u64 0, .int  .u64 0, .int  .i64 0, .int  .u64 0, .int  .u64 0, .int  .i64 0, .int  .i64 0, .slice none 0 0]⟩, .int  .i64 0], []⟩ 8 (by kernel_rfl) (by kernel_rfl) (by kernel_rfl) (by kernel_rfl)) ?_
  intro W base args ds gs before hval0 hW hcnd hsz0 _
  have hval : ∀ (j : Nat) t v, Try.f27.params[j]? = some t → args[j]? = some v → Value.okWide Try.prog W .any base t v := hval0
  have hW' := hW
  obtain ⟨p, q, hA0, hV, rfl, hfz, hnd⟩ := hW
  have hA : DataW.TrodAll enc Try.prog W 0 (fun _ => true) true Try.f27.params.toList args.toList ds p := hA0
  rw [Try.params27] at hA hval
  obtain ⟨v0, vs0, d0, ds0, p0, q0, hargs, rfl, rfl, h0, k0⟩ := trodAll_cons hA
  obtain ⟨v1, vs1, d1, ds1, p1, q1, rfl, rfl, rfl, h1, k1⟩ := trodAll_cons k0
  obtain ⟨rfl, rfl, rfl⟩ := trodAll_nil k1
  obtain rfl : args = #[v0, v1] := by cases args; simp_all
  obtain ⟨rfl, rfl⟩ := trodVars_none hV
  have lt0 : ∀ x ∈ p0, x.block < W.heap.size := by obtain ⟨m, hm⟩ := h0; exact DataW.trod_lt m _ _ _ hm
  have li0 : Ev.light Try.prog 66 d0 := Ev.light_each hsz0 (i := 0) rfl rfl
  obtain ⟨u0, hu0, dr0⟩ := Ev.agg_told (P := Try.prog) (dp := 9) (ks := [.k (.int .i64), .k (.int .i64), .k (.int .i64), .k (.int .u64), .k (.int .u64), .k (.int .i64), .k (.int .u64), .k (.int .u64), .k (.int .i64), .k (.int .i64), .k (.int .i64), .k (.int .u32), .k (.int .u32), .k (.int .i64), .k (.int .i64), .k (.int .i64), .k .bool, .k (.int .i64), .k (.int .i64), .k (.int .i64), .k (.int .u64), .k (.int .u64), .k (.int .i64), .k (.int .u64), .k (.int .u64), .k (.int .i64), .k (.int .i64), .s 1 [.k (.int .u8)]]) (by kernel_rfl) (by kernel_rfl) (hval 0 66 v0 rfl rfl) h0 li0
  obtain ⟨x0, rfl, r0⟩ := open66 hu0
  have lt1 : ∀ x ∈ p1, x.block < W.heap.size := by obtain ⟨m, hm⟩ := h1; exact DataW.trod_lt m _ _ _ hm
  have e1 := Ev.scalar_has (hval 1 3 v1 rfl rfl) (by kernel_rfl)
  rw [show Ev.kindP Try.prog 3 = .int .i64 from by kernel_rfl] at e1
  obtain ⟨x1, rfl, r1⟩ := e1
  refine (walk x0 x1 r0 r1 W dr0).mono fun e W' ⟨he, bel⟩ => ?_
  subst he
  exact ⟨_, rfl, _, _, _, [], _, [], hW', trodAll_mk1 (shut_bool Try.underlying4 _), (trodAll_cons_mk (Below.trod laidOut (by kernel_rfl) (of_decide_eq_true (by kernel_rfl)) h0 bel lt0) (trodAll_cons_mk (Below.trod laidOut (by kernel_rfl) (of_decide_eq_true (by kernel_rfl)) h1 bel lt1) trodAll_mk0)), rfl, bel.frame _, fun h => by cases h⟩
theorem joined : joinedFacts Try.prog 27 Try.f27 Rows.icmpNeighboursSpec Rows.icmpNeighboursRow = true :=
  joined_of (by kernel_rfl) fLaid fMaps (by kernel_rfl) (by kernel_rfl) (by kernel_rfl) (by kernel_rfl) (by kernel_rfl) (by kernel_rfl) (by kernel_rfl) (by kernel_rfl) (by kernel_rfl) (by kernel_rfl) (by kernel_rfl) (by kernel_rfl) (by kernel_rfl) (by kernel_rfl) (by kernel_rfl) (by kernel_rfl) (by kernel_rfl) (by kernel_rfl) (by kernel_rfl) (by kernel_rfl) (by kernel_rfl) fHeard fEnter (by rw [fFinal]; kernel_rfl) (by rw [fMake]; kernel_rfl) (by kernel_rfl) (by kernel_rfl) (by kernel_rfl) (by kernel_rfl)
theorem over : Rows.icmpNeighboursRow.holds Try.pinned (OpenSpec.ofChange Rows.icmpNeighboursSpec) :=
  OpenClaim.holds_of_wide 27 Try.f27 rfl rfl rfl rfl rfl rfl rfl ⟨rfl, rfl, rfl, rfl, rfl⟩ rfl rfl rfl rfl rfl (by kernel_rfl) Try.func27 joined
    (of_decide_eq_true (by kernel_rfl)) (by unfold Func.isWrapper; first | (rw [if_pos (by decide +kernel)]; kernel_rfl) | (rw [if_neg (by decide +kernel)]; exact ⟨rfl, rfl⟩))
    (fun os started H enc _ => lifted os started H enc)
end Go.Proofs.Yteljeekapcenlaa.icmpNeighbours
namespace Go.Proofs.Yteljeekapcenlaa
/-- The row, under a short name, for the claim. -/
theorem icmpNeighbours_holds : Rows.IcmpNeighboursSaid := icmpNeighbours.over
#print axioms icmpNeighbours_holds
end Go.Proofs.Yteljeekapcenlaa
