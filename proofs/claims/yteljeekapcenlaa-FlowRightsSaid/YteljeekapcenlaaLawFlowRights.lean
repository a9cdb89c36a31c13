/-
  'FlowRights' answers true at every input; its arguments read behind the call as they did before. No conditions.
-/
import Derived.Test.YteljeekapcenlaaRows
import Derived.Test.YteljeekapcenlaaEvR
import Derived.Test.YteljeekapcenlaaEvGg
import Derived.Test.YteljeekapcenlaaFac
import Derived.Test.YteljeekapcenlaaPy
namespace Go.Proofs.Yteljeekapcenlaa.flowRights
open Go Go.ChangeShapes Go.WideShapes Go.ChangeAt Go.RowKit
set_option linter.unusedVariables false
theorem own : ownKnob Try.prog.godebug = none := by kernel_rfl
theorem laidOut : laidOutB Try.prog = true := fLaid
set_option maxRecDepth 100000 in
theorem open63 {ds : List Value} (h1 : Ev.HasTL [.k (.int .i64), .k (.int .i64), .k (.int .i64), .k (.int .u64), .k (.int .u64), .k (.int .i64), .k (.int .u64), .k (.int .u64), .k (.int .i64), .k (.int .i64), .k (.int .i64), .k (.int .u32), .k (.int .u32), .k (.int .u32), .k (.int .u32), .k .bool, .k .bool, .k .bool, .k .bool, .k (.int .i64), .k (.int .i64), .k .bool] ds) : ∃ x : T_api_Flow, ds = c_api_Flow x ∧ IntKind.i64.has x.Tuple_Fam ∧ IntKind.i64.has x.Tuple_Proto ∧ IntKind.i64.has x.Tuple_Src_Fam ∧ IntKind.u64.has x.Tuple_Src_Hi ∧ IntKind.u64.has x.Tuple_Src_Lo ∧ IntKind.i64.has x.Tuple_Dst_Fam ∧ IntKind.u64.has x.Tuple_Dst_Hi ∧ IntKind.u64.has x.Tuple_Dst_Lo ∧ IntKind.i64.has x.Tuple_Sport ∧ IntKind.i64.has x.Tuple_Dport ∧ IntKind.i64.has x.Conn_State ∧ IntKind.u32.has x.Conn_Next_c0 ∧ IntKind.u32.has x.Conn_Next_c1 ∧ IntKind.u32.has x.Conn_Edge_c0 ∧ IntKind.u32.has x.Conn_Edge_c1 ∧ IntKind.i64.has x.Ends ∧ IntKind.i64.has x.Help := by
  obtain ⟨n0, c0, rfl, r2, h2⟩ := Ev.HasTL.int h1
  obtain ⟨n1, c1, rfl, r3, h3⟩ := Ev.HasTL.int h2
  obtain ⟨n2, c2, rfl, r4, h4⟩ := Ev.HasTL.int h3
  obtain ⟨n3, c3, rfl, r5, h5⟩ := Ev.HasTL.int h4
  obtain ⟨n4, c4, rfl, r6, h6⟩ := Ev.HasTL.int h5
  obtain ⟨n5, c5, rfl, r7, h7⟩ := Ev.HasTL.int h6
  obtain ⟨n6, c6, rfl, r8, h8⟩ := Ev.HasTL.int h7
  obtain ⟨n7, c7, rfl, r9, h9⟩ := Ev.HasTL.int h8
  obtain ⟨n8, c8, rfl, r10, h10⟩ := Ev.HasTL.int h9
  obtain ⟨n9, c9, rfl, r11, h11⟩ := Ev.HasTL.int h10
  obtain ⟨n10, c10, rfl, r12, h12⟩ := Ev.HasTL.int h11
  obtain ⟨n11, c11, rfl, r13, h13⟩ := Ev.HasTL.int h12
  obtain ⟨n12, c12, rfl, r14, h14⟩ := Ev.HasTL.int h13
  obtain ⟨n13, c13, rfl, r15, h15⟩ := Ev.HasTL.int h14
  obtain ⟨n14, c14, rfl, r16, h16⟩ := Ev.HasTL.int h15
  obtain ⟨n15, c15, rfl, h17⟩ := Ev.HasTL.bool h16
  obtain ⟨n16, c16, rfl, h18⟩ := Ev.HasTL.bool h17
  obtain ⟨n17, c17, rfl, h19⟩ := Ev.HasTL.bool h18
  obtain ⟨n18, c18, rfl, h20⟩ := Ev.HasTL.bool h19
  obtain ⟨n19, c19, rfl, r21, h21⟩ := Ev.HasTL.int h20
  obtain ⟨n20, c20, rfl, r22, h22⟩ := Ev.HasTL.int h21
  obtain ⟨n21, c21, rfl, h23⟩ := Ev.HasTL.bool h22
  obtain rfl := Ev.HasTL.nil h23
  exact ⟨⟨n0, n1, n2, n3, n4, n5, n6, n7, n8, n9, n10, n11, n12, n13, n14, n15, n16, n17, n18, n19, n20, n21⟩, rfl, r2, r3, r4, r5, r6, r7, r8, r9, r10, r11, r12, r13, r14, r15, r16, r21, r22⟩
set_option maxRecDepth 100000 in
theorem open66 {ds : List Value} (h1 : Ev.HasTL [.k (.int .i64), .k (.int .i64), .k (.int .i64), .k (.int .u64), .k (.int .u64), .k (.int .i64), .k (.int .u64), .k (.int .u64), .k (.int .i64), .k (.int .i64), .k (.int .i64), .k (.int .u32), .k (.int .u32), .k (.int .i64), .k (.int .i64), .k (.int .i64), .k .bool, .k (.int .i64), .k (.int .i64), .k (.int .i64), .k (.int .u64), .k (.int .u64), .k (.int .i64), .k (.int .u64), .k (.int .u64), .k (.int .i64), .k (.int .i64), .s 1 [.k (.int .u8)]] ds) : ∃ x : D_api_Seg, ds = c_api_Seg x ∧ IntKind.i64.has x.Tuple_Fam ∧ IntKind.i64.has x.Tuple_Proto ∧ IntKind.i64.has x.Tuple_Src_Fam ∧ IntKind.u64.has x.Tuple_Src_Hi ∧ IntKind.u64.has x.Tuple_Src_Lo ∧ IntKind.i64.has x.Tuple_Dst_Fam ∧ IntKind.u64.has x.Tuple_Dst_Hi ∧ IntKind.u64.has x.Tuple_Dst_Lo ∧ IntKind.i64.has x.Tuple_Sport ∧ IntKind.i64.has x.Tuple_Dport ∧ IntKind.i64.has x.Flags ∧ IntKind.u32.has x.Seq ∧ IntKind.u32.has x.Ack ∧ IntKind.i64.has x.Win ∧ IntKind.i64.has x.Type_ ∧ IntKind.i64.has x.Code ∧ IntKind.i64.has x.Inner_Fam ∧ IntKind.i64.has x.Inner_Proto ∧ IntKind.i64.has x.Inner_Src_Fam ∧ IntKind.u64.has x.Inner_Src_Hi ∧ IntKind.u64.has x.Inner_Src_Lo ∧ IntKind.i64.has x.Inner_Dst_Fam ∧ IntKind.u64.has x.Inner_Dst_Hi ∧ IntKind.u64.has x.Inner_Dst_Lo ∧ IntKind.i64.has x.Inner_Sport ∧ IntKind.i64.has x.Inner_Dport ∧ Ev.SlT 1 [.k (.int .u8)] x.Data := by
  obtain ⟨n0, c0, rfl, r2, h2⟩ := Ev.HasTL.int h1
  obtain ⟨n1, c1, rfl, r3, h3⟩ := Ev.HasTL.int h2
  obtain ⟨n2, c2, rfl, r4, h4⟩ := Ev.HasTL.int h3
  obtain ⟨n3, c3, rfl, r5, h5⟩ := Ev.HasTL.int h4
  obtain ⟨n4, c4, rfl, r6, h6⟩ := Ev.HasTL.int h5
  obtain ⟨n5, c5, rfl, r7, h7⟩ := Ev.HasTL.int h6
  obtain ⟨n6, c6, rfl, r8, h8⟩ := Ev.HasTL.int h7
  obtain ⟨n7, c7, rfl, r9, h9⟩ := Ev.HasTL.int h8
  obtain ⟨n8, c8, rfl, r10, h10⟩ := Ev.HasTL.int h9
  obtain ⟨n9, c9, rfl, r11, h11⟩ := Ev.HasTL.int h10
  obtain ⟨n10, c10, rfl, r12, h12⟩ := Ev.HasTL.int h11
  obtain ⟨n11, c11, rfl, r13, h13⟩ := Ev.HasTL.int h12
  obtain ⟨n12, c12, rfl, r14, h14⟩ := Ev.HasTL.int h13
  obtain ⟨n13, c13, rfl, r15, h15⟩ := Ev.HasTL.int h14
  obtain ⟨n14, c14, rfl, r16, h16⟩ := Ev.HasTL.int h15
  obtain ⟨n15, c15, rfl, r17, h17⟩ := Ev.HasTL.int h16
  obtain ⟨n16, c16, rfl, h18⟩ := Ev.HasTL.bool h17
  obtain ⟨n17, c17, rfl, r19, h19⟩ := Ev.HasTL.int h18
  obtain ⟨n18, c18, rfl, r20, h20⟩ := Ev.HasTL.int h19
  obtain ⟨n19, c19, rfl, r21, h21⟩ := Ev.HasTL.int h20
  obtain ⟨n20, c20, rfl, r22, h22⟩ := Ev.HasTL.int h21
  obtain ⟨n21, c21, rfl, r23, h23⟩ := Ev.HasTL.int h22
  obtain ⟨n22, c22, rfl, r24, h24⟩ := Ev.HasTL.int h23
  obtain ⟨n23, c23, rfl, r25, h25⟩ := Ev.HasTL.int h24
  obtain ⟨n24, c24, rfl, r26, h26⟩ := Ev.HasTL.int h25
  obtain ⟨n25, c25, rfl, r27, h27⟩ := Ev.HasTL.int h26
  obtain ⟨n26, c26, rfl, r28, h28⟩ := Ev.HasTL.int h27
  obtain ⟨n27, c27, rfl, r29, h29⟩ := Ev.HasTL.sl h28
  obtain rfl := Ev.HasTL.nil h29
  exact ⟨⟨n0, n1, n2, n3, n4, n5, n6, n7, n8, n9, n10, n11, n12, n13, n14, n15, n16, n17, n18, n19, n20, n21, n22, n23, n24, n25, n26, n27⟩, rfl, r2, r3, r4, r5, r6, r7, r8, r9, r10, r11, r12, r13, r14, r15, r16, r17, r19, r20, r21, r22, r23, r24, r25, r26, r27, r28, r29⟩
theorem walk (x0 : T_api_Flow) (x1 : D_api_Seg) (x2 : Int) (r0 : IntKind.i64.has x0.Tuple_Fam ∧ IntKind.i64.has x0.Tuple_Proto ∧ IntKind.i64.has x0.Tuple_Src_Fam ∧ IntKind.u64.has x0.Tuple_Src_Hi ∧ IntKind.u64.has x0.Tuple_Src_Lo ∧ IntKind.i64.has x0.Tuple_Dst_Fam ∧ IntKind.u64.has x0.Tuple_Dst_Hi ∧ IntKind.u64.has x0.Tuple_Dst_Lo ∧ IntKind.i64.has x0.Tuple_Sport ∧ IntKind.i64.has x0.Tuple_Dport ∧ IntKind.i64.has x0.Conn_State ∧ IntKind.u32.has x0.Conn_Next_c0 ∧ IntKind.u32.has x0.Conn_Next_c1 ∧ IntKind.u32.has x0.Conn_Edge_c0 ∧ IntKind.u32.has x0.Conn_Edge_c1 ∧ IntKind.i64.has x0.Ends ∧ IntKind.i64.has x0.Help) (r1 : IntKind.i64.has x1.Tuple_Fam ∧ IntKind.i64.has x1.Tuple_Proto ∧ IntKind.i64.has x1.Tuple_Src_Fam ∧ IntKind.u64.has x1.Tuple_Src_Hi ∧ IntKind.u64.has x1.Tuple_Src_Lo ∧ IntKind.i64.has x1.Tuple_Dst_Fam ∧ IntKind.u64.has x1.Tuple_Dst_Hi ∧ IntKind.u64.has x1.Tuple_Dst_Lo ∧ IntKind.i64.has x1.Tuple_Sport ∧ IntKind.i64.has x1.Tuple_Dport ∧ IntKind.i64.has x1.Flags ∧ IntKind.u32.has x1.Seq ∧ IntKind.u32.has x1.Ack ∧ IntKind.i64.has x1.Win ∧ IntKind.i64.has x1.Type_ ∧ IntKind.i64.has x1.Code ∧ IntKind.i64.has x1.Inner_Fam ∧ IntKind.i64.has x1.Inner_Proto ∧ IntKind.i64.has x1.Inner_Src_Fam ∧ IntKind.u64.has x1.Inner_Src_Hi ∧ IntKind.u64.has x1.Inner_Src_Lo ∧ IntKind.i64.has x1.Inner_Dst_Fam ∧ IntKind.u64.has x1.Inner_Dst_Hi ∧ IntKind.u64.has x1.Inner_Dst_Lo ∧ IntKind.i64.has x1.Inner_Sport ∧ IntKind.i64.has x1.Inner_Dport ∧ Ev.SlT 1 [.k (.int .u8)] x1.Data) (r2 : IntKind.i64.has x2) (W : World) {v0 : Value} {v1 : Value} (dr0 : Ev.DR W (v_api_Flow x0) v0) (dr1 : Ev.DR W (v_api_Seg x1) v1) : Calls Try.prog 10 #[v0, v1, .int .i64 x2] W fun e w' => e = .returned (.bool true) ∧ Below W.heap.size W w' := by
  refine Ev.calls_of_spec g_law16_FlowRights (vs := [v_api_Flow x0, v_api_Seg x1, .int .i64 x2]) (u := .bool true) ?_ ?_ rfl
  · show Ev.bnd (F_law16_FlowRights x0 x1 x2) _ = _
    rw [lawd_FlowRights x0 x1 x2 r0 r1 r2]
    rfl
  · exact .cons _ _ _ _ (dr0) (.cons _ _ _ _ (dr1) (.cons _ _ _ _ (.scalar _ rfl) (.nil)))
set_option maxRecDepth 100000 in
theorem lifted (os : Os) (started : os.Started) (H : Type) (enc : TypeId × Value → H) :
    ReturnsInHanded {} Try.checked os 10 .any (Rows.flowRightsSpec.pre6 enc Try.prog Try.f10 Rows.flowRightsRow.domain false) (Rows.flowRightsSpec.post enc Try.prog Try.f10 false true false false) := by
  refine returnsInHanded_of_change_sized (C := Try.checked) own started (by kernel_rfl) Try.func10
    (ChangeSpec.witness6 (enc := enc) (C := Try.checked) false ⟨#[], #[.agg ⟨[.int  .i64 0, .int  .i64 0, .int  .i64 0, .int  .u64 0, .int  .u64 0, .int  .i64 0, .int  .u64 0, .int  .u64 0, .int  .i64 0, .int  .i64 0, .int  .i64 0, .int  .u32 0, .int  .u32 0, .int  .u32 0, .int  .u32 0, .bool false, .bool false, .bool false, .bool false, .int  .i64 0, .int  .i64 0, .bool false]⟩, .agg ⟨[.int  .i64 0, .int  .i64 0, .int  .i64 0, .int  .u64 0, .int  .u64 0, .int  .i64 0, .int  .u64 0, .int  .u64 0, .int  .i64 0, .int  .i64 0, .int  .i64 0, .int  .u32 0, .int  .u32 0, .int  .i64 0, .int  .i64 0, .int  .i64 0, .bool false, .int  .i64 0, .int  .i64 0, .int  .i64 0, .int  .u64 0, .int  .u64 0, .int  .i64 0, .int  .u64 0, .int  .u64 0, .int  .i64 0, .int  .i64 0, .slice none 0 0]⟩, .int  .i64 0], []⟩ 8 (by kernel_rfl) (by kernel_rfl) (by kernel_rfl) (by kernel_rfl)) ?_
  intro W base args ds gs before hval0 hW hcnd hsz0 _
  have hval : ∀ (j : Nat) t v, Try.f10.params[j]? = some t → args[j]? = some v → Value.okWide Try.prog W .any base t v := hval0
  have hW' := hW
  obtain ⟨p, q, hA0, hV, rfl, hfz, hnd⟩ := hW
  have hA : DataW.TrodAll enc Try.prog W 0 (fun _ => true) true Try.f10.params.toList args.toList ds p := hA0
  rw [Try.params10] at hA hval
  obtain ⟨v0, vs0, d0, ds0, p0, q0, hargs, rfl, rfl, h0, k0⟩ := trodAll_cons hA
  obtain ⟨v1, vs1, d1, ds1, p1, q1, rfl, rfl, rfl, h1, k1⟩ := trodAll_cons k0
  obtain ⟨v2, vs2, d2, ds2, p2, q2, rfl, rfl, rfl, h2, k2⟩ := trodAll_cons k1
  obtain ⟨rfl, rfl, rfl⟩ := trodAll_nil k2
  obtain rfl : args = #[v0, v1, v2] := by cases args; simp_all
  obtain ⟨rfl, rfl⟩ := trodVars_none hV
  have lt0 : ∀ x ∈ p0, x.block < W.heap.size := by obtain ⟨m, hm⟩ := h0; exact DataW.trod_lt m _ _ _ hm
  have li0 : Ev.light Try.prog 63 d0 := Ev.light_each hsz0 (i := 0) rfl rfl
  obtain ⟨u0, hu0, dr0⟩ := Ev.agg_told (P := Try.prog) (dp := 9) (ks := [.k (.int .i64), .k (.int .i64), .k (.int .i64), .k (.int .u64), .k (.int .u64), .k (.int .i64), .k (.int .u64), .k (.int .u64), .k (.int .i64), .k (.int .i64), .k (.int .i64), .k (.int .u32), .k (.int .u32), .k (.int .u32), .k (.int .u32), .k .bool, .k .bool, .k .bool, .k .bool, .k (.int .i64), .k (.int .i64), .k .bool]) (by kernel_rfl) (by kernel_rfl) (hval 0 63 v0 rfl rfl) h0 li0
  obtain ⟨x0, rfl, r0⟩ := open63 hu0
  have lt1 : ∀ x ∈ p1, x.block < W.heap.size := by obtain ⟨m, hm⟩ := h1; exact DataW.trod_lt m _ _ _ hm
  have li1 : Ev.light Try.prog 66 d1 := Ev.light_each hsz0 (i := 1) rfl rfl
  obtain ⟨u1, hu1, dr1⟩ := Ev.agg_told (P := Try.prog) (dp := 9) (ks := [.k (.int .i64), .k (.int .i64), .k (.int .i64), .k (.int .u64), .k (.int .u64), .k (.int .i64), .k (.int .u64), .k (.int .u64), .k (.int .i64), .k (.int .i64), .k (.int .i64), .k (.int .u32), .k (.int .u32), .k (.int .i64), .k (.int .i64), .k (.int .i64), .k .bool, .k (.int .i64), .k (.int .i64), .k (.int .i64), .k (.int .u64), .k (.int .u64), .k (.int .i64), .k (.int .u64), .k (.int .u64), .k (.int .i64), .k (.int .i64), .s 1 [.k (.int .u8)]]) (by kernel_rfl) (by kernel_rfl) (hval 1 66 v1 rfl rfl) h1 li1
  obtain ⟨x1, rfl, r1⟩ := open66 hu1
  have lt2 : ∀ x ∈ p2, x.block < W.heap.size := by obtain ⟨m, hm⟩ := h2; exact DataW.trod_lt m _ _ _ hm
  have e2 := Ev.scalar_has (hval 2 3 v2 rfl rfl) (by kernel_rfl)
  rw [show Ev.kindP Try.prog 3 = .int .i64 from by kernel_rfl] at e2
  obtain ⟨x2, rfl, r2⟩ := e2
  refine (walk x0 x1 x2 r0 r1 r2 W dr0 dr1).mono fun e W' ⟨he, bel⟩ => ?_
  subst he
  exact ⟨_, rfl, _, _, _, [], _, [], hW', trodAll_mk1 (shut_bool Try.underlying4 _), (trodAll_cons_mk (Below.trod laidOut (by kernel_rfl) (of_decide_eq_true (by kernel_rfl)) h0 bel lt0) (trodAll_cons_mk (Below.trod laidOut (by kernel_rfl) (of_decide_eq_true (by kernel_rfl)) h1 bel lt1) (trodAll_cons_mk (Below.trod laidOut (by kernel_rfl) (of_decide_eq_true (by kernel_rfl)) h2 bel lt2) trodAll_mk0))), rfl, bel.frame _, fun h => by cases h⟩
theorem joined : joinedFacts Try.prog 10 Try.f10 Rows.flowRightsSpec Rows.flowRightsRow = true :=
  joined_of (by kernel_rfl) fLaid fMaps (by kernel_rfl) (by kernel_rfl) (by kernel_rfl) (by kernel_rfl) (by kernel_rfl) (by kernel_rfl) (by kernel_rfl) (by kernel_rfl) (by kernel_rfl) (by kernel_rfl) (by kernel_rfl) (by kernel_rfl) (by kernel_rfl) (by kernel_rfl) (by kernel_rfl) (by kernel_rfl) (by kernel_rfl) (by kernel_rfl) (by kernel_rfl) (by kernel_rfl) (by kernel_rfl) fHeard fEnter (by rw [fFinal]; kernel_rfl) (by rw [fMake]; kernel_rfl) (by kernel_rfl) (by kernel_rfl) (by kernel_rfl) (by kernel_rfl)
theorem over : Rows.flowRightsRow.holds Try.pinned (OpenSpec.ofChange Rows.flowRightsSpec) :=
  OpenClaim.holds_of_wide 10 Try.f10 rfl rfl rfl rfl rfl rfl rfl ⟨rfl, rfl, rfl, rfl, rfl⟩ rfl rfl rfl rfl rfl (by kernel_rfl) Try.func10 joined
    (of_decide_eq_true (by kernel_rfl)) (by unfold Func.isWrapper; first | (rw [if_pos (by decide +kernel)]; kernel_rfl) | (rw [if_neg (by decide +kernel)]; exact ⟨rfl, rfl⟩))
    (fun os started H enc _ => lifted os started H enc)
end Go.Proofs.Yteljeekapcenlaa.flowRights
namespace Go.Proofs.Yteljeekapcenlaa
/-- The row, under a short name, for the claim. -/
theorem flowRights_holds : Rows.FlowRightsSaid := flowRights.over
#print axioms flowRights_holds
end Go.Proofs.Yteljeekapcenlaa
