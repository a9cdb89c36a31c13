/-
  'ExpectNobody' answers true at every input; its arguments read behind the call as they did before. No conditions.
-/
import Derived.Test.YteljeekapcenlaaRows
import Derived.Test.YteljeekapcenlaaEvR
import Derived.Test.YteljeekapcenlaaFac
import Derived.Test.YteljeekapcenlaaNExpectNobody
namespace Go.Proofs.Yteljeekapcenlaa.expectNobody
open Go Go.ChangeShapes Go.WideShapes Go.ChangeAt Go.RowKit
set_option linter.unusedVariables false
theorem own : ownKnob Try.prog.godebug = none := by kernel_rfl
theorem laidOut : laidOutB Try.prog = true := fLaid
set_option maxRecDepth 100000 in
theorem open109 {w : World} {base : Nat} {v : Value} (h : Value.okWide Try.prog w .any base 109 v) : ∃ x : T_api_Want, v = v_api_Want x ∧ IntKind.i64.has x.Tuple_Fam ∧ IntKind.i64.has x.Tuple_Proto ∧ IntKind.i64.has x.Tuple_Src_Fam ∧ IntKind.u64.has x.Tuple_Src_Hi ∧ IntKind.u64.has x.Tuple_Src_Lo ∧ IntKind.i64.has x.Tuple_Dst_Fam ∧ IntKind.u64.has x.Tuple_Dst_Hi ∧ IntKind.u64.has x.Tuple_Dst_Lo ∧ IntKind.i64.has x.Tuple_Sport ∧ IntKind.i64.has x.Tuple_Dport ∧ IntKind.i64.has x.Master_Fam ∧ IntKind.i64.has x.Master_Proto ∧ IntKind.i64.has x.Master_Src_Fam ∧ IntKind.u64.has x.Master_Src_Hi ∧ IntKind.u64.has x.Master_Src_Lo ∧ IntKind.i64.has x.Master_Dst_Fam ∧ IntKind.u64.has x.Master_Dst_Hi ∧ IntKind.u64.has x.Master_Dst_Lo ∧ IntKind.i64.has x.Master_Sport ∧ IntKind.i64.has x.Master_Dport ∧ IntKind.i64.has x.Ends ∧ IntKind.i64.has x.Help := by
  have e : List.map (Ev.kindP Try.prog) [3, 3, 3, 57, 57, 3, 57, 57, 3, 3, 3, 3, 3, 57, 57, 3, 57, 57, 3, 3, 3, 3] = [.int .i64, .int .i64, .int .i64, .int .u64, .int .u64, .int .i64, .int .u64, .int .u64, .int .i64, .int .i64, .int .i64, .int .i64, .int .i64, .int .u64, .int .u64, .int .i64, .int .u64, .int .u64, .int .i64, .int .i64, .int .i64, .int .i64] := by kernel_rfl
  obtain ⟨cs, rfl, h1⟩ := Ev.agg_has h (by kernel_rfl) (ts := [3, 3, 3, 57, 57, 3, 57, 57, 3, 3, 3, 3, 3, 57, 57, 3, 57, 57, 3, 3, 3, 3]) (by kernel_rfl) (by kernel_rfl) (by kernel_rfl)
  rw [e] at h1
  obtain ⟨n0, c0, rfl, r0, h2⟩ := Ev.HasL.int h1
  obtain ⟨n1, c1, rfl, r1, h3⟩ := Ev.HasL.int h2
  obtain ⟨n2, c2, rfl, r2, h4⟩ := Ev.HasL.int h3
  obtain ⟨n3, c3, rfl, r3, h5⟩ := Ev.HasL.int h4
  obtain ⟨n4, c4, rfl, r4, h6⟩ := Ev.HasL.int h5
  obtain ⟨n5, c5, rfl, r5, h7⟩ := Ev.HasL.int h6
  obtain ⟨n6, c6, rfl, r6, h8⟩ := Ev.HasL.int h7
  obtain ⟨n7, c7, rfl, r7, h9⟩ := Ev.HasL.int h8
  obtain ⟨n8, c8, rfl, r8, h10⟩ := Ev.HasL.int h9
  obtain ⟨n9, c9, rfl, r9, h11⟩ := Ev.HasL.int h10
  obtain ⟨n10, c10, rfl, r10, h12⟩ := Ev.HasL.int h11
  obtain ⟨n11, c11, rfl, r11, h13⟩ := Ev.HasL.int h12
  obtain ⟨n12, c12, rfl, r12, h14⟩ := Ev.HasL.int h13
  obtain ⟨n13, c13, rfl, r13, h15⟩ := Ev.HasL.int h14
  obtain ⟨n14, c14, rfl, r14, h16⟩ := Ev.HasL.int h15
  obtain ⟨n15, c15, rfl, r15, h17⟩ := Ev.HasL.int h16
  obtain ⟨n16, c16, rfl, r16, h18⟩ := Ev.HasL.int h17
  obtain ⟨n17, c17, rfl, r17, h19⟩ := Ev.HasL.int h18
  obtain ⟨n18, c18, rfl, r18, h20⟩ := Ev.HasL.int h19
  obtain ⟨n19, c19, rfl, r19, h21⟩ := Ev.HasL.int h20
  obtain ⟨n20, c20, rfl, r20, h22⟩ := Ev.HasL.int h21
  obtain ⟨n21, c21, rfl, r21, h23⟩ := Ev.HasL.int h22
  obtain rfl := Ev.HasL.nil h23
  exact ⟨⟨n0, n1, n2, n3, n4, n5, n6, n7, n8, n9, n10, n11, n12, n13, n14, n15, n16, n17, n18, n19, n20, n21⟩, rfl, r0, r1, r2, r3, r4, r5, r6, r7, r8, r9, r10, r11, r12, r13, r14, r15, r16, r17, r18, r19, r20, r21⟩
theorem walk (x0 : T_api_Want) (x1 : Int) (r0 : IntKind.i64.has x0.Tuple_Fam ∧ IntKind.i64.has x0.Tuple_Proto ∧ IntKind.i64.has x0.Tuple_Src_Fam ∧ IntKind.u64.has x0.Tuple_Src_Hi ∧ IntKind.u64.has x0.Tuple_Src_Lo ∧ IntKind.i64.has x0.Tuple_Dst_Fam ∧ IntKind.u64.has x0.Tuple_Dst_Hi ∧ IntKind.u64.has x0.Tuple_Dst_Lo ∧ IntKind.i64.has x0.Tuple_Sport ∧ IntKind.i64.has x0.Tuple_Dport ∧ IntKind.i64.has x0.Master_Fam ∧ IntKind.i64.has x0.Master_Proto ∧ IntKind.i64.has x0.Master_Src_Fam ∧ IntKind.u64.has x0.Master_Src_Hi ∧ IntKind.u64.has x0.Master_Src_Lo ∧ IntKind.i64.has x0.Master_Dst_Fam ∧ IntKind.u64.has x0.Master_Dst_Hi ∧ IntKind.u64.has x0.Master_Dst_Lo ∧ IntKind.i64.has x0.Master_Sport ∧ IntKind.i64.has x0.Master_Dport ∧ IntKind.i64.has x0.Ends ∧ IntKind.i64.has x0.Help) (r1 : IntKind.i64.has x1) (W : World) : Calls Try.prog 21 #[v_api_Want x0, .int .i64 x1] W fun e w' => e = .returned (.bool true) ∧ Below W.heap.size W w' :=
  Ev.calls_of_good (good_law17_ExpectNobody x0 x1) (by kernel_rfl) (by kernel_rfl) W
set_option maxRecDepth 100000 in
theorem lifted (os : Os) (started : os.Started) (H : Type) (enc : TypeId × Value → H) :
    ReturnsInHanded {} Try.checked os 21 .any (Rows.expectNobodySpec.pre6 enc Try.prog Try.f21 Rows.expectNobodyRow.domain false) (Rows.expectNobodySpec.post enc Try.prog Try.f21 false true false false) := by
  refine returnsInHanded_of_change_sized (C := Try.checked) own started (by kernel_rfl) Try.func21
    (ChangeSpec.witness6 (enc := enc) (C := Try.checked) false ⟨#[], #[.agg ⟨[.int .i64 0, .int .i64 0, .int .i64 0, .int .u64 0, .int .u64 0, .int .i64 0, .int .u64 0, .int .u64 0, .int .i64 0, .int .i64 0, .int .i64 0, .int .i64 0, .int .i64 0, .int .u64 0, .int .u64 0, .int .i64 0, .int .u64 0, .int .u64 0, .int .i64 0, .int .i64 0, .int .i64 0, .int .i64 0]⟩, .int .i64 0], []⟩ 8 (by kernel_rfl) (by kernel_rfl) (by kernel_rfl) (by kernel_rfl)) ?_
  intro W base args ds gs before hval0 hW hcnd hsz0 _
  have hval : ∀ (j : Nat) t v, Try.f21.params[j]? = some t → args[j]? = some v → Value.okWide Try.prog W .any base t v := hval0
  have hW' := hW
  obtain ⟨p, q, hA0, hV, rfl, hfz, hnd⟩ := hW
  have hA : DataW.TrodAll enc Try.prog W 0 (fun _ => true) true Try.f21.params.toList args.toList ds p := hA0
  rw [Try.params21] at hA hval
  obtain ⟨v0, vs0, d0, ds0, p0, q0, hargs, rfl, rfl, h0, k0⟩ := trodAll_cons hA
  obtain ⟨v1, vs1, d1, ds1, p1, q1, rfl, rfl, rfl, h1, k1⟩ := trodAll_cons k0
  obtain ⟨rfl, rfl, rfl⟩ := trodAll_nil k1
  obtain rfl : args = #[v0, v1] := by cases args; simp_all
  obtain ⟨rfl, rfl⟩ := trodVars_none hV
  have lt0 : ∀ x ∈ p0, x.block < W.heap.size := by obtain ⟨m, hm⟩ := h0; exact DataW.trod_lt m _ _ _ hm
  obtain ⟨x0, rfl, r0⟩ := open109 (hval 0 109 v0 rfl rfl)
  have lt1 : ∀ x ∈ p1, x.block < W.heap.size := by obtain ⟨m, hm⟩ := h1; exact DataW.trod_lt m _ _ _ hm
  have e1 := Ev.scalar_has (hval 1 3 v1 rfl rfl) (by kernel_rfl)
  rw [show Ev.kindP Try.prog 3 = .int .i64 from by kernel_rfl] at e1
  obtain ⟨x1, rfl, r1⟩ := e1
  refine (walk x0 x1 r0 r1 W).mono fun e W' ⟨he, bel⟩ => ?_
  subst he
  exact ⟨_, rfl, _, _, _, [], _, [], hW', trodAll_mk1 (shut_bool Try.underlying4 _), (trodAll_cons_mk (Below.trod laidOut (by kernel_rfl) (of_decide_eq_true (by kernel_rfl)) h0 bel lt0) (trodAll_cons_mk (Below.trod laidOut (by kernel_rfl) (of_decide_eq_true (by kernel_rfl)) h1 bel lt1) trodAll_mk0)), rfl, bel.frame _, fun h => by cases h⟩
theorem joined : joinedFacts Try.prog 21 Try.f21 Rows.expectNobodySpec Rows.expectNobodyRow = true :=
  joined_of (by kernel_rfl) fLaid fMaps (by kernel_rfl) (by kernel_rfl) (by kernel_rfl) (by kernel_rfl) (by kernel_rfl) (by kernel_rfl) (by kernel_rfl) (by kernel_rfl) (by kernel_rfl) (by kernel_rfl) (by kernel_rfl) (by kernel_rfl) (by kernel_rfl) (by kernel_rfl) (by kernel_rfl) (by kernel_rfl) (by kernel_rfl) (by kernel_rfl) (by kernel_rfl) (by kernel_rfl) (by kernel_rfl) fHeard fEnter (by rw [fFinal]; kernel_rfl) (by rw [fMake]; kernel_rfl) (by kernel_rfl) (by kernel_rfl) (by kernel_rfl) (by kernel_rfl)
theorem over : Rows.expectNobodyRow.holds Try.pinned (OpenSpec.ofChange Rows.expectNobodySpec) :=
  OpenClaim.holds_of_wide 21 Try.f21 rfl rfl rfl rfl rfl rfl rfl ⟨rfl, rfl, rfl, rfl, rfl⟩ rfl rfl rfl rfl rfl (by kernel_rfl) Try.func21 joined
    (of_decide_eq_true (by kernel_rfl)) (by unfold Func.isWrapper; first | (rw [if_pos (by decide +kernel)]; kernel_rfl) | (rw [if_neg (by decide +kernel)]; exact ⟨rfl, rfl⟩))
    (fun os started H enc _ => lifted os started H enc)
end Go.Proofs.Yteljeekapcenlaa.expectNobody
namespace Go.Proofs.Yteljeekapcenlaa
/-- The row, under a short name, for the claim. -/
theorem expectNobody_holds : Rows.ExpectNobodySaid := expectNobody.over
#print axioms expectNobody_holds
end Go.Proofs.Yteljeekapcenlaa
