/-
  'ExpectRights' answers true at every input; its arguments read behind the call as they did before. No conditions.
-/
import Derived.Test.YtkpcfdkkfpbjdaaRows
import Derived.Test.YtkpcfdkkfpbjdaaEvR
import Derived.Test.YtkpcfdkkfpbjdaaFna
import Derived.Test.YtkpcfdkkfpbjdaaPlr
namespace Go.Proofs.Ytkpcfdkkfpbjdaa.expectRights
open Go Go.ChangeShapes Go.WideShapes Go.ChangeAt Go.RowKit
set_option linter.unusedVariables false
theorem own : ownKnob Try.prog.godebug = none := by kernel_rfl
theorem laidOut : laidOutB Try.prog = true := by kernel_rfl
set_option maxRecDepth 100000 in
theorem open26 {w : World} {base : Nat} {v : Value} (h : Value.okWide Try.prog w .any base 26 v) : ∃ x : T25, v = v25 x ∧ IntKind.i64.has x.f0 ∧ IntKind.i64.has x.f1 ∧ IntKind.i64.has x.f2 ∧ IntKind.u64.has x.f3 ∧ IntKind.u64.has x.f4 ∧ IntKind.i64.has x.f5 ∧ IntKind.u64.has x.f6 ∧ IntKind.u64.has x.f7 ∧ IntKind.i64.has x.f8 ∧ IntKind.i64.has x.f9 := by
  have e : List.map (Ev.kindP Try.prog) [3, 3, 3, 22, 22, 3, 22, 22, 3, 3] = [.int .i64, .int .i64, .int .i64, .int .u64, .int .u64, .int .i64, .int .u64, .int .u64, .int .i64, .int .i64] := by kernel_rfl
  obtain ⟨cs, rfl, h1⟩ := Ev.agg_has h (by kernel_rfl) (ts := [3, 3, 3, 22, 22, 3, 22, 22, 3, 3]) (by kernel_rfl) (by kernel_rfl) (by kernel_rfl)
  rw [e] at h1
  obtain ⟨n0, c0, rfl, r0, h2⟩ := Ev.HasL.int h1
  obtain ⟨n1, c1, rfl, r1, h3⟩ := Ev.HasL.int h2
  obtain ⟨n2, c2, rfl, r2, h4⟩ := Ev.HasL.int h3
  obtain ⟨n3, c3, rfl, r3, h5⟩ := Ev.HasL.int h4
  obtain ⟨n4, c4, rfl, r4, h6⟩ := Ev.HasL.int h5
  obtain ⟨n5, c5, rfl, r5, h7⟩ := Ev.HasL.int h6
  obtain ⟨n6, c6, rfl, r6, h8⟩ := Ev.HasL.int h7
  obtain ⟨n7, c7, rfl, r7, h9⟩ := Ev.HasL.int h8
  obtain ⟨n8, c8, rfl, r8, h10⟩ := Ev.HasL.int h9
  obtain ⟨n9, c9, rfl, r9, h11⟩ := Ev.HasL.int h10
  obtain rfl := Ev.HasL.nil h11
  exact ⟨⟨n0, n1, n2, n3, n4, n5, n6, n7, n8, n9⟩, rfl, r0, r1, r2, r3, r4, r5, r6, r7, r8, r9⟩
set_option maxRecDepth 100000 in
theorem open28 {w : World} {base : Nat} {v : Value} (h : Value.okWide Try.prog w .any base 28 v) : ∃ x : T27, v = v27 x ∧ IntKind.i64.has x.f0 ∧ IntKind.i64.has x.f1 ∧ IntKind.i64.has x.f2 ∧ IntKind.u64.has x.f3 ∧ IntKind.u64.has x.f4 ∧ IntKind.i64.has x.f5 ∧ IntKind.u64.has x.f6 ∧ IntKind.u64.has x.f7 ∧ IntKind.i64.has x.f8 ∧ IntKind.i64.has x.f9 ∧ IntKind.i64.has x.f10 ∧ IntKind.i64.has x.f11 ∧ IntKind.i64.has x.f12 ∧ IntKind.u64.has x.f13 ∧ IntKind.u64.has x.f14 ∧ IntKind.i64.has x.f15 ∧ IntKind.u64.has x.f16 ∧ IntKind.u64.has x.f17 ∧ IntKind.i64.has x.f18 ∧ IntKind.i64.has x.f19 ∧ IntKind.i64.has x.f20 ∧ IntKind.i64.has x.f21 := by
  have e : List.map (Ev.kindP Try.prog) [3, 3, 3, 22, 22, 3, 22, 22, 3, 3, 3, 3, 3, 22, 22, 3, 22, 22, 3, 3, 3, 3] = [.int .i64, .int .i64, .int .i64, .int .u64, .int .u64, .int .i64, .int .u64, .int .u64, .int .i64, .int .i64, .int .i64, .int .i64, .int .i64, .int .u64, .int .u64, .int .i64, .int .u64, .int .u64, .int .i64, .int .i64, .int .i64, .int .i64] := by kernel_rfl
  obtain ⟨cs, rfl, h1⟩ := Ev.agg_has h (by kernel_rfl) (ts := [3, 3, 3, 22, 22, 3, 22, 22, 3, 3, 3, 3, 3, 22, 22, 3, 22, 22, 3, 3, 3, 3]) (by kernel_rfl) (by kernel_rfl) (by kernel_rfl)
  rw [e] at h1
  obtain ⟨n0, c0, rfl, r0, h2⟩ := Ev.HasL.int h1
  obtain ⟨n1, c1, rfl, r1, h3⟩ := Ev.HasL.int h2
  obtain ⟨n2, c2, rfl, r2, h4⟩ := Ev.HasL.int h3
  obtain ⟨n3, c3, rfl, r3, h5⟩ := Ev.HasL.int h4
  obtain ⟨n4, c4, rfl, r4, h6⟩ := Ev.HasL.int h5
  obtain ⟨n5, c5, rfl, r5, h7⟩ := Ev.HasL.int h6
  obtain ⟨n6, c6, rfl, r6, h8⟩ := Ev.HasL.int h7
  obtain ⟨n7, c7, rfl, r7, h9⟩ := Ev.HasL.int h8
  obtain ⟨n8, c8, rfl, r8, h10⟩ := Ev.HasL.int h9
  obtain ⟨n9, c9, rfl, r9, h11⟩ := Ev.HasL.int h10
  obtain ⟨n10, c10, rfl, r10, h12⟩ := Ev.HasL.int h11
  obtain ⟨n11, c11, rfl, r11, h13⟩ := Ev.HasL.int h12
  obtain ⟨n12, c12, rfl, r12, h14⟩ := Ev.HasL.int h13
  obtain ⟨n13, c13, rfl, r13, h15⟩ := Ev.HasL.int h14
  obtain ⟨n14, c14, rfl, r14, h16⟩ := Ev.HasL.int h15
  obtain ⟨n15, c15, rfl, r15, h17⟩ := Ev.HasL.int h16
  obtain ⟨n16, c16, rfl, r16, h18⟩ := Ev.HasL.int h17
  obtain ⟨n17, c17, rfl, r17, h19⟩ := Ev.HasL.int h18
  obtain ⟨n18, c18, rfl, r18, h20⟩ := Ev.HasL.int h19
  obtain ⟨n19, c19, rfl, r19, h21⟩ := Ev.HasL.int h20
  obtain ⟨n20, c20, rfl, r20, h22⟩ := Ev.HasL.int h21
  obtain ⟨n21, c21, rfl, r21, h23⟩ := Ev.HasL.int h22
  obtain rfl := Ev.HasL.nil h23
  exact ⟨⟨n0, n1, n2, n3, n4, n5, n6, n7, n8, n9, n10, n11, n12, n13, n14, n15, n16, n17, n18, n19, n20, n21⟩, rfl, r0, r1, r2, r3, r4, r5, r6, r7, r8, r9, r10, r11, r12, r13, r14, r15, r16, r17, r18, r19, r20, r21⟩
theorem walk (x0 : T27) (x1 : T25) (r0 : IntKind.i64.has x0.f0 ∧ IntKind.i64.has x0.f1 ∧ IntKind.i64.has x0.f2 ∧ IntKind.u64.has x0.f3 ∧ IntKind.u64.has x0.f4 ∧ IntKind.i64.has x0.f5 ∧ IntKind.u64.has x0.f6 ∧ IntKind.u64.has x0.f7 ∧ IntKind.i64.has x0.f8 ∧ IntKind.i64.has x0.f9 ∧ IntKind.i64.has x0.f10 ∧ IntKind.i64.has x0.f11 ∧ IntKind.i64.has x0.f12 ∧ IntKind.u64.has x0.f13 ∧ IntKind.u64.has x0.f14 ∧ IntKind.i64.has x0.f15 ∧ IntKind.u64.has x0.f16 ∧ IntKind.u64.has x0.f17 ∧ IntKind.i64.has x0.f18 ∧ IntKind.i64.has x0.f19 ∧ IntKind.i64.has x0.f20 ∧ IntKind.i64.has x0.f21) (r1 : IntKind.i64.has x1.f0 ∧ IntKind.i64.has x1.f1 ∧ IntKind.i64.has x1.f2 ∧ IntKind.u64.has x1.f3 ∧ IntKind.u64.has x1.f4 ∧ IntKind.i64.has x1.f5 ∧ IntKind.u64.has x1.f6 ∧ IntKind.u64.has x1.f7 ∧ IntKind.i64.has x1.f8 ∧ IntKind.i64.has x1.f9) (W : World) : Calls Try.prog 3 #[v27 x0, v25 x1] W fun e w' => e = .returned (.bool true) ∧ Below W.heap.size W w' := by
  have g : Ev.Good Try.prog 3 [v27 x0, v25 x1] ⟨[], 0, []⟩ (e3 (F3 x0 x1), ⟨[], 0, []⟩) := g3 _ _ _ (by kernel_rfl)
  rw [law_3 x0 x1 r0 r1] at g
  exact Ev.calls_of_good g (by kernel_rfl) (by kernel_rfl) W
set_option maxRecDepth 100000 in
theorem lifted (os : Os) (started : os.Started) (H : Type) (enc : TypeId × Value → H) :
    ReturnsInHanded {} Try.checked os 3 .any (Rows.expectRightsSpec.pre6 enc Try.prog Try.f3 Rows.expectRightsRow.domain false) (Rows.expectRightsSpec.post enc Try.prog Try.f3 false true false false) := by
  refine returnsInHanded_of_change_sized (C := Try.checked) own started (by kernel_rfl) Try.func3
    (ChangeSpec.witness6 (enc := enc) (C := Try.checked) false ⟨#[], #[.agg ⟨[.int .i64 0, .int .i64 0, .int .i64 0, .int .u64 0, .int .u64 0, .int .i64 0, .int .u64 0, .int .u64 0, .int .i64 0, .int .i64 0, .int .i64 0, .int .i64 0, .int .i64 0, .int .u64 0, .int .u64 0, .int .i64 0, .int .u64 0, .int .u64 0, .int .i64 0, .int .i64 0, .int .i64 0, .int .i64 0]⟩, .agg ⟨[.int .i64 0, .int .i64 0, .int .i64 0, .int .u64 0, .int .u64 0, .int .i64 0, .int .u64 0, .int .u64 0, .int .i64 0, .int .i64 0]⟩], []⟩ 8 (by kernel_rfl) (by kernel_rfl) (by kernel_rfl) (by kernel_rfl)) ?_
  intro W base args ds gs before hval0 hW hcnd hsz0 _
  have hval : ∀ (j : Nat) t v, Try.f3.params[j]? = some t → args[j]? = some v → Value.okWide Try.prog W .any base t v := hval0
  have hW' := hW
  obtain ⟨p, q, hA0, hV, rfl, hfz, hnd⟩ := hW
  have hA : DataW.TrodAll enc Try.prog W 0 (fun _ => true) true Try.f3.params.toList args.toList ds p := hA0
  rw [Try.params3] at hA hval
  obtain ⟨v0, vs0, d0, ds0, p0, q0, hargs, rfl, rfl, h0, k0⟩ := trodAll_cons hA
  obtain ⟨v1, vs1, d1, ds1, p1, q1, rfl, rfl, rfl, h1, k1⟩ := trodAll_cons k0
  obtain ⟨rfl, rfl, rfl⟩ := trodAll_nil k1
  obtain rfl : args = #[v0, v1] := by cases args; simp_all
  obtain ⟨rfl, rfl⟩ := trodVars_none hV
  have lt0 : ∀ x ∈ p0, x.block < W.heap.size := by obtain ⟨m, hm⟩ := h0; exact DataW.trod_lt m _ _ _ hm
  obtain ⟨x0, rfl, r0⟩ := open28 (hval 0 28 v0 rfl rfl)
  have lt1 : ∀ x ∈ p1, x.block < W.heap.size := by obtain ⟨m, hm⟩ := h1; exact DataW.trod_lt m _ _ _ hm
  obtain ⟨x1, rfl, r1⟩ := open26 (hval 1 26 v1 rfl rfl)
  refine (walk x0 x1 r0 r1 W).mono fun e W' ⟨he, bel⟩ => ?_
  subst he
  exact ⟨_, rfl, _, _, _, [], _, [], hW', trodAll_mk1 (shut_bool Try.underlying4 _), (trodAll_cons_mk (Below.trod laidOut (by kernel_rfl) (of_decide_eq_true (by kernel_rfl)) h0 bel lt0) (trodAll_cons_mk (Below.trod laidOut (by kernel_rfl) (of_decide_eq_true (by kernel_rfl)) h1 bel lt1) trodAll_mk0)), rfl, bel.frame _, fun h => by cases h⟩
theorem over : Rows.expectRightsRow.holds Try.pinned (OpenSpec.ofChange Rows.expectRightsSpec) :=
  OpenClaim.holds_of_wide 3 Try.f3 rfl rfl rfl rfl rfl rfl rfl ⟨rfl, rfl, rfl, rfl, rfl⟩ rfl rfl rfl rfl rfl (by kernel_rfl) Try.func3 (by kernel_rfl)
    (of_decide_eq_true (by kernel_rfl)) (by unfold Func.isWrapper; first | (rw [if_pos (by decide +kernel)]; kernel_rfl) | (rw [if_neg (by decide +kernel)]; exact ⟨rfl, rfl⟩))
    (fun os started H enc _ => lifted os started H enc)
end Go.Proofs.Ytkpcfdkkfpbjdaa.expectRights
namespace Go.Proofs.Ytkpcfdkkfpbjdaa
/-- The row, under a short name, for the claim. -/
theorem expectRights_holds : Rows.ExpectRightsSaid := expectRights.over
#print axioms expectRights_holds
end Go.Proofs.Ytkpcfdkkfpbjdaa
