/-
  'IcmpKinds' answers true at every input; its arguments read behind the call as they did before. No conditions.
-/
import Derived.Test.YteljeekapcenlaaRows
import Derived.Test.YteljeekapcenlaaEvR
import Derived.Test.YteljeekapcenlaaFac
import Derived.Test.YteljeekapcenlaaPi
namespace Go.Proofs.Yteljeekapcenlaa.icmpKinds
open Go Go.ChangeShapes Go.WideShapes Go.ChangeAt Go.RowKit
set_option linter.unusedVariables false
theorem own : ownKnob Try.prog.godebug = none := by kernel_rfl
theorem laidOut : laidOutB Try.prog = true := fLaid
theorem walk (x0 : Int) (x1 : Int) (x2 : Int) (r0 : IntKind.i64.has x0) (r1 : IntKind.i64.has x1) (r2 : IntKind.i64.has x2) (W : World) : Calls Try.prog 26 #[.int .i64 x0, .int .i64 x1, .int .i64 x2] W fun e w' => e = .returned (.bool true) ∧ Below W.heap.size W w' := by
  have g : Ev.Good Try.prog 26 [.int .i64 x0, .int .i64 x1, .int .i64 x2] ⟨[], 0, []⟩ (e_law21_IcmpKinds (F_law21_IcmpKinds x0 x1 x2), ⟨[], 0, []⟩) := g_law21_IcmpKinds _ _ _ (by kernel_rfl)
  rw [law_law21_IcmpKinds x0 x1 x2 r0 r1 r2] at g
  exact Ev.calls_of_good g (by kernel_rfl) (by kernel_rfl) W
set_option maxRecDepth 100000 in
theorem lifted (os : Os) (started : os.Started) (H : Type) (enc : TypeId × Value → H) :
    ReturnsInHanded {} Try.checked os 26 .any (Rows.icmpKindsSpec.pre6 enc Try.prog Try.f26 Rows.icmpKindsRow.domain false) (Rows.icmpKindsSpec.post enc Try.prog Try.f26 false true false false) := by
  refine returnsInHanded_of_change_sized (C := Try.checked) own started (by kernel_rfl) Try.func26
    (ChangeSpec.witness6 (enc := enc) (C := Try.checked) false ⟨#[], #[.int .i64 0, .int .i64 0, .int .i64 0], []⟩ 8 (by kernel_rfl) (by kernel_rfl) (by kernel_rfl) (by kernel_rfl)) ?_
  intro W base args ds gs before hval0 hW hcnd hsz0 _
  have hval : ∀ (j : Nat) t v, Try.f26.params[j]? = some t → args[j]? = some v → Value.okWide Try.prog W .any base t v := hval0
  have hW' := hW
  obtain ⟨p, q, hA0, hV, rfl, hfz, hnd⟩ := hW
  have hA : DataW.TrodAll enc Try.prog W 0 (fun _ => true) true Try.f26.params.toList args.toList ds p := hA0
  rw [Try.params26] at hA hval
  obtain ⟨v0, vs0, d0, ds0, p0, q0, hargs, rfl, rfl, h0, k0⟩ := trodAll_cons hA
  obtain ⟨v1, vs1, d1, ds1, p1, q1, rfl, rfl, rfl, h1, k1⟩ := trodAll_cons k0
  obtain ⟨v2, vs2, d2, ds2, p2, q2, rfl, rfl, rfl, h2, k2⟩ := trodAll_cons k1
  obtain ⟨rfl, rfl, rfl⟩ := trodAll_nil k2
  obtain rfl : args = #[v0, v1, v2] := by cases args; simp_all
  obtain ⟨rfl, rfl⟩ := trodVars_none hV
  have lt0 : ∀ x ∈ p0, x.block < W.heap.size := by obtain ⟨m, hm⟩ := h0; exact DataW.trod_lt m _ _ _ hm
  have e0 := Ev.scalar_has (hval 0 3 v0 rfl rfl) (by kernel_rfl)
  rw [show Ev.kindP Try.prog 3 = .int .i64 from by kernel_rfl] at e0
  obtain ⟨x0, rfl, r0⟩ := e0
  have lt1 : ∀ x ∈ p1, x.block < W.heap.size := by obtain ⟨m, hm⟩ := h1; exact DataW.trod_lt m _ _ _ hm
  have e1 := Ev.scalar_has (hval 1 3 v1 rfl rfl) (by kernel_rfl)
  rw [show Ev.kindP Try.prog 3 = .int .i64 from by kernel_rfl] at e1
  obtain ⟨x1, rfl, r1⟩ := e1
  have lt2 : ∀ x ∈ p2, x.block < W.heap.size := by obtain ⟨m, hm⟩ := h2; exact DataW.trod_lt m _ _ _ hm
  have e2 := Ev.scalar_has (hval 2 3 v2 rfl rfl) (by kernel_rfl)
  rw [show Ev.kindP Try.prog 3 = .int .i64 from by kernel_rfl] at e2
  obtain ⟨x2, rfl, r2⟩ := e2
  refine (walk x0 x1 x2 r0 r1 r2 W).mono fun e W' ⟨he, bel⟩ => ?_
  subst he
  exact ⟨_, rfl, _, _, _, [], _, [], hW', trodAll_mk1 (shut_bool Try.underlying4 _), (trodAll_cons_mk (Below.trod laidOut (by kernel_rfl) (of_decide_eq_true (by kernel_rfl)) h0 bel lt0) (trodAll_cons_mk (Below.trod laidOut (by kernel_rfl) (of_decide_eq_true (by kernel_rfl)) h1 bel lt1) (trodAll_cons_mk (Below.trod laidOut (by kernel_rfl) (of_decide_eq_true (by kernel_rfl)) h2 bel lt2) trodAll_mk0))), rfl, bel.frame _, fun h => by cases h⟩
theorem joined : joinedFacts Try.prog 26 Try.f26 Rows.icmpKindsSpec Rows.icmpKindsRow = true :=
  joined_of (by kernel_rfl) fLaid fMaps (by kernel_rfl) (by kernel_rfl) (by kernel_rfl) (by kernel_rfl) (by kernel_rfl) (by kernel_rfl) (by kernel_rfl) (by kernel_rfl) (by kernel_rfl) (by kernel_rfl) (by kernel_rfl) (by kernel_rfl) (by kernel_rfl) (by kernel_rfl) (by kernel_rfl) (by kernel_rfl) (by kernel_rfl) (by kernel_rfl) (by kernel_rfl) (by kernel_rfl) (by kernel_rfl) fHeard fEnter (by rw [fFinal]; kernel_rfl) (by rw [fMake]; kernel_rfl) (by kernel_rfl) (by kernel_rfl) (by kernel_rfl) (by kernel_rfl)
theorem over : Rows.icmpKindsRow.holds Try.pinned (OpenSpec.ofChange Rows.icmpKindsSpec) :=
  OpenClaim.holds_of_wide 26 Try.f26 rfl rfl rfl rfl rfl rfl rfl ⟨rfl, rfl, rfl, rfl, rfl⟩ rfl rfl rfl rfl rfl (by kernel_rfl) Try.func26 joined
    (of_decide_eq_true (by kernel_rfl)) (by unfold Func.isWrapper; first | (rw [if_pos (by decide +kernel)]; kernel_rfl) | (rw [if_neg (by decide +kernel)]; exact ⟨rfl, rfl⟩))
    (fun os started H enc _ => lifted os started H enc)
end Go.Proofs.Yteljeekapcenlaa.icmpKinds
namespace Go.Proofs.Yteljeekapcenlaa
/-- The row, under a short name, for the claim. -/
theorem icmpKinds_holds : Rows.IcmpKindsSaid := icmpKinds.over
#print axioms icmpKinds_holds
end Go.Proofs.Yteljeekapcenlaa
