/-
  'TcpStrays' answers true at every input; its arguments read behind the call as they did before. No conditions.
-/
import Derived.Test.YteljeekapcenlaaRows
import Derived.Test.YteljeekapcenlaaEvR
import Derived.Test.YteljeekapcenlaaFac
import Derived.Test.YteljeekapcenlaaPv
namespace Go.Proofs.Yteljeekapcenlaa.tcpStrays
open Go Go.ChangeShapes Go.WideShapes Go.ChangeAt Go.RowKit
set_option linter.unusedVariables false
theorem own : ownKnob Try.prog.godebug = none := by kernel_rfl
theorem laidOut : laidOutB Try.prog = true := fLaid
set_option maxRecDepth 100000 in
theorem open55 {w : World} {base : Nat} {v : Value} (h : Value.okWide Try.prog w .any base 55 v) : ∃ x : T_3_uint32, v = v_3_uint32 x ∧ IntKind.u32.has x.c0 ∧ IntKind.u32.has x.c1 ∧ IntKind.u32.has x.c2 := by
  have e : List.map (Ev.kindP Try.prog) [22, 22, 22] = [.int .u32, .int .u32, .int .u32] := by kernel_rfl
  obtain ⟨cs, rfl, h1⟩ := Ev.agg_has h (by kernel_rfl) (ts := [22, 22, 22]) (by kernel_rfl) (by kernel_rfl) (by kernel_rfl)
  rw [e] at h1
  obtain ⟨n0, c0, rfl, r0, h2⟩ := Ev.HasL.int h1
  obtain ⟨n1, c1, rfl, r1, h3⟩ := Ev.HasL.int h2
  obtain ⟨n2, c2, rfl, r2, h4⟩ := Ev.HasL.int h3
  obtain rfl := Ev.HasL.nil h4
  exact ⟨⟨n0, n1, n2⟩, rfl, r0, r1, r2⟩
theorem walk (x0 : T_3_uint32) (x1 : Int) (r0 : IntKind.u32.has x0.c0 ∧ IntKind.u32.has x0.c1 ∧ IntKind.u32.has x0.c2) (r1 : IntKind.i64.has x1) (W : World) : Calls Try.prog 9 #[v_3_uint32 x0, .int .i64 x1] W fun e w' => e = .returned (.bool true) ∧ Below W.heap.size W w' := by
  have g : Ev.Good Try.prog 9 [v_3_uint32 x0, .int .i64 x1] ⟨[], 0, []⟩ (e_law15_TcpStrays (F_law15_TcpStrays x0 x1), ⟨[], 0, []⟩) := g_law15_TcpStrays _ _ _ (by kernel_rfl)
  rw [law_law15_TcpStrays x0 x1 r0 r1] at g
  exact Ev.calls_of_good g (by kernel_rfl) (by kernel_rfl) W
set_option maxRecDepth 100000 in
theorem lifted (os : Os) (started : os.Started) (H : Type) (enc : TypeId × Value → H) :
    ReturnsInHanded {} Try.checked os 9 .any (Rows.tcpStraysSpec.pre6 enc Try.prog Try.f9 Rows.tcpStraysRow.domain false) (Rows.tcpStraysSpec.post enc Try.prog Try.f9 false true false false) := by
  refine returnsInHanded_of_change_sized (C := Try.checked) own started (by kernel_rfl) Try.func9
    (ChangeSpec.witness6 (enc := enc) (C := Try.checked) false ⟨#[], #[.agg ⟨[.int .u32 0, .int .u32 0, .int .u32 0]⟩, .int .i64 0], []⟩ 8 (by kernel_rfl) (by kernel_rfl) (by kernel_rfl) (by kernel_rfl)) ?_
  intro W base args ds gs before hval0 hW hcnd hsz0 _
  have hval : ∀ (j : Nat) t v, Try.f9.params[j]? = some t → args[j]? = some v → Value.okWide Try.prog W .any base t v := hval0
  have hW' := hW
  obtain ⟨p, q, hA0, hV, rfl, hfz, hnd⟩ := hW
  have hA : DataW.TrodAll enc Try.prog W 0 (fun _ => true) true Try.f9.params.toList args.toList ds p := hA0
  rw [Try.params9] at hA hval
  obtain ⟨v0, vs0, d0, ds0, p0, q0, hargs, rfl, rfl, h0, k0⟩ := trodAll_cons hA
  obtain ⟨v1, vs1, d1, ds1, p1, q1, rfl, rfl, rfl, h1, k1⟩ := trodAll_cons k0
  obtain ⟨rfl, rfl, rfl⟩ := trodAll_nil k1
  obtain rfl : args = #[v0, v1] := by cases args; simp_all
  obtain ⟨rfl, rfl⟩ := trodVars_none hV
  have lt0 : ∀ x ∈ p0, x.block < W.heap.size := by obtain ⟨m, hm⟩ := h0; exact DataW.trod_lt m _ _ _ hm
  obtain ⟨x0, rfl, r0⟩ := open55 (hval 0 55 v0 rfl rfl)
  have lt1 : ∀ x ∈ p1, x.block < W.heap.size := by obtain ⟨m, hm⟩ := h1; exact DataW.trod_lt m _ _ _ hm
  have e1 := Ev.scalar_has (hval 1 3 v1 rfl rfl) (by kernel_rfl)
  rw [show Ev.kindP Try.prog 3 = .int .i64 from by kernel_rfl] at e1
  obtain ⟨x1, rfl, r1⟩ := e1
  refine (walk x0 x1 r0 r1 W).mono fun e W' ⟨he, bel⟩ => ?_
  subst he
  exact ⟨_, rfl, _, _, _, [], _, [], hW', trodAll_mk1 (shut_bool Try.underlying4 _), (trodAll_cons_mk (Below.trod laidOut (by kernel_rfl) (of_decide_eq_true (by kernel_rfl)) h0 bel lt0) (trodAll_cons_mk (Below.trod laidOut (by kernel_rfl) (of_decide_eq_true (by kernel_rfl)) h1 bel lt1) trodAll_mk0)), rfl, bel.frame _, fun h => by cases h⟩
theorem joined : joinedFacts Try.prog 9 Try.f9 Rows.tcpStraysSpec Rows.tcpStraysRow = true :=
  joined_of (by kernel_rfl) fLaid fMaps (by kernel_rfl) (by kernel_rfl) (by kernel_rfl) (by kernel_rfl) (by kernel_rfl) (by kernel_rfl) (by kernel_rfl) (by kernel_rfl) (by kernel_rfl) (by kernel_rfl) (by kernel_rfl) (by kernel_rfl) (by kernel_rfl) (by kernel_rfl) (by kernel_rfl) (by kernel_rfl) (by kernel_rfl) (by kernel_rfl) (by kernel_rfl) (by kernel_rfl) (by kernel_rfl) fHeard fEnter (by rw [fFinal]; kernel_rfl) (by rw [fMake]; kernel_rfl) (by kernel_rfl) (by kernel_rfl) (by kernel_rfl) (by kernel_rfl)
theorem over : Rows.tcpStraysRow.holds Try.pinned (OpenSpec.ofChange Rows.tcpStraysSpec) :=
  OpenClaim.holds_of_wide 9 Try.f9 rfl rfl rfl rfl rfl rfl rfl ⟨rfl, rfl, rfl, rfl, rfl⟩ rfl rfl rfl rfl rfl (by kernel_rfl) Try.func9 joined
    (of_decide_eq_true (by kernel_rfl)) (by unfold Func.isWrapper; first | (rw [if_pos (by decide +kernel)]; kernel_rfl) | (rw [if_neg (by decide +kernel)]; exact ⟨rfl, rfl⟩))
    (fun os started H enc _ => lifted os started H enc)
end Go.Proofs.Yteljeekapcenlaa.tcpStrays
namespace Go.Proofs.Yteljeekapcenlaa
/-- The row, under a short name, for the claim. -/
theorem tcpStrays_holds : Rows.TcpStraysSaid := tcpStrays.over
#print axioms tcpStrays_holds
end Go.Proofs.Yteljeekapcenlaa
