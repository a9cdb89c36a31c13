/-
  'TcpSteps' answers true at every input; its arguments read behind the call as they did before. No conditions.
-/
import Derived.Test.YteljeekapcenlaaRows
import Derived.Test.YteljeekapcenlaaEvR
import Derived.Test.YteljeekapcenlaaFac
import Derived.Test.YteljeekapcenlaaPu
namespace Go.Proofs.Yteljeekapcenlaa.tcpSteps
open Go Go.ChangeShapes Go.WideShapes Go.ChangeAt Go.RowKit
set_option linter.unusedVariables false
theorem own : ownKnob Try.prog.godebug = none := by kernel_rfl
theorem laidOut : laidOutB Try.prog = true := fLaid
set_option maxRecDepth 100000 in
theorem open24 {w : World} {base : Nat} {v : Value} (h : Value.okWide Try.prog w .any base 24 v) : ∃ x : T_r15_Segment, v = v_r15_Segment x ∧ IntKind.i64.has x.Flags ∧ IntKind.i64.has x.Win ∧ IntKind.i64.has x.Size ∧ IntKind.u32.has x.Seq ∧ IntKind.u32.has x.Ack := by
  have e : List.map (Ev.kindP Try.prog) [3, 3, 3, 22, 22] = [.int .i64, .int .i64, .int .i64, .int .u32, .int .u32] := by kernel_rfl
  obtain ⟨cs, rfl, h1⟩ := Ev.agg_has h (by kernel_rfl) (ts := [3, 3, 3, 22, 22]) (by kernel_rfl) (by kernel_rfl) (by kernel_rfl)
  rw [e] at h1
  obtain ⟨n0, c0, rfl, r0, h2⟩ := Ev.HasL.int h1
  obtain ⟨n1, c1, rfl, r1, h3⟩ := Ev.HasL.int h2
  obtain ⟨n2, c2, rfl, r2, h4⟩ := Ev.HasL.int h3
  obtain ⟨n3, c3, rfl, r3, h5⟩ := Ev.HasL.int h4
  obtain ⟨n4, c4, rfl, r4, h6⟩ := Ev.HasL.int h5
  obtain rfl := Ev.HasL.nil h6
  exact ⟨⟨n0, n1, n2, n3, n4⟩, rfl, r0, r1, r2, r3, r4⟩
set_option maxRecDepth 100000 in
theorem open28 {w : World} {base : Nat} {v : Value} (h : Value.okWide Try.prog w .any base 28 v) : ∃ x : T_api_Conn, v = v_api_Conn x ∧ IntKind.i64.has x.State ∧ IntKind.u32.has x.Next_c0 ∧ IntKind.u32.has x.Next_c1 ∧ IntKind.u32.has x.Edge_c0 ∧ IntKind.u32.has x.Edge_c1 := by
  have e : List.map (Ev.kindP Try.prog) [3, 22, 22, 22, 22, 4, 4, 4, 4] = [.int .i64, .int .u32, .int .u32, .int .u32, .int .u32, .bool, .bool, .bool, .bool] := by kernel_rfl
  obtain ⟨cs, rfl, h1⟩ := Ev.agg_has h (by kernel_rfl) (ts := [3, 22, 22, 22, 22, 4, 4, 4, 4]) (by kernel_rfl) (by kernel_rfl) (by kernel_rfl)
  rw [e] at h1
  obtain ⟨n0, c0, rfl, r0, h2⟩ := Ev.HasL.int h1
  obtain ⟨n1, c1, rfl, r1, h3⟩ := Ev.HasL.int h2
  obtain ⟨n2, c2, rfl, r2, h4⟩ := Ev.HasL.int h3
  obtain ⟨n3, c3, rfl, r3, h5⟩ := Ev.HasL.int h4
  obtain ⟨n4, c4, rfl, r4, h6⟩ := Ev.HasL.int h5
  obtain ⟨n5, c5, rfl, h7⟩ := Ev.HasL.bool h6
  obtain ⟨n6, c6, rfl, h8⟩ := Ev.HasL.bool h7
  obtain ⟨n7, c7, rfl, h9⟩ := Ev.HasL.bool h8
  obtain ⟨n8, c8, rfl, h10⟩ := Ev.HasL.bool h9
  obtain rfl := Ev.HasL.nil h10
  exact ⟨⟨n0, n1, n2, n3, n4, n5, n6, n7, n8⟩, rfl, r0, r1, r2, r3, r4⟩
theorem walk (x0 : T_api_Conn) (x1 : Int) (x2 : T_r15_Segment) (r0 : IntKind.i64.has x0.State ∧ IntKind.u32.has x0.Next_c0 ∧ IntKind.u32.has x0.Next_c1 ∧ IntKind.u32.has x0.Edge_c0 ∧ IntKind.u32.has x0.Edge_c1) (r1 : IntKind.i64.has x1) (r2 : IntKind.i64.has x2.Flags ∧ IntKind.i64.has x2.Win ∧ IntKind.i64.has x2.Size ∧ IntKind.u32.has x2.Seq ∧ IntKind.u32.has x2.Ack) (W : World) : Calls Try.prog 5 #[v_api_Conn x0, .int .i64 x1, v_r15_Segment x2] W fun e w' => e = .returned (.bool true) ∧ Below W.heap.size W w' := by
  have g : Ev.Good Try.prog 5 [v_api_Conn x0, .int .i64 x1, v_r15_Segment x2] ⟨[], 0, []⟩ (e_law15_TcpSteps (F_law15_TcpSteps x0 x1 x2), ⟨[], 0, []⟩) := g_law15_TcpSteps _ _ _ (by kernel_rfl)
  rw [law_law15_TcpSteps x0 x1 x2 r0 r1 r2] at g
  exact Ev.calls_of_good g (by kernel_rfl) (by kernel_rfl) W
set_option maxRecDepth 100000 in
theorem lifted (os : Os) (started : os.Started) (H : Type) (enc : TypeId × Value → H) :
    ReturnsInHanded {} Try.checked os 5 .any (Rows.tcpStepsSpec.pre6 enc Try.prog Try.f5 Rows.tcpStepsRow.domain false) (Rows.tcpStepsSpec.post enc Try.prog Try.f5 false true false false) := by
  refine returnsInHanded_of_change_sized (C := Try.checked) own started (by kernel_rfl) Try.func5
    (ChangeSpec.witness6 (enc := enc) (C := Try.checked) false ⟨#[], #[.agg ⟨[.int .i64 0, .int .u32 0, .int .u32 0, .int .u32 0, .int .u32 0, .bool false, .bool false, .bool false, .bool false]⟩, .int .i64 0, .agg ⟨[.int .i64 0, .int .i64 0, .int .i64 0, .int .u32 0, .int .u32 0]⟩], []⟩ 8 (by kernel_rfl) (by kernel_rfl) (by kernel_rfl) (by kernel_rfl)) ?_
  intro W base args ds gs before hval0 hW hcnd hsz0 _
  have hval : ∀ (j : Nat) t v, Try.f5.params[j]? = some t → args[j]? = some v → Value.okWide Try.prog W .any base t v := hval0
  have hW' := hW
  obtain ⟨p, q, hA0, hV, rfl, hfz, hnd⟩ := hW
  have hA : DataW.TrodAll enc Try.prog W 0 (fun _ => true) true Try.f5.params.toList args.toList ds p := hA0
  rw [Try.params5] at hA hval
  obtain ⟨v0, vs0, d0, ds0, p0, q0, hargs, rfl, rfl, h0, k0⟩ := trodAll_cons hA
  obtain ⟨v1, vs1, d1, ds1, p1, q1, rfl, rfl, rfl, h1, k1⟩ := trodAll_cons k0
  obtain ⟨v2, vs2, d2, ds2, p2, q2, rfl, rfl, rfl, h2, k2⟩ := trodAll_cons k1
  obtain ⟨rfl, rfl, rfl⟩ := trodAll_nil k2
  obtain rfl : args = #[v0, v1, v2] := by cases args; simp_all
  obtain ⟨rfl, rfl⟩ := trodVars_none hV
  have lt0 : ∀ x ∈ p0, x.block < W.heap.size := by obtain ⟨m, hm⟩ := h0; exact DataW.trod_lt m _ _ _ hm
  obtain ⟨x0, rfl, r0⟩ := open28 (hval 0 28 v0 rfl rfl)
  have lt1 : ∀ x ∈ p1, x.block < W.heap.size := by obtain ⟨m, hm⟩ := h1; exact DataW.trod_lt m _ _ _ hm
  have e1 := Ev.scalar_has (hval 1 3 v1 rfl rfl) (by kernel_rfl)
  rw [show Ev.kindP Try.prog 3 = .int .i64 from by kernel_rfl] at e1
  obtain ⟨x1, rfl, r1⟩ := e1
  have lt2 : ∀ x ∈ p2, x.block < W.heap.size := by obtain ⟨m, hm⟩ := h2; exact DataW.trod_lt m _ _ _ hm
  obtain ⟨x2, rfl, r2⟩ := open24 (hval 2 24 v2 rfl rfl)
  refine (walk x0 x1 x2 r0 r1 r2 W).mono fun e W' ⟨he, bel⟩ => ?_
  subst he
  exact ⟨_, rfl, _, _, _, [], _, [], hW', trodAll_mk1 (shut_bool Try.underlying4 _), (trodAll_cons_mk (Below.trod laidOut (by kernel_rfl) (of_decide_eq_true (by kernel_rfl)) h0 bel lt0) (trodAll_cons_mk (Below.trod laidOut (by kernel_rfl) (of_decide_eq_true (by kernel_rfl)) h1 bel lt1) (trodAll_cons_mk (Below.trod laidOut (by kernel_rfl) (of_decide_eq_true (by kernel_rfl)) h2 bel lt2) trodAll_mk0))), rfl, bel.frame _, fun h => by cases h⟩
theorem joined : joinedFacts Try.prog 5 Try.f5 Rows.tcpStepsSpec Rows.tcpStepsRow = true :=
  joined_of (by kernel_rfl) fLaid fMaps (by kernel_rfl) (by kernel_rfl) (by kernel_rfl) (by kernel_rfl) (by kernel_rfl) (by kernel_rfl) (by kernel_rfl) (by kernel_rfl) (by kernel_rfl) (by kernel_rfl) (by kernel_rfl) (by kernel_rfl) (by kernel_rfl) (by kernel_rfl) (by kernel_rfl) (by kernel_rfl) (by kernel_rfl) (by kernel_rfl) (by kernel_rfl) (by kernel_rfl) (by kernel_rfl) fHeard fEnter (by rw [fFinal]; kernel_rfl) (by rw [fMake]; kernel_rfl) (by kernel_rfl) (by kernel_rfl) (by kernel_rfl) (by kernel_rfl)
theorem over : Rows.tcpStepsRow.holds Try.pinned (OpenSpec.ofChange Rows.tcpStepsSpec) :=
  OpenClaim.holds_of_wide 5 Try.f5 rfl rfl rfl rfl rfl rfl rfl ⟨rfl, rfl, rfl, rfl, rfl⟩ rfl rfl rfl rfl rfl (by kernel_rfl) Try.func5 joined
    (of_decide_eq_true (by kernel_rfl)) (by unfold Func.isWrapper; first | (rw [if_pos (by decide +kernel)]; kernel_rfl) | (rw [if_neg (by decide +kernel)]; exact ⟨rfl, rfl⟩))
    (fun os started H enc _ => lifted os started H enc)
end Go.Proofs.Yteljeekapcenlaa.tcpSteps
namespace Go.Proofs.Yteljeekapcenlaa
/-- The row, under a short name, for the claim. -/
theorem tcpSteps_holds : Rows.TcpStepsSaid := tcpSteps.over
#print axioms tcpSteps_holds
end Go.Proofs.Yteljeekapcenlaa
