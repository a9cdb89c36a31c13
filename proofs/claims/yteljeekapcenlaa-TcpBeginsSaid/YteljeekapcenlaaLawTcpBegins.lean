/-
  'TcpBegins' answers true at every input; its arguments read behind the call as they did before. No conditions.
-/
import Derived.Test.YteljeekapcenlaaRows
import Derived.Test.YteljeekapcenlaaEvR
import Derived.Test.YteljeekapcenlaaFac
import Derived.Test.YteljeekapcenlaaPtb
namespace Go.Proofs.Yteljeekapcenlaa.tcpBegins
open Go Go.ChangeShapes Go.WideShapes Go.ChangeAt Go.RowKit
set_option linter.unusedVariables false
theorem own : ownKnob Try.prog.godebug = none := by kernel_rfl
theorem laidOut : laidOutB Try.prog = true := fLaid
set_option maxRecDepth 100000 in
theorem open24 {w : World} {base : Nat} {v : Value} (h : Value.okWide Try.prog w .any base 24 v) : ∃ x : T_r15_Segment, v = v_r15_Segment x ∧ IntKind.i64.has x.Flags ∧ IntKind.i64.has x.Win ∧ IntKind.i64.has x.Size ∧ IntKind.u32.has x.Seq ∧ IntKind.u32.has x.Ack := by
  have e : List.map (Ev.kindP Try.prog) [3, 3, 3, 22, 22] = [.int .i64, .int .i64, .int .i64, .int .u32, .int .u32] := by kernel_rfl
  obtain ⟨cs, rfl, h1⟩ := Ev.agg_has h (by kernel_rfl) (ts := [3, 3, 3, 22, 22]) (by kernel_rfl) (by kernel_rfl) (by kernel_rfl)
  rw [e] at h1
  obtain ⟨n0, c0, rfl, r0, h2⟩ := Ev.HasL.int h1
  obtain ⟨n1, c1, rfl, r1, h3⟩ := Ev.HasL.int h2
  obtain ⟨n2, c2, rfl, r2, h4⟩ := Ev.HasL.int h3
  obtain ⟨n3, c3, rfl, r3, h5⟩ := Ev.HasL.int h4
  obtain ⟨n4, c4, rfl, r4, h6⟩ := Ev.HasL.int h5
  obtain rfl := Ev.HasL.nil h6
  exact ⟨⟨n0, n1, n2, n3, n4⟩, rfl, r0, r1, r2, r3, r4⟩
theorem walk (x0 : T_r15_Segment) (r0 : IntKind.i64.has x0.Flags ∧ IntKind.i64.has x0.Win ∧ IntKind.i64.has x0.Size ∧ IntKind.u32.has x0.Seq ∧ IntKind.u32.has x0.Ack) (W : World) : Calls Try.prog 3 #[v_r15_Segment x0] W fun e w' => e = .returned (.bool true) ∧ Below W.heap.size W w' := by
  have g : Ev.Good Try.prog 3 [v_r15_Segment x0] ⟨[], 0, []⟩ (e_law15_TcpBegins (F_law15_TcpBegins x0), ⟨[], 0, []⟩) := g_law15_TcpBegins _ _ _ (by kernel_rfl)
  rw [law_law15_TcpBegins x0 r0] at g
  exact Ev.calls_of_good g (by kernel_rfl) (by kernel_rfl) W
set_option maxRecDepth 100000 in
theorem lifted (os : Os) (started : os.Started) (H : Type) (enc : TypeId × Value → H) :
    ReturnsInHanded {} Try.checked os 3 .any (Rows.tcpBeginsSpec.pre6 enc Try.prog Try.f3 Rows.tcpBeginsRow.domain false) (Rows.tcpBeginsSpec.post enc Try.prog Try.f3 false true false false) := by
  refine returnsInHanded_of_change_sized (C := Try.checked) own started (by kernel_rfl) Try.func3
    (ChangeSpec.witness6 (enc := enc) (C := Try.checked) false ⟨#[], #[.agg ⟨[.int .i64 0, .int .i64 0, .int .i64 0, .int .u32 0, .int .u32 0]⟩], []⟩ 8 (by kernel_rfl) (by kernel_rfl) (by kernel_rfl) (by kernel_rfl)) ?_
  intro W base args ds gs before hval0 hW hcnd hsz0 _
  have hval : ∀ (j : Nat) t v, Try.f3.params[j]? = some t → args[j]? = some v → Value.okWide Try.prog W .any base t v := hval0
  have hW' := hW
  obtain ⟨p, q, hA0, hV, rfl, hfz, hnd⟩ := hW
  have hA : DataW.TrodAll enc Try.prog W 0 (fun _ => true) true Try.f3.params.toList args.toList ds p := hA0
  rw [Try.params3] at hA hval
  obtain ⟨v0, vs0, d0, ds0, p0, q0, hargs, rfl, rfl, h0, k0⟩ := trodAll_cons hA
  obtain ⟨rfl, rfl, rfl⟩ := trodAll_nil k0
  obtain rfl : args = #[v0] := by cases args; simp_all
  obtain ⟨rfl, rfl⟩ := trodVars_none hV
  have lt0 : ∀ x ∈ p0, x.block < W.heap.size := by obtain ⟨m, hm⟩ := h0; exact DataW.trod_lt m _ _ _ hm
  obtain ⟨x0, rfl, r0⟩ := open24 (hval 0 24 v0 rfl rfl)
  refine (walk x0 r0 W).mono fun e W' ⟨he, bel⟩ => ?_
  subst he
  exact ⟨_, rfl, _, _, _, [], _, [], hW', trodAll_mk1 (shut_bool Try.underlying4 _), (trodAll_cons_mk (Below.trod laidOut (by kernel_rfl) (of_decide_eq_true (by kernel_rfl)) h0 bel lt0) trodAll_mk0), rfl, bel.frame _, fun h => by cases h⟩
theorem joined : joinedFacts Try.prog 3 Try.f3 Rows.tcpBeginsSpec Rows.tcpBeginsRow = true :=
  joined_of (by kernel_rfl) fLaid fMaps (by kernel_rfl) (by kernel_rfl) (by kernel_rfl) (by kernel_rfl) (by kernel_rfl) (by kernel_rfl) (by kernel_rfl) (by kernel_rfl) (by kernel_rfl) (by kernel_rfl) (by kernel_rfl) (by kernel_rfl) (by kernel_rfl) (by kernel_rfl) (by kernel_rfl) (by kernel_rfl) (by kernel_rfl) (by kernel_rfl) (by kernel_rfl) (by kernel_rfl) (by kernel_rfl) fHeard fEnter (by rw [fFinal]; kernel_rfl) (by rw [fMake]; kernel_rfl) (by kernel_rfl) (by kernel_rfl) (by kernel_rfl) (by kernel_rfl)
theorem over : Rows.tcpBeginsRow.holds Try.pinned (OpenSpec.ofChange Rows.tcpBeginsSpec) :=
  OpenClaim.holds_of_wide 3 Try.f3 rfl rfl rfl rfl rfl rfl rfl ⟨rfl, rfl, rfl, rfl, rfl⟩ rfl rfl rfl rfl rfl (by kernel_rfl) Try.func3 joined
    (of_decide_eq_true (by kernel_rfl)) (by unfold Func.isWrapper; first | (rw [if_pos (by decide +kernel)]; kernel_rfl) | (rw [if_neg (by decide +kernel)]; exact ⟨rfl, rfl⟩))
    (fun os started H enc _ => lifted os started H enc)
end Go.Proofs.Yteljeekapcenlaa.tcpBegins
namespace Go.Proofs.Yteljeekapcenlaa
/-- The row, under a short name, for the claim. -/
theorem tcpBegins_holds : Rows.TcpBeginsSaid := tcpBegins.over
#print axioms tcpBegins_holds
end Go.Proofs.Yteljeekapcenlaa
