/-
  The law of streams: a step. No conditions.
-/
import Derived.Test.YteljeekapcenlaaTc
import Derived.Test.YteljeekapcenlaaPs
namespace Go.Proofs.Yteljeekapcenlaa
open Go
set_option linter.unusedVariables false

theorem law_law15_TcpSteps (x0 : T_api_Conn) (x1 : Int) (x2 : T_r15_Segment) (r0 : IntKind.i64.has x0.State ∧ IntKind.u32.has x0.Next_c0 ∧ IntKind.u32.has x0.Next_c1 ∧ IntKind.u32.has x0.Edge_c0 ∧ IntKind.u32.has x0.Edge_c1) (r1 : IntKind.i64.has x1) (r2 : IntKind.i64.has x2.Flags ∧ IntKind.i64.has x2.Win ∧ IntKind.i64.has x2.Size ∧ IntKind.u32.has x2.Seq ∧ IntKind.u32.has x2.Ack) : F_law15_TcpSteps x0 x1 x2 = true := by
  unfold F_law15_TcpSteps N_law15_TcpSteps G_law15_TcpSteps
  have hs : ∀ g, F_law15_seg g = g := fun _ => rfl
  simp only [hs, a_Step, beq_self_eq_true, Bool.and_self, cond_true]
  rfl

end Go.Proofs.Yteljeekapcenlaa
