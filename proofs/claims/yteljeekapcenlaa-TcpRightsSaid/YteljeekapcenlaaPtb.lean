/-
  The laws of streams: what begins, and which may be. No conditions.
-/
import Derived.Test.YteljeekapcenlaaTc
import Derived.Test.YteljeekapcenlaaPt
namespace Go.Proofs.Yteljeekapcenlaa
open Go

theorem law_law15_TcpBegins (x0 : T_r15_Segment) (r0 : IntKind.i64.has x0.Flags ∧ IntKind.i64.has x0.Win ∧ IntKind.i64.has x0.Size ∧ IntKind.u32.has x0.Seq ∧ IntKind.u32.has x0.Ack) : F_law15_TcpBegins x0 = true := by
  unfold F_law15_TcpBegins N_law15_TcpBegins G_law15_TcpBegins
  simp only [a_Begin, beq_self_eq_true, Bool.and_self, cond_true]
  rfl

theorem law_law15_TcpRights (x0 : T_api_Conn) (r0 : IntKind.i64.has x0.State ∧ IntKind.u32.has x0.Next_c0 ∧ IntKind.u32.has x0.Next_c1 ∧ IntKind.u32.has x0.Edge_c0 ∧ IntKind.u32.has x0.Edge_c1) : F_law15_TcpRights x0 = true := by
  unfold F_law15_TcpRights N_law15_TcpRights G_law15_TcpRights
  simp only [a_Right, a_Life, beq_self_eq_true, cond_true]
  rfl

end Go.Proofs.Yteljeekapcenlaa
