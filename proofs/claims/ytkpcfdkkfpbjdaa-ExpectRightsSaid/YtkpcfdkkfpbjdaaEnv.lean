/-
  The seat's program as Ev wants it, and that it is fit for it. No conditions.
-/
import Derived.Test.YtkpcfdkkfpbjdaaTy
import Derived.Test.YtkpcfdkkfpbjdaaEvM
namespace Go.Proofs.Ytkpcfdkkfpbjdaa
open Go

noncomputable def modes : List Nat := [0, 0, 0, 2, 0, 0, 0, 2, 2, 2, 2, 2, 2, 0, 0, 0, 0, 0, 0, 2, 2, 0, 0, 0, 0, 0, 2, 2, 2, 2, 0, 0, 0, 0, 2, 2, 0, 0, 0, 0, 0, 2, 2, 2, 2, 0, 2, 0, 2, 0, 2, 0, 2, 0, 0, 0, 0, 0, 0, 0, 0, 2, 2, 0]
/-- calls with plain arguments and results run in a memory of their own -/
noncomputable def E : Ev.Env := ⟨Try.prog, tys, ⟨fun f => match Ev.getL modes f with | some m => m | none => 0, fun _ _ => []⟩⟩
/-- all calls that write nothing that was there -/
noncomputable def E1 : Ev.Env := ⟨Try.prog, tys, ⟨fun _ => 1, fun _ _ => []⟩⟩
/-- all calls in the memory as it is -/
noncomputable def E0 : Ev.Env := ⟨Try.prog, tys, ⟨fun _ => 0, fun _ _ => []⟩⟩

theorem names_all : (Try.prog.funcs.toList.all fun fn => !(fn.body.isSome && (fn.name == "runtime.NumGoroutine"))) = true := by kernel_rfl
theorem names_ok (f : FuncId) (fn : Func) (h : Try.prog.funcs[f]? = some fn) (hb : fn.body.isSome = true) : (fn.name == "runtime.NumGoroutine") = false := by
  have hm : fn ∈ Try.prog.funcs.toList := by
    have := Array.mem_of_getElem? h
    simpa using this
  have := List.all_eq_true.1 names_all fn hm
  rw [hb] at this
  simpa using this
theorem mixed_ok : Try.prog.follows .mixedOrders = true := by kernel_rfl
theorem envOk : Ev.EnvOk E := ⟨fits, names_ok, mixed_ok⟩
theorem envOk1 : Ev.EnvOk E1 := ⟨fits, names_ok, mixed_ok⟩
theorem envOk0 : Ev.EnvOk E0 := ⟨fits, names_ok, mixed_ok⟩
end Go.Proofs.Ytkpcfdkkfpbjdaa
