/-
  Functions of the seat's program, printed by a program of ours: what each comes to, and that it is so. No conditions.
-/
import Derived.Test.YtnkmdjngnmenbaaEnv
namespace Go.Proofs.Ytnkmdjngnmenbaa
open Go
set_option linter.unusedVariables false
set_option linter.unusedSimpArgs false
noncomputable def MtCz : Ev.Mats := { slots := fun f i => [], cells := fun f i => [], own := fun f => false }
noncomputable def EcCz : Ev.Env := ⟨Try.prog, tys, { mode := fun _ => 0, clear := clearOf, lit := lits, nrm := false }⟩
theorem envOkcCz : Ev.EnvOk EcCz := ⟨fits, names_ok, mixed_ok, fun _ _ h => (by cases h), fun _ _ h => (by cases h)⟩
-- stockadelaw11.alive
-- DEEP law11_alive 37 - Option Bool
noncomputable def e_law11_alive (x : Bool) : Value := .bool x
noncomputable def E_law11_alive (x : Bool) : Value × Ev.AH := (e_law11_alive x, ⟨[], 0, []⟩)
noncomputable def s_law11_alive (F : Option Bool) : Ev.Sp := fun vs k => Ev.kE vs <| Ev.bnd F fun x => k (e_law11_alive x)
theorem rs_law11_alive (F : Option Bool) : Ev.SpRl (s_law11_alive F) := by
  intro S vs k k2 hk
  unfold s_law11_alive
  refine Ev.rl_kE ?_
  exact Ev.Rl.bnd fun x => hk _
theorem run_law11_alive : Ev.evBody0 EcCz (Ev.evTab EcCz [] 60 40) (fun s => Ev.loopN s 60) 37 [] ⟨[], 0, []⟩ = Ev.ret (.bool true) := by kernel_rfl
noncomputable def F_law11_alive : Option Bool := some true
theorem g_law11_alive : Ev.SpOk Try.prog false 37 (s_law11_alive F_law11_alive) := by
  refine Ev.SpOk.mkF fun vs k r g0 => ?_
  unfold s_law11_alive at g0
  obtain ⟨rfl, g1⟩ := Ev.kE_ok g0
  obtain ⟨x, hx, h⟩ := Ev.bnd_get g1
  obtain rfl : true = x := Option.some.inj hx
  exact ⟨_, h, Ev.good_plain envOkcCz Ev.TabOk.nil run_law11_alive (by kernel_rfl) (by kernel_rfl) ⟨[], 0, []⟩⟩
end Go.Proofs.Ytnkmdjngnmenbaa
