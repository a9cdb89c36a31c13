/-
  Functions of the seat's program, printed by a program of ours: what each comes to, and that it is so. No conditions.
-/
import Derived.Test.YteljeekapcenlaaEnv
namespace Go.Proofs.Yteljeekapcenlaa
open Go
set_option linter.unusedVariables false
set_option linter.unusedSimpArgs false
noncomputable def MtFz : Ev.Mats := { slots := fun f i => [], cells := fun f i => [], own := fun f => false }
noncomputable def EcFz : Ev.Env := ⟨Try.prog, tys, { mode := fun _ => 0, clear := clearOf, lit := lits, nrm := false }⟩
theorem envOkcFz : Ev.EnvOk EcFz := ⟨fits, names_ok, mixed_ok, fun _ _ h => (by cases h), fun _ _ h => (by cases h)⟩
-- stockadelaw16.alive
-- DEEP law16_alive 43 - Option Bool
noncomputable def e_law16_alive (x : Bool) : Value := .bool x
noncomputable def E_law16_alive (x : Bool) : Value × Ev.AH := (e_law16_alive x, ⟨[], 0, []⟩)
noncomputable def s_law16_alive (F : Option Bool) : Ev.Sp := fun vs k => Ev.kE vs <| Ev.bnd F fun x => k (e_law16_alive x)
theorem rs_law16_alive (F : Option Bool) : Ev.SpRl (s_law16_alive F) := by
  intro S vs k k2 hk
  unfold s_law16_alive
  refine Ev.rl_kE ?_
  exact Ev.Rl.bnd fun x => hk _
theorem run_law16_alive : Ev.evBody0 EcFz (Ev.evTab EcFz [] 60 40) (fun s => Ev.loopN s 60) 43 [] ⟨[], 0, []⟩ = Ev.ret (.bool true) := by kernel_rfl
noncomputable def F_law16_alive : Option Bool := some true
theorem g_law16_alive : Ev.SpOk Try.prog false 43 (s_law16_alive F_law16_alive) := by
  refine Ev.SpOk.mkF fun vs k r g0 => ?_
  unfold s_law16_alive at g0
  obtain ⟨rfl, g1⟩ := Ev.kE_ok g0
  obtain ⟨x, hx, h⟩ := Ev.bnd_get g1
  obtain rfl : true = x := Option.some.inj hx
  exact ⟨_, h, Ev.good_plain envOkcFz Ev.TabOk.nil run_law16_alive (by kernel_rfl) (by kernel_rfl) ⟨[], 0, []⟩⟩
end Go.Proofs.Yteljeekapcenlaa
