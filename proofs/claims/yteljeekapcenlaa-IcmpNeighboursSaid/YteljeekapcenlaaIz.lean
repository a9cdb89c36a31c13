/-
  Functions of the seat's program, printed by a program of ours: what each comes to, and that it is so. No conditions.
-/
import Derived.Test.YteljeekapcenlaaEnv
namespace Go.Proofs.Yteljeekapcenlaa
open Go
set_option linter.unusedVariables false
set_option linter.unusedSimpArgs false
noncomputable def MtIz : Ev.Mats := { slots := fun f i => [], cells := fun f i => [], own := fun f => Nat.beq f 175 }
noncomputable def EcIz : Ev.Env := ⟨Try.prog, tys, { mode := fun _ => 0, clear := clearOf, lit := lits, nrm := false }⟩
theorem envOkcIz : Ev.EnvOk EcIz := ⟨fits, names_ok, mixed_ok, fun _ _ h => (by cases h), fun _ _ h => (by cases h)⟩
-- stockadelaw21.alive
-- DEEP law21_alive 79 - Option Bool
noncomputable def e_law21_alive (x : Bool) : Value := .bool x
noncomputable def E_law21_alive (x : Bool) : Value × Ev.AH := (e_law21_alive x, ⟨[], 0, []⟩)
noncomputable def s_law21_alive (F : Option Bool) : Ev.Sp := fun vs k => Ev.kE vs <| Ev.bnd F fun x => k (e_law21_alive x)
theorem rs_law21_alive (F : Option Bool) : Ev.SpRl (s_law21_alive F) := by
  intro S vs k k2 hk
  unfold s_law21_alive
  refine Ev.rl_kE ?_
  exact Ev.Rl.bnd fun x => hk _
theorem run_law21_alive : Ev.evBody0 EcIz (Ev.evTab EcIz [] 60 40) (fun s => Ev.loopN s 60) 79 [] ⟨[], 0, []⟩ = Ev.ret (.bool true) := by kernel_rfl
noncomputable def F_law21_alive : Option Bool := some true
theorem g_law21_alive : Ev.SpOk Try.prog false 79 (s_law21_alive F_law21_alive) := by
  refine Ev.SpOk.mkF fun vs k r g0 => ?_
  unfold s_law21_alive at g0
  obtain ⟨rfl, g1⟩ := Ev.kE_ok g0
  obtain ⟨x, hx, h⟩ := Ev.bnd_get g1
  obtain rfl : true = x := Option.some.inj hx
  exact ⟨_, h, Ev.good_plain envOkcIz Ev.TabOk.nil run_law21_alive (by kernel_rfl) (by kernel_rfl) ⟨[], 0, []⟩⟩
end Go.Proofs.Yteljeekapcenlaa
