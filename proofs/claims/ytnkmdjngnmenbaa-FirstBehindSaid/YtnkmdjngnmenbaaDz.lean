/-
  Functions of the seat's program, printed by a program of ours: what each comes to, and that it is so. No conditions.
-/
import Derived.Test.YtnkmdjngnmenbaaEnv
namespace Go.Proofs.Ytnkmdjngnmenbaa
open Go
set_option linter.unusedVariables false
set_option linter.unusedSimpArgs false
noncomputable def MtDz : Ev.Mats := { slots := fun f i => [], cells := fun f i => [], own := fun f => false }
-- stockadelaw10.alive
-- DEEP law10_alive 28 - Option Bool
noncomputable def e_law10_alive (x : Bool) : Value := .bool x
noncomputable def E_law10_alive (x : Bool) : Value × Ev.AH := (e_law10_alive x, ⟨[], 0, []⟩)
noncomputable def s_law10_alive (F : Option Bool) : Ev.Sp := fun vs k => Ev.kE vs <| Ev.bnd F fun x => k (e_law10_alive x)
theorem rs_law10_alive (F : Option Bool) : Ev.SpRl (s_law10_alive F) := by
  intro S vs k k2 hk
  unfold s_law10_alive
  refine Ev.rl_kE ?_
  exact Ev.Rl.bnd fun x => hk _
noncomputable def Ew_law10_alive : Ev.Env := Ev.Env.with Ed []
noncomputable def Es_law10_alive : Ev.Env := Ev.Env.inl (Ew_law10_alive ) MtDz [] 40 30
noncomputable def O_law10_alive : Ev.Orc := fun _ _ _ => none
theorem run_law10_alive (m : Nat)  : Ev.evBodyD (Es_law10_alive ) MtDz (O_law10_alive ) 40 28 [] = Ev.ret2 (E_law10_alive true) := by kernel_rfl
noncomputable def N_law10_alive (m : Nat)  : Option Bool := some true
theorem pr_law10_alive (m : Nat)  : Ev.evBodyD (Es_law10_alive ) MtDz (O_law10_alive ) 40 28 [] = Ev.oE E_law10_alive (N_law10_alive m) := by
  rw [run_law10_alive m]
  simp only [N_law10_alive, Ev.oE_some, Ev.oE_none, Ev.oE_cond, Ev.oE_bnd]
noncomputable def F_law10_alive : Option Bool := N_law10_alive 0
theorem ok_law10_alive : Ev.EnvOk (Ew_law10_alive ) := Ev.envOk_with envOkd Ev.SpsOk.nil
theorem ro_law10_alive : Ev.SpecRl (Ew_law10_alive ) := Ev.specRl_with rfl Ev.SpsRl.nil
theorem g_law10_alive : Ev.SpOk Try.prog false 28 (s_law10_alive F_law10_alive) := by
  refine Ev.SpOk.mkF fun vs k r g0 => ?_
  unfold s_law10_alive at g0
  obtain ⟨rfl, g1⟩ := Ev.kE_ok g0
  obtain ⟨x, hx, h⟩ := Ev.bnd_get g1
  have h1 := pr_law10_alive  0 
  rw [show N_law10_alive  0  = some x from hx] at h1
  exact ⟨_, h, Ev.good_of_inl ok_law10_alive (ro_law10_alive ) rfl rfl Ev.TabOk.nil 40 30 _ h1⟩
end Go.Proofs.Ytnkmdjngnmenbaa
