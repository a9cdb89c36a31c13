/-
  Functions of the seat's program, printed by a program of ours: what each comes to, and that it is so. No conditions.
-/
import Derived.Test.YtnkmdjngnmenbaaCa
import Derived.Test.YtnkmdjngnmenbaaCz
namespace Go.Proofs.Ytnkmdjngnmenbaa
open Go
set_option linter.unusedVariables false
set_option linter.unusedSimpArgs false
noncomputable def MtCb : Ev.Mats := { slots := fun f i => [], cells := fun f i => [], own := fun f => false }
-- stockadelaw11.ChunkSpots
-- DEEP law11_ChunkSpots 13 - T_api_Key → Int → Option Bool
noncomputable def e_law11_ChunkSpots (x : Bool) : Value := .bool x
noncomputable def E_law11_ChunkSpots (x : Bool) : Value × Ev.AH := (e_law11_ChunkSpots x, ⟨[], 0, []⟩)
noncomputable def s_law11_ChunkSpots (F : T_api_Key → Int → Option Bool) : Ev.Sp := fun vs k => Ev.kU vs fun a0 r0 => Ev.kU r0 fun a1 r1 => Ev.kE r1 <| d_api_Key a0 fun x0 => Ev.gI .i64 a1 fun x1 => Ev.bnd (F x0 x1) fun x => k (e_law11_ChunkSpots x)
theorem rs_law11_ChunkSpots (F : T_api_Key → Int → Option Bool) : Ev.SpRl (s_law11_ChunkSpots F) := by
  intro S vs k k2 hk
  unfold s_law11_ChunkSpots
  refine Ev.rl_kU fun _ _ => ?_
  refine Ev.rl_kU fun _ _ => ?_
  refine Ev.rl_kE ?_
  refine rl_d_api_Key fun _ => ?_
  refine Ev.rl_gI fun _ => ?_
  exact Ev.Rl.bnd fun x => hk _
noncomputable def Ew_law11_ChunkSpots (F_chunk_Spot : T_api_Key → Int → Option (T_api_Point × Bool)) (F_r11_Spot : T_api_Key → Int → Option (T_api_Point × Bool)) (F_law11_alive : Option Bool) : Ev.Env := Ev.Env.with Ed [(40, s_chunk_Spot F_chunk_Spot), (41, s_r11_Spot F_r11_Spot), (37, s_law11_alive F_law11_alive)]
noncomputable def Es_law11_ChunkSpots (F_chunk_Spot : T_api_Key → Int → Option (T_api_Point × Bool)) (F_r11_Spot : T_api_Key → Int → Option (T_api_Point × Bool)) (F_law11_alive : Option Bool) : Ev.Env := Ev.Env.inl (Ew_law11_ChunkSpots F_chunk_Spot F_r11_Spot F_law11_alive) MtCb [] 40 12
noncomputable def O_law11_ChunkSpots (F_chunk_Spot : T_api_Key → Int → Option (T_api_Point × Bool)) (F_r11_Spot : T_api_Key → Int → Option (T_api_Point × Bool)) (F_law11_alive : Option Bool) : Ev.Orc := fun _ _ _ => none
theorem run_law11_ChunkSpots (F_chunk_Spot : T_api_Key → Int → Option (T_api_Point × Bool)) (F_r11_Spot : T_api_Key → Int → Option (T_api_Point × Bool)) (F_law11_alive : Option Bool) (m : Nat) (x0 : T_api_Key) (x1 : Int) : Ev.evBodyD (Es_law11_ChunkSpots F_chunk_Spot F_r11_Spot F_law11_alive) MtCb (O_law11_ChunkSpots F_chunk_Spot F_r11_Spot F_law11_alive) m 13 [v_api_Key x0, .int .i64 x1] = Ev.bnd (F_chunk_Spot { From := T_api_Key.From x0, To := T_api_Key.To x0, Src_Fam := T_api_Key.Src_Fam x0, Src_Hi := T_api_Key.Src_Hi x0, Src_Lo := T_api_Key.Src_Lo x0, Dst_Fam := T_api_Key.Dst_Fam x0, Dst_Hi := T_api_Key.Dst_Hi x0, Dst_Lo := T_api_Key.Dst_Lo x0, Proto := T_api_Key.Proto x0, Sport := T_api_Key.Sport x0, Dport := T_api_Key.Dport x0 } x1) fun v0 => Ev.bnd (F_r11_Spot { From := T_api_Key.From x0, To := T_api_Key.To x0, Src_Fam := T_api_Key.Src_Fam x0, Src_Hi := T_api_Key.Src_Hi x0, Src_Lo := T_api_Key.Src_Lo x0, Dst_Fam := T_api_Key.Dst_Fam x0, Dst_Hi := T_api_Key.Dst_Hi x0, Dst_Lo := T_api_Key.Dst_Lo x0, Proto := T_api_Key.Proto x0, Sport := T_api_Key.Sport x0, Dport := T_api_Key.Dport x0 } x1) fun v1 => bif T_api_Point.A (Prod.fst v0) == T_api_Point.A (Prod.fst v1) && (T_api_Point.B (Prod.fst v0) == T_api_Point.B (Prod.fst v1) && (T_api_Point.C (Prod.fst v0) == T_api_Point.C (Prod.fst v1) && true)) then bif Prod.snd v0 == Prod.snd v1 then Ev.bnd F_law11_alive fun v2 => Ev.ret2 (E_law11_ChunkSpots v2) else Ev.ret2 (E_law11_ChunkSpots false) else Ev.ret2 (E_law11_ChunkSpots false) := by kernel_rfl
noncomputable def N_law11_ChunkSpots (F_chunk_Spot : T_api_Key → Int → Option (T_api_Point × Bool)) (F_r11_Spot : T_api_Key → Int → Option (T_api_Point × Bool)) (F_law11_alive : Option Bool) (m : Nat) (x0 : T_api_Key) (x1 : Int) : Option Bool := Ev.bnd (F_chunk_Spot { From := T_api_Key.From x0, To := T_api_Key.To x0, Src_Fam := T_api_Key.Src_Fam x0, Src_Hi := T_api_Key.Src_Hi x0, Src_Lo := T_api_Key.Src_Lo x0, Dst_Fam := T_api_Key.Dst_Fam x0, Dst_Hi := T_api_Key.Dst_Hi x0, Dst_Lo := T_api_Key.Dst_Lo x0, Proto := T_api_Key.Proto x0, Sport := T_api_Key.Sport x0, Dport := T_api_Key.Dport x0 } x1) fun v0 => Ev.bnd (F_r11_Spot { From := T_api_Key.From x0, To := T_api_Key.To x0, Src_Fam := T_api_Key.Src_Fam x0, Src_Hi := T_api_Key.Src_Hi x0, Src_Lo := T_api_Key.Src_Lo x0, Dst_Fam := T_api_Key.Dst_Fam x0, Dst_Hi := T_api_Key.Dst_Hi x0, Dst_Lo := T_api_Key.Dst_Lo x0, Proto := T_api_Key.Proto x0, Sport := T_api_Key.Sport x0, Dport := T_api_Key.Dport x0 } x1) fun v1 => bif T_api_Point.A (Prod.fst v0) == T_api_Point.A (Prod.fst v1) && (T_api_Point.B (Prod.fst v0) == T_api_Point.B (Prod.fst v1) && (T_api_Point.C (Prod.fst v0) == T_api_Point.C (Prod.fst v1) && true)) then bif Prod.snd v0 == Prod.snd v1 then Ev.bnd F_law11_alive fun v2 => some v2 else some false else some false
theorem pr_law11_ChunkSpots (F_chunk_Spot : T_api_Key → Int → Option (T_api_Point × Bool)) (F_r11_Spot : T_api_Key → Int → Option (T_api_Point × Bool)) (F_law11_alive : Option Bool) (m : Nat) (x0 : T_api_Key) (x1 : Int) : Ev.evBodyD (Es_law11_ChunkSpots F_chunk_Spot F_r11_Spot F_law11_alive) MtCb (O_law11_ChunkSpots F_chunk_Spot F_r11_Spot F_law11_alive) m 13 [v_api_Key x0, .int .i64 x1] = Ev.oE E_law11_ChunkSpots (N_law11_ChunkSpots F_chunk_Spot F_r11_Spot F_law11_alive m x0 x1) := by
  rw [run_law11_ChunkSpots F_chunk_Spot F_r11_Spot F_law11_alive m x0 x1]
  simp only [N_law11_ChunkSpots, Ev.oE_some, Ev.oE_none, Ev.oE_cond, Ev.oE_bnd]
noncomputable def F_law11_ChunkSpots : T_api_Key → Int → Option Bool := fun x0 x1 => N_law11_ChunkSpots F_chunk_Spot F_r11_Spot F_law11_alive 0 x0 x1
theorem ok_law11_ChunkSpots : Ev.EnvOk (Ew_law11_ChunkSpots F_chunk_Spot F_r11_Spot F_law11_alive) := Ev.envOk_with envOkd (Ev.SpsOk.add (b := false) g_chunk_Spot (by kernel_rfl) (Ev.SpsOk.add (b := false) g_r11_Spot (by kernel_rfl) (Ev.SpsOk.add (b := false) g_law11_alive (by kernel_rfl) Ev.SpsOk.nil)))
theorem ro_law11_ChunkSpots (F_chunk_Spot : T_api_Key → Int → Option (T_api_Point × Bool)) (F_r11_Spot : T_api_Key → Int → Option (T_api_Point × Bool)) (F_law11_alive : Option Bool) : Ev.SpecRl (Ew_law11_ChunkSpots F_chunk_Spot F_r11_Spot F_law11_alive) := Ev.specRl_with rfl (Ev.SpsRl.cons (rs_chunk_Spot _) (Ev.SpsRl.cons (rs_r11_Spot _) (Ev.SpsRl.cons (rs_law11_alive _) Ev.SpsRl.nil)))
theorem g_law11_ChunkSpots : Ev.SpOk Try.prog false 13 (s_law11_ChunkSpots F_law11_ChunkSpots) := by
  refine Ev.SpOk.mkF fun vs k r g0 => ?_
  unfold s_law11_ChunkSpots at g0
  obtain ⟨a0, r0, rfl, g1⟩ := Ev.kU_ok g0
  obtain ⟨a1, r1, rfl, g2⟩ := Ev.kU_ok g1
  obtain ⟨rfl, g3⟩ := Ev.kE_ok g2
  obtain ⟨x0, rfl, g4⟩ := d_api_Key_ok g3
  obtain ⟨x1, rfl, g5⟩ := Ev.gI_ok g4
  obtain ⟨x, hx, h⟩ := Ev.bnd_get g5
  have h1 := pr_law11_ChunkSpots F_chunk_Spot F_r11_Spot F_law11_alive 0 x0 x1
  rw [show N_law11_ChunkSpots F_chunk_Spot F_r11_Spot F_law11_alive 0 x0 x1 = some x from hx] at h1
  exact ⟨_, h, Ev.good_of_inl ok_law11_ChunkSpots (ro_law11_ChunkSpots F_chunk_Spot F_r11_Spot F_law11_alive) rfl rfl Ev.TabOk.nil 40 12 _ h1⟩
end Go.Proofs.Ytnkmdjngnmenbaa
