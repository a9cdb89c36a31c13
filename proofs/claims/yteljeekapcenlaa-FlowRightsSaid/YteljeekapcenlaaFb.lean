/-
  Functions of the seat's program, printed by a program of ours: what each comes to, and that it is so. No conditions.
-/
import Derived.Test.YteljeekapcenlaaFr
import Derived.Test.YteljeekapcenlaaFz
namespace Go.Proofs.Yteljeekapcenlaa
open Go
set_option linter.unusedVariables false
set_option linter.unusedSimpArgs false
@[ext] structure T_law17_Caps where
  c0 : Int
  c1 : Int
noncomputable def c_law17_Caps (x : T_law17_Caps) : List Value := [.int .i64 x.c0, .int .i64 x.c1]
noncomputable def v_law17_Caps (x : T_law17_Caps) : Value := .agg ⟨[.int .i64 x.c0, .int .i64 x.c1]⟩
noncomputable def u_law17_Caps (v : Value) : T_law17_Caps := match v with | .agg ⟨[a0, a1]⟩ => ⟨Ev.uI a0, Ev.uI a1⟩ | _ => ⟨0, 0⟩
noncomputable def d_law17_Caps (v : Value) (c : T_law17_Caps → Ev.Res) : Ev.Res := match v with | .agg ⟨[a0, a1]⟩ => Ev.gI .i64 a0 fun b0 => Ev.gI .i64 a1 fun b1 => c ⟨b0, b1⟩ | _ => none
theorem d_law17_Caps_ok {v : Value} {c : T_law17_Caps → Ev.Res} {r : Value × Ev.AH} (h : d_law17_Caps v c = some r) : ∃ x, v = v_law17_Caps x ∧ c x = some r := by
  unfold d_law17_Caps at h
  split at h
  · obtain ⟨b0, rfl, h0⟩ := Ev.gI_ok h
    obtain ⟨b1, rfl, h1⟩ := Ev.gI_ok h0
    exact ⟨⟨b0, b1⟩, rfl, h1⟩
  · cases h
theorem rl_d_law17_Caps {S : (Value × Ev.AH) → Ev.Res → Prop} {v : Value} {c c2 : T_law17_Caps → Ev.Res} (h : ∀ a, Ev.Rl S (c a) (c2 a)) : Ev.Rl S (d_law17_Caps v c) (d_law17_Caps v c2) := by
  unfold d_law17_Caps
  split
  · refine Ev.rl_gI fun _ => ?_
    refine Ev.rl_gI fun _ => ?_
    exact h _
  · exact Ev.Rl.none
noncomputable def MtFb : Ev.Mats := { slots := fun f i => [], cells := fun f i => [], own := fun f => false }
-- stockadelaw16.FlowRights
-- DEEP law16_FlowRights 10 - T_api_Flow → D_api_Seg → Int → Option Bool
noncomputable def e_law16_FlowRights (x : Bool) : Value := .bool x
noncomputable def E_law16_FlowRights (x : Bool) : Value × Ev.AH := (e_law16_FlowRights x, ⟨[], 0, []⟩)
noncomputable def s_law16_FlowRights (F : T_api_Flow → D_api_Seg → Int → Option Bool) : Ev.Sp := fun vs k => Ev.kU vs fun a0 r0 => Ev.kU r0 fun a1 r1 => Ev.kU r1 fun a2 r2 => Ev.kE r2 <| d_api_Flow a0 fun x0 => d_api_Seg a1 fun x1 => Ev.gI .i64 a2 fun x2 => Ev.bnd (F x0 x1 x2) fun x => k (e_law16_FlowRights x)
theorem rs_law16_FlowRights (F : T_api_Flow → D_api_Seg → Int → Option Bool) : Ev.SpRl (s_law16_FlowRights F) := by
  intro S vs k k2 hk
  unfold s_law16_FlowRights
  refine Ev.rl_kU fun _ _ => ?_
  refine Ev.rl_kU fun _ _ => ?_
  refine Ev.rl_kU fun _ _ => ?_
  refine Ev.rl_kE ?_
  refine rl_d_api_Flow fun _ => ?_
  refine rl_d_api_Seg fun _ => ?_
  refine Ev.rl_gI fun _ => ?_
  exact Ev.Rl.bnd fun x => hk _
noncomputable def Ew_law16_FlowRights (F_flow_Start : D_api_Seg → Int → Int → Option (T_api_Flow × Int)) (F_r16_Start : D_api_Seg → Int → Int → Option (T_api_Flow × Int)) (F_flow_Right : T_api_Flow → Option Bool) (F_r16_Right : T_api_Flow → Option Bool) (F_law16_alive : Option Bool) : Ev.Env := Ev.Env.with Ed [(39, s_flow_Start F_flow_Start), (40, s_r16_Start F_r16_Start), (41, s_flow_Right F_flow_Right), (42, s_r16_Right F_r16_Right), (43, s_law16_alive F_law16_alive)]
noncomputable def Es_law16_FlowRights (F_flow_Start : D_api_Seg → Int → Int → Option (T_api_Flow × Int)) (F_r16_Start : D_api_Seg → Int → Int → Option (T_api_Flow × Int)) (F_flow_Right : T_api_Flow → Option Bool) (F_r16_Right : T_api_Flow → Option Bool) (F_law16_alive : Option Bool) : Ev.Env := Ev.Env.inl (Ew_law16_FlowRights F_flow_Start F_r16_Start F_flow_Right F_r16_Right F_law16_alive) MtFb [] 40 12
noncomputable def O_law16_FlowRights (F_flow_Start : D_api_Seg → Int → Int → Option (T_api_Flow × Int)) (F_r16_Start : D_api_Seg → Int → Int → Option (T_api_Flow × Int)) (F_flow_Right : T_api_Flow → Option Bool) (F_r16_Right : T_api_Flow → Option Bool) (F_law16_alive : Option Bool) : Ev.Orc := fun _ _ _ => none
noncomputable def N_law16_FlowRights (F_flow_Start : D_api_Seg → Int → Int → Option (T_api_Flow × Int)) (F_r16_Start : D_api_Seg → Int → Int → Option (T_api_Flow × Int)) (F_flow_Right : T_api_Flow → Option Bool) (F_r16_Right : T_api_Flow → Option Bool) (F_law16_alive : Option Bool) (m : Nat) (x0 : T_api_Flow) (x1 : D_api_Seg) (x2 : Int) : Option Bool := Ev.bnd (F_flow_Start x1 x2 x0.Help) fun v0 => Ev.bnd (F_r16_Start x1 x2 x0.Help) fun v1 => Ev.bnd (F_flow_Right x0) fun v2 => Ev.bnd (F_r16_Right x0) fun v3 => bif v2 == v3 then bif v0.fst.Tuple_Fam == v1.fst.Tuple_Fam && (v0.fst.Tuple_Proto == v1.fst.Tuple_Proto && (v0.fst.Tuple_Src_Fam == v1.fst.Tuple_Src_Fam && (v0.fst.Tuple_Src_Hi == v1.fst.Tuple_Src_Hi && (v0.fst.Tuple_Src_Lo == v1.fst.Tuple_Src_Lo && (v0.fst.Tuple_Dst_Fam == v1.fst.Tuple_Dst_Fam && (v0.fst.Tuple_Dst_Hi == v1.fst.Tuple_Dst_Hi && (v0.fst.Tuple_Dst_Lo == v1.fst.Tuple_Dst_Lo && (v0.fst.Tuple_Sport == v1.fst.Tuple_Sport && (v0.fst.Tuple_Dport == v1.fst.Tuple_Dport && (v0.fst.Conn_State == v1.fst.Conn_State && (v0.fst.Conn_Next_c0 == v1.fst.Conn_Next_c0 && (v0.fst.Conn_Next_c1 == v1.fst.Conn_Next_c1 && (v0.fst.Conn_Edge_c0 == v1.fst.Conn_Edge_c0 && (v0.fst.Conn_Edge_c1 == v1.fst.Conn_Edge_c1 && (v0.fst.Conn_Known_c0 == v1.fst.Conn_Known_c0 && (v0.fst.Conn_Known_c1 == v1.fst.Conn_Known_c1 && (v0.fst.Conn_Ended_c0 == v1.fst.Conn_Ended_c0 && (v0.fst.Conn_Ended_c1 == v1.fst.Conn_Ended_c1 && (v0.fst.Ends == v1.fst.Ends && (v0.fst.Help == v1.fst.Help && (v0.fst.Both == v1.fst.Both && true))))))))))))))))))))) then bif v0.snd == v1.snd then Ev.bnd F_law16_alive fun v4 => some v4 else some false else some false else some false
theorem pr_law16_FlowRights (F_flow_Start : D_api_Seg → Int → Int → Option (T_api_Flow × Int)) (F_r16_Start : D_api_Seg → Int → Int → Option (T_api_Flow × Int)) (F_flow_Right : T_api_Flow → Option Bool) (F_r16_Right : T_api_Flow → Option Bool) (F_law16_alive : Option Bool) (m : Nat) (x0 : T_api_Flow) (x1 : D_api_Seg) (x2 : Int) : Ev.evBodyD (Es_law16_FlowRights F_flow_Start F_r16_Start F_flow_Right F_r16_Right F_law16_alive) MtFb (O_law16_FlowRights F_flow_Start F_r16_Start F_flow_Right F_r16_Right F_law16_alive) m 10 [v_api_Flow x0, v_api_Seg x1, .int .i64 x2] = Ev.oE E_law16_FlowRights (N_law16_FlowRights F_flow_Start F_r16_Start F_flow_Right F_r16_Right F_law16_alive m x0 x1 x2) := by
  simp only [N_law16_FlowRights, Ev.oE_some, Ev.oE_none, Ev.oE_cond, Ev.oE_bnd]
  kernel_rfl
noncomputable def F_law16_FlowRights : T_api_Flow → D_api_Seg → Int → Option Bool := fun x0 x1 x2 => N_law16_FlowRights F_flow_Start F_r16_Start F_flow_Right F_r16_Right F_law16_alive 0 x0 x1 x2
theorem ok_law16_FlowRights : Ev.EnvOk (Ew_law16_FlowRights F_flow_Start F_r16_Start F_flow_Right F_r16_Right F_law16_alive) := Ev.envOk_with envOkd (Ev.SpsOk.add (b := false) g_flow_Start (by kernel_rfl) (Ev.SpsOk.add (b := false) g_r16_Start (by kernel_rfl) (Ev.SpsOk.add (b := false) g_flow_Right (by kernel_rfl) (Ev.SpsOk.add (b := false) g_r16_Right (by kernel_rfl) (Ev.SpsOk.add (b := false) g_law16_alive (by kernel_rfl) Ev.SpsOk.nil)))))
theorem ro_law16_FlowRights (F_flow_Start : D_api_Seg → Int → Int → Option (T_api_Flow × Int)) (F_r16_Start : D_api_Seg → Int → Int → Option (T_api_Flow × Int)) (F_flow_Right : T_api_Flow → Option Bool) (F_r16_Right : T_api_Flow → Option Bool) (F_law16_alive : Option Bool) : Ev.SpecRl (Ew_law16_FlowRights F_flow_Start F_r16_Start F_flow_Right F_r16_Right F_law16_alive) := Ev.specRl_with rfl (Ev.SpsRl.cons (rs_flow_Start _) (Ev.SpsRl.cons (rs_r16_Start _) (Ev.SpsRl.cons (rs_flow_Right _) (Ev.SpsRl.cons (rs_r16_Right _) (Ev.SpsRl.cons (rs_law16_alive _) Ev.SpsRl.nil)))))
theorem g_law16_FlowRights : Ev.SpOk Try.prog false 10 (s_law16_FlowRights F_law16_FlowRights) := by
  refine Ev.SpOk.mkF fun vs k r g0 => ?_
  unfold s_law16_FlowRights at g0
  obtain ⟨a0, r0, rfl, g1⟩ := Ev.kU_ok g0
  obtain ⟨a1, r1, rfl, g2⟩ := Ev.kU_ok g1
  obtain ⟨a2, r2, rfl, g3⟩ := Ev.kU_ok g2
  obtain ⟨rfl, g4⟩ := Ev.kE_ok g3
  obtain ⟨x0, rfl, g5⟩ := d_api_Flow_ok g4
  obtain ⟨x1, rfl, g6⟩ := d_api_Seg_ok g5
  obtain ⟨x2, rfl, g7⟩ := Ev.gI_ok g6
  obtain ⟨x, hx, h⟩ := Ev.bnd_get g7
  have h1 := pr_law16_FlowRights F_flow_Start F_r16_Start F_flow_Right F_r16_Right F_law16_alive 0 x0 x1 x2
  rw [show N_law16_FlowRights F_flow_Start F_r16_Start F_flow_Right F_r16_Right F_law16_alive 0 x0 x1 x2 = some x from hx] at h1
  exact ⟨_, h, Ev.good_of_inl ok_law16_FlowRights (ro_law16_FlowRights F_flow_Start F_r16_Start F_flow_Right F_r16_Right F_law16_alive) rfl rfl Ev.TabOk.nil 40 12 _ h1⟩
-- stockadelaw16.FlowGoes
-- DEEP law16_FlowGoes 11 - T_api_Flow → D_api_Seg → T_law17_Caps → Option Bool
noncomputable def e_law16_FlowGoes (x : Bool) : Value := .bool x
noncomputable def E_law16_FlowGoes (x : Bool) : Value × Ev.AH := (e_law16_FlowGoes x, ⟨[], 0, []⟩)
noncomputable def s_law16_FlowGoes (F : T_api_Flow → D_api_Seg → T_law17_Caps → Option Bool) : Ev.Sp := fun vs k => Ev.kU vs fun a0 r0 => Ev.kU r0 fun a1 r1 => Ev.kU r1 fun a2 r2 => Ev.kE r2 <| d_api_Flow a0 fun x0 => d_api_Seg a1 fun x1 => d_law17_Caps a2 fun x2 => Ev.bnd (F x0 x1 x2) fun x => k (e_law16_FlowGoes x)
theorem rs_law16_FlowGoes (F : T_api_Flow → D_api_Seg → T_law17_Caps → Option Bool) : Ev.SpRl (s_law16_FlowGoes F) := by
  intro S vs k k2 hk
  unfold s_law16_FlowGoes
  refine Ev.rl_kU fun _ _ => ?_
  refine Ev.rl_kU fun _ _ => ?_
  refine Ev.rl_kU fun _ _ => ?_
  refine Ev.rl_kE ?_
  refine rl_d_api_Flow fun _ => ?_
  refine rl_d_api_Seg fun _ => ?_
  refine rl_d_law17_Caps fun _ => ?_
  exact Ev.Rl.bnd fun x => hk _
noncomputable def Ew_law16_FlowGoes (F_flow_Go : T_api_Flow → Int → D_api_Seg → Int → Option (T_api_Flow × Int)) (F_r16_Go : T_api_Flow → Int → D_api_Seg → Int → Option (T_api_Flow × Int)) (F_law16_alive : Option Bool) : Ev.Env := Ev.Env.with Ed [(44, s_flow_Go F_flow_Go), (45, s_r16_Go F_r16_Go), (43, s_law16_alive F_law16_alive)]
noncomputable def Es_law16_FlowGoes (F_flow_Go : T_api_Flow → Int → D_api_Seg → Int → Option (T_api_Flow × Int)) (F_r16_Go : T_api_Flow → Int → D_api_Seg → Int → Option (T_api_Flow × Int)) (F_law16_alive : Option Bool) : Ev.Env := Ev.Env.inl (Ew_law16_FlowGoes F_flow_Go F_r16_Go F_law16_alive) MtFb [] 40 12
noncomputable def O_law16_FlowGoes (F_flow_Go : T_api_Flow → Int → D_api_Seg → Int → Option (T_api_Flow × Int)) (F_r16_Go : T_api_Flow → Int → D_api_Seg → Int → Option (T_api_Flow × Int)) (F_law16_alive : Option Bool) : Ev.Orc := fun _ _ _ => none
noncomputable def N_law16_FlowGoes (F_flow_Go : T_api_Flow → Int → D_api_Seg → Int → Option (T_api_Flow × Int)) (F_r16_Go : T_api_Flow → Int → D_api_Seg → Int → Option (T_api_Flow × Int)) (F_law16_alive : Option Bool) (m : Nat) (x0 : T_api_Flow) (x1 : D_api_Seg) (x2 : T_law17_Caps) : Option Bool := Ev.bnd (F_flow_Go x0 x2.c0 x1 x2.c1) fun v0 => Ev.bnd (F_r16_Go x0 x2.c0 x1 x2.c1) fun v1 => bif v0.fst.Tuple_Fam == v1.fst.Tuple_Fam && (v0.fst.Tuple_Proto == v1.fst.Tuple_Proto && (v0.fst.Tuple_Src_Fam == v1.fst.Tuple_Src_Fam && (v0.fst.Tuple_Src_Hi == v1.fst.Tuple_Src_Hi && (v0.fst.Tuple_Src_Lo == v1.fst.Tuple_Src_Lo && (v0.fst.Tuple_Dst_Fam == v1.fst.Tuple_Dst_Fam && (v0.fst.Tuple_Dst_Hi == v1.fst.Tuple_Dst_Hi && (v0.fst.Tuple_Dst_Lo == v1.fst.Tuple_Dst_Lo && (v0.fst.Tuple_Sport == v1.fst.Tuple_Sport && (v0.fst.Tuple_Dport == v1.fst.Tuple_Dport && (v0.fst.Conn_State == v1.fst.Conn_State && (v0.fst.Conn_Next_c0 == v1.fst.Conn_Next_c0 && (v0.fst.Conn_Next_c1 == v1.fst.Conn_Next_c1 && (v0.fst.Conn_Edge_c0 == v1.fst.Conn_Edge_c0 && (v0.fst.Conn_Edge_c1 == v1.fst.Conn_Edge_c1 && (v0.fst.Conn_Known_c0 == v1.fst.Conn_Known_c0 && (v0.fst.Conn_Known_c1 == v1.fst.Conn_Known_c1 && (v0.fst.Conn_Ended_c0 == v1.fst.Conn_Ended_c0 && (v0.fst.Conn_Ended_c1 == v1.fst.Conn_Ended_c1 && (v0.fst.Ends == v1.fst.Ends && (v0.fst.Help == v1.fst.Help && (v0.fst.Both == v1.fst.Both && true))))))))))))))))))))) then bif v0.snd == v1.snd then Ev.bnd F_law16_alive fun v2 => some v2 else some false else some false
theorem pr_law16_FlowGoes (F_flow_Go : T_api_Flow → Int → D_api_Seg → Int → Option (T_api_Flow × Int)) (F_r16_Go : T_api_Flow → Int → D_api_Seg → Int → Option (T_api_Flow × Int)) (F_law16_alive : Option Bool) (m : Nat) (x0 : T_api_Flow) (x1 : D_api_Seg) (x2 : T_law17_Caps) : Ev.evBodyD (Es_law16_FlowGoes F_flow_Go F_r16_Go F_law16_alive) MtFb (O_law16_FlowGoes F_flow_Go F_r16_Go F_law16_alive) m 11 [v_api_Flow x0, v_api_Seg x1, v_law17_Caps x2] = Ev.oE E_law16_FlowGoes (N_law16_FlowGoes F_flow_Go F_r16_Go F_law16_alive m x0 x1 x2) := by
  simp only [N_law16_FlowGoes, Ev.oE_some, Ev.oE_none, Ev.oE_cond, Ev.oE_bnd]
  kernel_rfl
noncomputable def F_law16_FlowGoes : T_api_Flow → D_api_Seg → T_law17_Caps → Option Bool := fun x0 x1 x2 => N_law16_FlowGoes F_flow_Go F_r16_Go F_law16_alive 0 x0 x1 x2
theorem ok_law16_FlowGoes : Ev.EnvOk (Ew_law16_FlowGoes F_flow_Go F_r16_Go F_law16_alive) := Ev.envOk_with envOkd (Ev.SpsOk.add (b := false) g_flow_Go (by kernel_rfl) (Ev.SpsOk.add (b := false) g_r16_Go (by kernel_rfl) (Ev.SpsOk.add (b := false) g_law16_alive (by kernel_rfl) Ev.SpsOk.nil)))
theorem ro_law16_FlowGoes (F_flow_Go : T_api_Flow → Int → D_api_Seg → Int → Option (T_api_Flow × Int)) (F_r16_Go : T_api_Flow → Int → D_api_Seg → Int → Option (T_api_Flow × Int)) (F_law16_alive : Option Bool) : Ev.SpecRl (Ew_law16_FlowGoes F_flow_Go F_r16_Go F_law16_alive) := Ev.specRl_with rfl (Ev.SpsRl.cons (rs_flow_Go _) (Ev.SpsRl.cons (rs_r16_Go _) (Ev.SpsRl.cons (rs_law16_alive _) Ev.SpsRl.nil)))
theorem g_law16_FlowGoes : Ev.SpOk Try.prog false 11 (s_law16_FlowGoes F_law16_FlowGoes) := by
  refine Ev.SpOk.mkF fun vs k r g0 => ?_
  unfold s_law16_FlowGoes at g0
  obtain ⟨a0, r0, rfl, g1⟩ := Ev.kU_ok g0
  obtain ⟨a1, r1, rfl, g2⟩ := Ev.kU_ok g1
  obtain ⟨a2, r2, rfl, g3⟩ := Ev.kU_ok g2
  obtain ⟨rfl, g4⟩ := Ev.kE_ok g3
  obtain ⟨x0, rfl, g5⟩ := d_api_Flow_ok g4
  obtain ⟨x1, rfl, g6⟩ := d_api_Seg_ok g5
  obtain ⟨x2, rfl, g7⟩ := d_law17_Caps_ok g6
  obtain ⟨x, hx, h⟩ := Ev.bnd_get g7
  have h1 := pr_law16_FlowGoes F_flow_Go F_r16_Go F_law16_alive 0 x0 x1 x2
  rw [show N_law16_FlowGoes F_flow_Go F_r16_Go F_law16_alive 0 x0 x1 x2 = some x from hx] at h1
  exact ⟨_, h, Ev.good_of_inl ok_law16_FlowGoes (ro_law16_FlowGoes F_flow_Go F_r16_Go F_law16_alive) rfl rfl Ev.TabOk.nil 40 12 _ h1⟩
end Go.Proofs.Yteljeekapcenlaa
