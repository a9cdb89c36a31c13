/-
  Functions of the seat's program, printed by a program of ours: what each comes to, and that it is so. No conditions.
-/
import Derived.Test.YteljeekapcenlaaIz
import Derived.Test.YteljeekapcenlaaIl
namespace Go.Proofs.Yteljeekapcenlaa
open Go
set_option linter.unusedVariables false
set_option linter.unusedSimpArgs false
noncomputable def MtIc : Ev.Mats := { slots := fun f i => [], cells := fun f i => [], own := fun f => Nat.beq f 175 }
-- addr.Right
-- DEEP addr_Right 140 - T_api_Addr → Option Bool
noncomputable def e_addr_Right (x : Bool) : Value := .bool x
noncomputable def E_addr_Right (x : Bool) : Value × Ev.AH := (e_addr_Right x, ⟨[], 0, []⟩)
noncomputable def s_addr_Right (F : T_api_Addr → Option Bool) : Ev.Sp := fun vs k => Ev.kU vs fun a0 r0 => Ev.kE r0 <| d_api_Addr a0 fun x0 => Ev.bnd (F x0) fun x => k (e_addr_Right x)
theorem rs_addr_Right (F : T_api_Addr → Option Bool) : Ev.SpRl (s_addr_Right F) := by
  intro S vs k k2 hk
  unfold s_addr_Right
  refine Ev.rl_kU fun _ _ => ?_
  refine Ev.rl_kE ?_
  refine rl_d_api_Addr fun _ => ?_
  exact Ev.Rl.bnd fun x => hk _
noncomputable def Ew_addr_Right : Ev.Env := Ev.Env.with Ed []
noncomputable def Es_addr_Right : Ev.Env := Ev.Env.inl (Ew_addr_Right ) MtIc [] 40 12
noncomputable def O_addr_Right : Ev.Orc := fun _ _ _ => none
noncomputable def N_addr_Right (m : Nat) (x0 : T_api_Addr) : Option Bool := bif x0.Fam == 4 then bif x0.Hi == 0 then some (Int.fdiv x0.Lo 4294967296 == 0) else some false else bif x0.Fam == 6 then some true else some false
theorem pr_addr_Right (m : Nat) (x0 : T_api_Addr) : Ev.evBodyD (Es_addr_Right ) MtIc (O_addr_Right ) m 140 [v_api_Addr x0] = Ev.oE E_addr_Right (N_addr_Right m x0) := by
  simp only [N_addr_Right, Ev.oE_some, Ev.oE_none, Ev.oE_cond, Ev.oE_bnd]
  kernel_rfl
noncomputable def F_addr_Right : T_api_Addr → Option Bool := fun x0 => N_addr_Right 0 x0
theorem ok_addr_Right : Ev.EnvOk (Ew_addr_Right ) := Ev.envOk_with envOkd Ev.SpsOk.nil
theorem ro_addr_Right : Ev.SpecRl (Ew_addr_Right ) := Ev.specRl_with rfl Ev.SpsRl.nil
theorem g_addr_Right : Ev.SpOk Try.prog false 140 (s_addr_Right F_addr_Right) := by
  refine Ev.SpOk.mkF fun vs k r g0 => ?_
  unfold s_addr_Right at g0
  obtain ⟨a0, r0, rfl, g1⟩ := Ev.kU_ok g0
  obtain ⟨rfl, g2⟩ := Ev.kE_ok g1
  obtain ⟨x0, rfl, g3⟩ := d_api_Addr_ok g2
  obtain ⟨x, hx, h⟩ := Ev.bnd_get g3
  have h1 := pr_addr_Right  0 x0
  rw [show N_addr_Right  0 x0 = some x from hx] at h1
  exact ⟨_, h, Ev.good_of_inl ok_addr_Right (ro_addr_Right ) rfl rfl Ev.TabOk.nil 40 12 _ h1⟩
-- tuple.Local
-- DEEP tuple_Local 143 - T_api_Addr → Option Bool
noncomputable def e_tuple_Local (x : Bool) : Value := .bool x
noncomputable def E_tuple_Local (x : Bool) : Value × Ev.AH := (e_tuple_Local x, ⟨[], 0, []⟩)
noncomputable def s_tuple_Local (F : T_api_Addr → Option Bool) : Ev.Sp := fun vs k => Ev.kU vs fun a0 r0 => Ev.kE r0 <| d_api_Addr a0 fun x0 => Ev.bnd (F x0) fun x => k (e_tuple_Local x)
theorem rs_tuple_Local (F : T_api_Addr → Option Bool) : Ev.SpRl (s_tuple_Local F) := by
  intro S vs k k2 hk
  unfold s_tuple_Local
  refine Ev.rl_kU fun _ _ => ?_
  refine Ev.rl_kE ?_
  refine rl_d_api_Addr fun _ => ?_
  exact Ev.Rl.bnd fun x => hk _
noncomputable def Ew_tuple_Local (F_addr_Right : T_api_Addr → Option Bool) : Ev.Env := Ev.Env.with Ed [(140, s_addr_Right F_addr_Right)]
noncomputable def Es_tuple_Local (F_addr_Right : T_api_Addr → Option Bool) : Ev.Env := Ev.Env.inl (Ew_tuple_Local F_addr_Right) MtIc [] 40 12
noncomputable def O_tuple_Local (F_addr_Right : T_api_Addr → Option Bool) : Ev.Orc := fun _ _ _ => none
noncomputable def N_tuple_Local (F_addr_Right : T_api_Addr → Option Bool) (m : Nat) (x0 : T_api_Addr) : Option Bool := Ev.bnd (F_addr_Right x0) fun v0 => bif !v0 then some false else bif x0.Fam == 6 then bif x0.Hi == 0 then some (Ev.ltI x0.Lo 2) else some false else bif Int.fdiv x0.Lo 16777216 == 127 then some true else some (Int.fdiv x0.Lo 16777216 == 0)
theorem pr_tuple_Local (F_addr_Right : T_api_Addr → Option Bool) (m : Nat) (x0 : T_api_Addr) : Ev.evBodyD (Es_tuple_Local F_addr_Right) MtIc (O_tuple_Local F_addr_Right) m 143 [v_api_Addr x0] = Ev.oE E_tuple_Local (N_tuple_Local F_addr_Right m x0) := by
  simp only [N_tuple_Local, Ev.oE_some, Ev.oE_none, Ev.oE_cond, Ev.oE_bnd]
  kernel_rfl
noncomputable def F_tuple_Local : T_api_Addr → Option Bool := fun x0 => N_tuple_Local F_addr_Right 0 x0
theorem ok_tuple_Local : Ev.EnvOk (Ew_tuple_Local F_addr_Right) := Ev.envOk_with envOkd (Ev.SpsOk.add (b := false) g_addr_Right (by kernel_rfl) Ev.SpsOk.nil)
theorem ro_tuple_Local (F_addr_Right : T_api_Addr → Option Bool) : Ev.SpecRl (Ew_tuple_Local F_addr_Right) := Ev.specRl_with rfl (Ev.SpsRl.cons (rs_addr_Right _) Ev.SpsRl.nil)
theorem g_tuple_Local : Ev.SpOk Try.prog false 143 (s_tuple_Local F_tuple_Local) := by
  refine Ev.SpOk.mkF fun vs k r g0 => ?_
  unfold s_tuple_Local at g0
  obtain ⟨a0, r0, rfl, g1⟩ := Ev.kU_ok g0
  obtain ⟨rfl, g2⟩ := Ev.kE_ok g1
  obtain ⟨x0, rfl, g3⟩ := d_api_Addr_ok g2
  obtain ⟨x, hx, h⟩ := Ev.bnd_get g3
  have h1 := pr_tuple_Local F_addr_Right 0 x0
  rw [show N_tuple_Local F_addr_Right 0 x0 = some x from hx] at h1
  exact ⟨_, h, Ev.good_of_inl ok_tuple_Local (ro_tuple_Local F_addr_Right) rfl rfl Ev.TabOk.nil 40 12 _ h1⟩
-- tuple.Multicast
-- DEEP tuple_Multicast 144 - T_api_Addr → Option Bool
noncomputable def e_tuple_Multicast (x : Bool) : Value := .bool x
noncomputable def E_tuple_Multicast (x : Bool) : Value × Ev.AH := (e_tuple_Multicast x, ⟨[], 0, []⟩)
noncomputable def s_tuple_Multicast (F : T_api_Addr → Option Bool) : Ev.Sp := fun vs k => Ev.kU vs fun a0 r0 => Ev.kE r0 <| d_api_Addr a0 fun x0 => Ev.bnd (F x0) fun x => k (e_tuple_Multicast x)
theorem rs_tuple_Multicast (F : T_api_Addr → Option Bool) : Ev.SpRl (s_tuple_Multicast F) := by
  intro S vs k k2 hk
  unfold s_tuple_Multicast
  refine Ev.rl_kU fun _ _ => ?_
  refine Ev.rl_kE ?_
  refine rl_d_api_Addr fun _ => ?_
  exact Ev.Rl.bnd fun x => hk _
noncomputable def Ew_tuple_Multicast (F_addr_Right : T_api_Addr → Option Bool) : Ev.Env := Ev.Env.with Ed [(140, s_addr_Right F_addr_Right)]
noncomputable def Es_tuple_Multicast (F_addr_Right : T_api_Addr → Option Bool) : Ev.Env := Ev.Env.inl (Ew_tuple_Multicast F_addr_Right) MtIc [] 40 12
noncomputable def O_tuple_Multicast (F_addr_Right : T_api_Addr → Option Bool) : Ev.Orc := fun _ _ _ => none
noncomputable def N_tuple_Multicast (F_addr_Right : T_api_Addr → Option Bool) (m : Nat) (x0 : T_api_Addr) : Option Bool := Ev.bnd (F_addr_Right x0) fun v0 => bif !v0 then some false else bif x0.Fam == 6 then some (Int.fdiv x0.Hi 72057594037927936 == 255) else bif Int.fdiv x0.Lo 268435456 == 14 then some true else some (x0.Lo == 4294967295)
theorem pr_tuple_Multicast (F_addr_Right : T_api_Addr → Option Bool) (m : Nat) (x0 : T_api_Addr) : Ev.evBodyD (Es_tuple_Multicast F_addr_Right) MtIc (O_tuple_Multicast F_addr_Right) m 144 [v_api_Addr x0] = Ev.oE E_tuple_Multicast (N_tuple_Multicast F_addr_Right m x0) := by
  simp only [N_tuple_Multicast, Ev.oE_some, Ev.oE_none, Ev.oE_cond, Ev.oE_bnd]
  kernel_rfl
noncomputable def F_tuple_Multicast : T_api_Addr → Option Bool := fun x0 => N_tuple_Multicast F_addr_Right 0 x0
theorem ok_tuple_Multicast : Ev.EnvOk (Ew_tuple_Multicast F_addr_Right) := Ev.envOk_with envOkd (Ev.SpsOk.add (b := false) g_addr_Right (by kernel_rfl) Ev.SpsOk.nil)
theorem ro_tuple_Multicast (F_addr_Right : T_api_Addr → Option Bool) : Ev.SpecRl (Ew_tuple_Multicast F_addr_Right) := Ev.specRl_with rfl (Ev.SpsRl.cons (rs_addr_Right _) Ev.SpsRl.nil)
theorem g_tuple_Multicast : Ev.SpOk Try.prog false 144 (s_tuple_Multicast F_tuple_Multicast) := by
  refine Ev.SpOk.mkF fun vs k r g0 => ?_
  unfold s_tuple_Multicast at g0
  obtain ⟨a0, r0, rfl, g1⟩ := Ev.kU_ok g0
  obtain ⟨rfl, g2⟩ := Ev.kE_ok g1
  obtain ⟨x0, rfl, g3⟩ := d_api_Addr_ok g2
  obtain ⟨x, hx, h⟩ := Ev.bnd_get g3
  have h1 := pr_tuple_Multicast F_addr_Right 0 x0
  rw [show N_tuple_Multicast F_addr_Right 0 x0 = some x from hx] at h1
  exact ⟨_, h, Ev.good_of_inl ok_tuple_Multicast (ro_tuple_Multicast F_addr_Right) rfl rfl Ev.TabOk.nil 40 12 _ h1⟩
-- icmp.Near
-- DEEP icmp_Near 83 - T_api_Addr → Option Bool
noncomputable def e_icmp_Near (x : Bool) : Value := .bool x
noncomputable def E_icmp_Near (x : Bool) : Value × Ev.AH := (e_icmp_Near x, ⟨[], 0, []⟩)
noncomputable def s_icmp_Near (F : T_api_Addr → Option Bool) : Ev.Sp := fun vs k => Ev.kU vs fun a0 r0 => Ev.kE r0 <| d_api_Addr a0 fun x0 => Ev.bnd (F x0) fun x => k (e_icmp_Near x)
theorem rs_icmp_Near (F : T_api_Addr → Option Bool) : Ev.SpRl (s_icmp_Near F) := by
  intro S vs k k2 hk
  unfold s_icmp_Near
  refine Ev.rl_kU fun _ _ => ?_
  refine Ev.rl_kE ?_
  refine rl_d_api_Addr fun _ => ?_
  exact Ev.Rl.bnd fun x => hk _
noncomputable def Ew_icmp_Near (F_addr_Right : T_api_Addr → Option Bool) : Ev.Env := Ev.Env.with Ed [(140, s_addr_Right F_addr_Right)]
noncomputable def Es_icmp_Near (F_addr_Right : T_api_Addr → Option Bool) : Ev.Env := Ev.Env.inl (Ew_icmp_Near F_addr_Right) MtIc [] 40 12
noncomputable def O_icmp_Near (F_addr_Right : T_api_Addr → Option Bool) : Ev.Orc := fun _ _ _ => none
noncomputable def N_icmp_Near (F_addr_Right : T_api_Addr → Option Bool) (m : Nat) (x0 : T_api_Addr) : Option Bool := Ev.bnd (F_addr_Right x0) fun v0 => bif !v0 then some false else bif x0.Fam == 4 then some (Int.fdiv x0.Lo 65536 == 43518) else some (Int.fdiv x0.Hi 18014398509481984 == 1018)
theorem pr_icmp_Near (F_addr_Right : T_api_Addr → Option Bool) (m : Nat) (x0 : T_api_Addr) : Ev.evBodyD (Es_icmp_Near F_addr_Right) MtIc (O_icmp_Near F_addr_Right) m 83 [v_api_Addr x0] = Ev.oE E_icmp_Near (N_icmp_Near F_addr_Right m x0) := by
  simp only [N_icmp_Near, Ev.oE_some, Ev.oE_none, Ev.oE_cond, Ev.oE_bnd]
  kernel_rfl
noncomputable def F_icmp_Near : T_api_Addr → Option Bool := fun x0 => N_icmp_Near F_addr_Right 0 x0
theorem ok_icmp_Near : Ev.EnvOk (Ew_icmp_Near F_addr_Right) := Ev.envOk_with envOkd (Ev.SpsOk.add (b := false) g_addr_Right (by kernel_rfl) Ev.SpsOk.nil)
theorem ro_icmp_Near (F_addr_Right : T_api_Addr → Option Bool) : Ev.SpecRl (Ew_icmp_Near F_addr_Right) := Ev.specRl_with rfl (Ev.SpsRl.cons (rs_addr_Right _) Ev.SpsRl.nil)
theorem g_icmp_Near : Ev.SpOk Try.prog false 83 (s_icmp_Near F_icmp_Near) := by
  refine Ev.SpOk.mkF fun vs k r g0 => ?_
  unfold s_icmp_Near at g0
  obtain ⟨a0, r0, rfl, g1⟩ := Ev.kU_ok g0
  obtain ⟨rfl, g2⟩ := Ev.kE_ok g1
  obtain ⟨x0, rfl, g3⟩ := d_api_Addr_ok g2
  obtain ⟨x, hx, h⟩ := Ev.bnd_get g3
  have h1 := pr_icmp_Near F_addr_Right 0 x0
  rw [show N_icmp_Near F_addr_Right 0 x0 = some x from hx] at h1
  exact ⟨_, h, Ev.good_of_inl ok_icmp_Near (ro_icmp_Near F_addr_Right) rfl rfl Ev.TabOk.nil 40 12 _ h1⟩
-- icmp.Ends$1
-- DEEP icmp_Ends_1 142 - T_api_Addr → Option Bool
noncomputable def e_icmp_Ends_1 (x : Bool) : Value := .bool x
noncomputable def E_icmp_Ends_1 (x : Bool) : Value × Ev.AH := (e_icmp_Ends_1 x, ⟨[], 0, []⟩)
noncomputable def s_icmp_Ends_1 (F : T_api_Addr → Option Bool) : Ev.Sp := fun vs k => Ev.kU vs fun a0 r0 => Ev.kE r0 <| d_api_Addr a0 fun x0 => Ev.bnd (F x0) fun x => k (e_icmp_Ends_1 x)
theorem rs_icmp_Ends_1 (F : T_api_Addr → Option Bool) : Ev.SpRl (s_icmp_Ends_1 F) := by
  intro S vs k k2 hk
  unfold s_icmp_Ends_1
  refine Ev.rl_kU fun _ _ => ?_
  refine Ev.rl_kE ?_
  refine rl_d_api_Addr fun _ => ?_
  exact Ev.Rl.bnd fun x => hk _
noncomputable def Ew_icmp_Ends_1 (F_tuple_Local : T_api_Addr → Option Bool) (F_tuple_Multicast : T_api_Addr → Option Bool) (F_icmp_Near : T_api_Addr → Option Bool) : Ev.Env := Ev.Env.with Ed [(143, s_tuple_Local F_tuple_Local), (144, s_tuple_Multicast F_tuple_Multicast), (83, s_icmp_Near F_icmp_Near)]
noncomputable def Es_icmp_Ends_1 (F_tuple_Local : T_api_Addr → Option Bool) (F_tuple_Multicast : T_api_Addr → Option Bool) (F_icmp_Near : T_api_Addr → Option Bool) : Ev.Env := Ev.Env.inl (Ew_icmp_Ends_1 F_tuple_Local F_tuple_Multicast F_icmp_Near) MtIc [] 40 12
noncomputable def O_icmp_Ends_1 (F_tuple_Local : T_api_Addr → Option Bool) (F_tuple_Multicast : T_api_Addr → Option Bool) (F_icmp_Near : T_api_Addr → Option Bool) : Ev.Orc := fun _ _ _ => none
noncomputable def N_icmp_Ends_1 (F_tuple_Local : T_api_Addr → Option Bool) (F_tuple_Multicast : T_api_Addr → Option Bool) (F_icmp_Near : T_api_Addr → Option Bool) (m : Nat) (x0 : T_api_Addr) : Option Bool := Ev.bnd (F_tuple_Local x0) fun v0 => bif v0 then some true else Ev.bnd (F_tuple_Multicast x0) fun v1 => bif v1 then some true else Ev.bnd (F_icmp_Near x0) fun v2 => some v2
theorem pr_icmp_Ends_1 (F_tuple_Local : T_api_Addr → Option Bool) (F_tuple_Multicast : T_api_Addr → Option Bool) (F_icmp_Near : T_api_Addr → Option Bool) (m : Nat) (x0 : T_api_Addr) : Ev.evBodyD (Es_icmp_Ends_1 F_tuple_Local F_tuple_Multicast F_icmp_Near) MtIc (O_icmp_Ends_1 F_tuple_Local F_tuple_Multicast F_icmp_Near) m 142 [v_api_Addr x0] = Ev.oE E_icmp_Ends_1 (N_icmp_Ends_1 F_tuple_Local F_tuple_Multicast F_icmp_Near m x0) := by
  simp only [N_icmp_Ends_1, Ev.oE_some, Ev.oE_none, Ev.oE_cond, Ev.oE_bnd]
  kernel_rfl
noncomputable def F_icmp_Ends_1 : T_api_Addr → Option Bool := fun x0 => N_icmp_Ends_1 F_tuple_Local F_tuple_Multicast F_icmp_Near 0 x0
theorem ok_icmp_Ends_1 : Ev.EnvOk (Ew_icmp_Ends_1 F_tuple_Local F_tuple_Multicast F_icmp_Near) := Ev.envOk_with envOkd (Ev.SpsOk.add (b := false) g_tuple_Local (by kernel_rfl) (Ev.SpsOk.add (b := false) g_tuple_Multicast (by kernel_rfl) (Ev.SpsOk.add (b := false) g_icmp_Near (by kernel_rfl) Ev.SpsOk.nil)))
theorem ro_icmp_Ends_1 (F_tuple_Local : T_api_Addr → Option Bool) (F_tuple_Multicast : T_api_Addr → Option Bool) (F_icmp_Near : T_api_Addr → Option Bool) : Ev.SpecRl (Ew_icmp_Ends_1 F_tuple_Local F_tuple_Multicast F_icmp_Near) := Ev.specRl_with rfl (Ev.SpsRl.cons (rs_tuple_Local _) (Ev.SpsRl.cons (rs_tuple_Multicast _) (Ev.SpsRl.cons (rs_icmp_Near _) Ev.SpsRl.nil)))
theorem g_icmp_Ends_1 : Ev.SpOk Try.prog false 142 (s_icmp_Ends_1 F_icmp_Ends_1) := by
  refine Ev.SpOk.mkF fun vs k r g0 => ?_
  unfold s_icmp_Ends_1 at g0
  obtain ⟨a0, r0, rfl, g1⟩ := Ev.kU_ok g0
  obtain ⟨rfl, g2⟩ := Ev.kE_ok g1
  obtain ⟨x0, rfl, g3⟩ := d_api_Addr_ok g2
  obtain ⟨x, hx, h⟩ := Ev.bnd_get g3
  have h1 := pr_icmp_Ends_1 F_tuple_Local F_tuple_Multicast F_icmp_Near 0 x0
  rw [show N_icmp_Ends_1 F_tuple_Local F_tuple_Multicast F_icmp_Near 0 x0 = some x from hx] at h1
  exact ⟨_, h, Ev.good_of_inl ok_icmp_Ends_1 (ro_icmp_Ends_1 F_tuple_Local F_tuple_Multicast F_icmp_Near) rfl rfl Ev.TabOk.nil 40 12 _ h1⟩
-- icmp.Ends
-- DEEP icmp_Ends 80 - T_api_Addr → T_api_Addr → Option Int
noncomputable def e_icmp_Ends (x : Int) : Value := .int .i64 x
noncomputable def E_icmp_Ends (x : Int) : Value × Ev.AH := (e_icmp_Ends x, ⟨[], 0, []⟩)
noncomputable def s_icmp_Ends (F : T_api_Addr → T_api_Addr → Option Int) : Ev.Sp := fun vs k => Ev.kU vs fun a0 r0 => Ev.kU r0 fun a1 r1 => Ev.kE r1 <| d_api_Addr a0 fun x0 => d_api_Addr a1 fun x1 => Ev.bnd (F x0 x1) fun x => k (e_icmp_Ends x)
theorem rs_icmp_Ends (F : T_api_Addr → T_api_Addr → Option Int) : Ev.SpRl (s_icmp_Ends F) := by
  intro S vs k k2 hk
  unfold s_icmp_Ends
  refine Ev.rl_kU fun _ _ => ?_
  refine Ev.rl_kU fun _ _ => ?_
  refine Ev.rl_kE ?_
  refine rl_d_api_Addr fun _ => ?_
  refine rl_d_api_Addr fun _ => ?_
  exact Ev.Rl.bnd fun x => hk _
noncomputable def Ew_icmp_Ends (F_addr_Right : T_api_Addr → Option Bool) (F_icmp_Ends_1 : T_api_Addr → Option Bool) : Ev.Env := Ev.Env.with Ed [(140, s_addr_Right F_addr_Right), (142, s_icmp_Ends_1 F_icmp_Ends_1)]
noncomputable def Es_icmp_Ends (F_addr_Right : T_api_Addr → Option Bool) (F_icmp_Ends_1 : T_api_Addr → Option Bool) : Ev.Env := Ev.Env.inl (Ew_icmp_Ends F_addr_Right F_icmp_Ends_1) MtIc [] 40 12
noncomputable def O_icmp_Ends (F_addr_Right : T_api_Addr → Option Bool) (F_icmp_Ends_1 : T_api_Addr → Option Bool) : Ev.Orc := fun _ _ _ => none
noncomputable def N_icmp_Ends (F_addr_Right : T_api_Addr → Option Bool) (F_icmp_Ends_1 : T_api_Addr → Option Bool) (m : Nat) (x0 : T_api_Addr) (x1 : T_api_Addr) : Option Int := Ev.bnd (F_addr_Right x0) fun v0 => bif !v0 then some 1 else Ev.bnd (F_addr_Right x1) fun v1 => bif !v1 then some 1 else bif x0.Fam != x1.Fam then some 1 else Ev.bnd (F_icmp_Ends_1 x0) fun v2 => bif v2 then some 24 else Ev.bnd (F_icmp_Ends_1 x1) fun v3 => bif v3 then some 24 else some 0
theorem pr_icmp_Ends (F_addr_Right : T_api_Addr → Option Bool) (F_icmp_Ends_1 : T_api_Addr → Option Bool) (m : Nat) (x0 : T_api_Addr) (x1 : T_api_Addr) : Ev.evBodyD (Es_icmp_Ends F_addr_Right F_icmp_Ends_1) MtIc (O_icmp_Ends F_addr_Right F_icmp_Ends_1) 40 80 [v_api_Addr x0, v_api_Addr x1] = Ev.oE E_icmp_Ends (N_icmp_Ends F_addr_Right F_icmp_Ends_1 m x0 x1) := by
  simp only [N_icmp_Ends, Ev.oE_some, Ev.oE_none, Ev.oE_cond, Ev.oE_bnd]
  kernel_rfl
noncomputable def F_icmp_Ends : T_api_Addr → T_api_Addr → Option Int := fun x0 x1 => N_icmp_Ends F_addr_Right F_icmp_Ends_1 0 x0 x1
theorem ok_icmp_Ends : Ev.EnvOk (Ew_icmp_Ends F_addr_Right F_icmp_Ends_1) := Ev.envOk_with envOkd (Ev.SpsOk.add (b := false) g_addr_Right (by kernel_rfl) (Ev.SpsOk.add (b := false) g_icmp_Ends_1 (by kernel_rfl) Ev.SpsOk.nil))
theorem ro_icmp_Ends (F_addr_Right : T_api_Addr → Option Bool) (F_icmp_Ends_1 : T_api_Addr → Option Bool) : Ev.SpecRl (Ew_icmp_Ends F_addr_Right F_icmp_Ends_1) := Ev.specRl_with rfl (Ev.SpsRl.cons (rs_addr_Right _) (Ev.SpsRl.cons (rs_icmp_Ends_1 _) Ev.SpsRl.nil))
theorem g_icmp_Ends : Ev.SpOk Try.prog false 80 (s_icmp_Ends F_icmp_Ends) := by
  refine Ev.SpOk.mkF fun vs k r g0 => ?_
  unfold s_icmp_Ends at g0
  obtain ⟨a0, r0, rfl, g1⟩ := Ev.kU_ok g0
  obtain ⟨a1, r1, rfl, g2⟩ := Ev.kU_ok g1
  obtain ⟨rfl, g3⟩ := Ev.kE_ok g2
  obtain ⟨x0, rfl, g4⟩ := d_api_Addr_ok g3
  obtain ⟨x1, rfl, g5⟩ := d_api_Addr_ok g4
  obtain ⟨x, hx, h⟩ := Ev.bnd_get g5
  have h1 := pr_icmp_Ends F_addr_Right F_icmp_Ends_1 0 x0 x1
  rw [show N_icmp_Ends F_addr_Right F_icmp_Ends_1 0 x0 x1 = some x from hx] at h1
  exact ⟨_, h, Ev.good_of_inl ok_icmp_Ends (ro_icmp_Ends F_addr_Right F_icmp_Ends_1) rfl rfl Ev.TabOk.nil 40 12 _ h1⟩
end Go.Proofs.Yteljeekapcenlaa
