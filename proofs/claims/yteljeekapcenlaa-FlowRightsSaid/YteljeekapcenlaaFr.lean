/-
  Functions of the seat's program, printed by a program of ours: what each comes to, and that it is so. No conditions.
-/
import Derived.Test.YteljeekapcenlaaTb
import Derived.Test.YteljeekapcenlaaFa
namespace Go.Proofs.Yteljeekapcenlaa
open Go
set_option linter.unusedVariables false
set_option linter.unusedSimpArgs false
noncomputable def MtFr : Ev.Mats := { slots := fun f i => [], cells := fun f i => [], own := fun f => false }
-- stockaderef02.Right
-- DEEP r02_Right 145 - T_api_Addr → Option Bool
noncomputable def e_r02_Right (x : Bool) : Value := .bool x
noncomputable def E_r02_Right (x : Bool) : Value × Ev.AH := (e_r02_Right x, ⟨[], 0, []⟩)
noncomputable def s_r02_Right (F : T_api_Addr → Option Bool) : Ev.Sp := fun vs k => Ev.kU vs fun a0 r0 => Ev.kE r0 <| d_api_Addr a0 fun x0 => Ev.bnd (F x0) fun x => k (e_r02_Right x)
theorem rs_r02_Right (F : T_api_Addr → Option Bool) : Ev.SpRl (s_r02_Right F) := by
  intro S vs k k2 hk
  unfold s_r02_Right
  refine Ev.rl_kU fun _ _ => ?_
  refine Ev.rl_kE ?_
  refine rl_d_api_Addr fun _ => ?_
  exact Ev.Rl.bnd fun x => hk _
noncomputable def Ew_r02_Right : Ev.Env := Ev.Env.with Ed []
noncomputable def Es_r02_Right : Ev.Env := Ev.Env.inl (Ew_r02_Right ) MtFr [] 40 12
noncomputable def O_r02_Right : Ev.Orc := fun _ _ _ => none
noncomputable def N_r02_Right (m : Nat) (x0 : T_api_Addr) : Option Bool := bif x0.Fam == 6 then some true else bif x0.Fam == 4 then bif x0.Hi == 0 then some (Ev.ltI x0.Lo 4294967296) else some false else some false
theorem pr_r02_Right (m : Nat) (x0 : T_api_Addr) : Ev.evBodyD (Es_r02_Right ) MtFr (O_r02_Right ) m 145 [v_api_Addr x0] = Ev.oE E_r02_Right (N_r02_Right m x0) := by
  simp only [N_r02_Right, Ev.oE_some, Ev.oE_none, Ev.oE_cond, Ev.oE_bnd]
  kernel_rfl
noncomputable def F_r02_Right : T_api_Addr → Option Bool := fun x0 => N_r02_Right 0 x0
theorem ok_r02_Right : Ev.EnvOk (Ew_r02_Right ) := Ev.envOk_with envOkd Ev.SpsOk.nil
theorem ro_r02_Right : Ev.SpecRl (Ew_r02_Right ) := Ev.specRl_with rfl Ev.SpsRl.nil
theorem g_r02_Right : Ev.SpOk Try.prog false 145 (s_r02_Right F_r02_Right) := by
  refine Ev.SpOk.mkF fun vs k r g0 => ?_
  unfold s_r02_Right at g0
  obtain ⟨a0, r0, rfl, g1⟩ := Ev.kU_ok g0
  obtain ⟨rfl, g2⟩ := Ev.kE_ok g1
  obtain ⟨x0, rfl, g3⟩ := d_api_Addr_ok g2
  obtain ⟨x, hx, h⟩ := Ev.bnd_get g3
  have h1 := pr_r02_Right  0 x0
  rw [show N_r02_Right  0 x0 = some x from hx] at h1
  exact ⟨_, h, Ev.good_of_inl ok_r02_Right (ro_r02_Right ) rfl rfl Ev.TabOk.nil 40 12 _ h1⟩
-- stockaderef05.Icmp
-- DEEP r05_Icmp 132 - Int → Option Int
noncomputable def e_r05_Icmp (x : Int) : Value := .int .i64 x
noncomputable def E_r05_Icmp (x : Int) : Value × Ev.AH := (e_r05_Icmp x, ⟨[], 0, []⟩)
noncomputable def s_r05_Icmp (F : Int → Option Int) : Ev.Sp := fun vs k => Ev.kU vs fun a0 r0 => Ev.kE r0 <| Ev.gI .i64 a0 fun x0 => Ev.bnd (F x0) fun x => k (e_r05_Icmp x)
theorem rs_r05_Icmp (F : Int → Option Int) : Ev.SpRl (s_r05_Icmp F) := by
  intro S vs k k2 hk
  unfold s_r05_Icmp
  refine Ev.rl_kU fun _ _ => ?_
  refine Ev.rl_kE ?_
  refine Ev.rl_gI fun _ => ?_
  exact Ev.Rl.bnd fun x => hk _
noncomputable def Ew_r05_Icmp : Ev.Env := Ev.Env.with Ed []
noncomputable def Es_r05_Icmp : Ev.Env := Ev.Env.inl (Ew_r05_Icmp ) MtFr [] 40 12
noncomputable def O_r05_Icmp : Ev.Orc := fun _ _ _ => none
noncomputable def N_r05_Icmp (m : Nat) (x0 : Int) : Option Int := bif x0 == 4 then some 1 else some 58
theorem pr_r05_Icmp (m : Nat) (x0 : Int) : Ev.evBodyD (Es_r05_Icmp ) MtFr (O_r05_Icmp ) m 132 [.int .i64 x0] = Ev.oE E_r05_Icmp (N_r05_Icmp m x0) := by
  simp only [N_r05_Icmp, Ev.oE_some, Ev.oE_none, Ev.oE_cond, Ev.oE_bnd]
  kernel_rfl
noncomputable def F_r05_Icmp : Int → Option Int := fun x0 => N_r05_Icmp 0 x0
theorem ok_r05_Icmp : Ev.EnvOk (Ew_r05_Icmp ) := Ev.envOk_with envOkd Ev.SpsOk.nil
theorem ro_r05_Icmp : Ev.SpecRl (Ew_r05_Icmp ) := Ev.specRl_with rfl Ev.SpsRl.nil
theorem g_r05_Icmp : Ev.SpOk Try.prog false 132 (s_r05_Icmp F_r05_Icmp) := by
  refine Ev.SpOk.mkF fun vs k r g0 => ?_
  unfold s_r05_Icmp at g0
  obtain ⟨a0, r0, rfl, g1⟩ := Ev.kU_ok g0
  obtain ⟨rfl, g2⟩ := Ev.kE_ok g1
  obtain ⟨x0, rfl, g3⟩ := Ev.gI_ok g2
  obtain ⟨x, hx, h⟩ := Ev.bnd_get g3
  have h1 := pr_r05_Icmp  0 x0
  rw [show N_r05_Icmp  0 x0 = some x from hx] at h1
  exact ⟨_, h, Ev.good_of_inl ok_r05_Icmp (ro_r05_Icmp ) rfl rfl Ev.TabOk.nil 40 12 _ h1⟩
-- stockaderef05.Ends
-- DEEP r05_Ends 131 - Int → T_api_Addr → T_api_Addr → Option Bool
noncomputable def e_r05_Ends (x : Bool) : Value := .bool x
noncomputable def E_r05_Ends (x : Bool) : Value × Ev.AH := (e_r05_Ends x, ⟨[], 0, []⟩)
noncomputable def s_r05_Ends (F : Int → T_api_Addr → T_api_Addr → Option Bool) : Ev.Sp := fun vs k => Ev.kU vs fun a0 r0 => Ev.kU r0 fun a1 r1 => Ev.kU r1 fun a2 r2 => Ev.kE r2 <| Ev.gI .i64 a0 fun x0 => d_api_Addr a1 fun x1 => d_api_Addr a2 fun x2 => Ev.bnd (F x0 x1 x2) fun x => k (e_r05_Ends x)
theorem rs_r05_Ends (F : Int → T_api_Addr → T_api_Addr → Option Bool) : Ev.SpRl (s_r05_Ends F) := by
  intro S vs k k2 hk
  unfold s_r05_Ends
  refine Ev.rl_kU fun _ _ => ?_
  refine Ev.rl_kU fun _ _ => ?_
  refine Ev.rl_kU fun _ _ => ?_
  refine Ev.rl_kE ?_
  refine Ev.rl_gI fun _ => ?_
  refine rl_d_api_Addr fun _ => ?_
  refine rl_d_api_Addr fun _ => ?_
  exact Ev.Rl.bnd fun x => hk _
noncomputable def Ew_r05_Ends (F_r02_Right : T_api_Addr → Option Bool) : Ev.Env := Ev.Env.with Ed [(145, s_r02_Right F_r02_Right)]
noncomputable def Es_r05_Ends (F_r02_Right : T_api_Addr → Option Bool) : Ev.Env := Ev.Env.inl (Ew_r05_Ends F_r02_Right) MtFr [] 40 12
noncomputable def O_r05_Ends (F_r02_Right : T_api_Addr → Option Bool) : Ev.Orc := fun _ _ _ => none
noncomputable def N_r05_Ends (F_r02_Right : T_api_Addr → Option Bool) (m : Nat) (x0 : Int) (x1 : T_api_Addr) (x2 : T_api_Addr) : Option Bool := bif x0 == 4 then bif x1.Fam == x0 then bif x2.Fam == x0 then Ev.bnd (F_r02_Right x1) fun v0 => bif v0 then Ev.bnd (F_r02_Right x2) fun v1 => some v1 else some false else some false else some false else bif x0 == 6 then bif x1.Fam == x0 then bif x2.Fam == x0 then Ev.bnd (F_r02_Right x1) fun v2 => bif v2 then Ev.bnd (F_r02_Right x2) fun v3 => some v3 else some false else some false else some false else some false
theorem pr_r05_Ends (F_r02_Right : T_api_Addr → Option Bool) (m : Nat) (x0 : Int) (x1 : T_api_Addr) (x2 : T_api_Addr) : Ev.evBodyD (Es_r05_Ends F_r02_Right) MtFr (O_r05_Ends F_r02_Right) m 131 [.int .i64 x0, v_api_Addr x1, v_api_Addr x2] = Ev.oE E_r05_Ends (N_r05_Ends F_r02_Right m x0 x1 x2) := by
  simp only [N_r05_Ends, Ev.oE_some, Ev.oE_none, Ev.oE_cond, Ev.oE_bnd]
  kernel_rfl
noncomputable def F_r05_Ends : Int → T_api_Addr → T_api_Addr → Option Bool := fun x0 x1 x2 => N_r05_Ends F_r02_Right 0 x0 x1 x2
theorem ok_r05_Ends : Ev.EnvOk (Ew_r05_Ends F_r02_Right) := Ev.envOk_with envOkd (Ev.SpsOk.add (b := false) g_r02_Right (by kernel_rfl) Ev.SpsOk.nil)
theorem ro_r05_Ends (F_r02_Right : T_api_Addr → Option Bool) : Ev.SpecRl (Ew_r05_Ends F_r02_Right) := Ev.specRl_with rfl (Ev.SpsRl.cons (rs_r02_Right _) Ev.SpsRl.nil)
theorem g_r05_Ends : Ev.SpOk Try.prog false 131 (s_r05_Ends F_r05_Ends) := by
  refine Ev.SpOk.mkF fun vs k r g0 => ?_
  unfold s_r05_Ends at g0
  obtain ⟨a0, r0, rfl, g1⟩ := Ev.kU_ok g0
  obtain ⟨a1, r1, rfl, g2⟩ := Ev.kU_ok g1
  obtain ⟨a2, r2, rfl, g3⟩ := Ev.kU_ok g2
  obtain ⟨rfl, g4⟩ := Ev.kE_ok g3
  obtain ⟨x0, rfl, g5⟩ := Ev.gI_ok g4
  obtain ⟨x1, rfl, g6⟩ := d_api_Addr_ok g5
  obtain ⟨x2, rfl, g7⟩ := d_api_Addr_ok g6
  obtain ⟨x, hx, h⟩ := Ev.bnd_get g7
  have h1 := pr_r05_Ends F_r02_Right 0 x0 x1 x2
  rw [show N_r05_Ends F_r02_Right 0 x0 x1 x2 = some x from hx] at h1
  exact ⟨_, h, Ev.good_of_inl ok_r05_Ends (ro_r05_Ends F_r02_Right) rfl rfl Ev.TabOk.nil 40 12 _ h1⟩
-- stockaderef14.Right
-- DEEP r14_Right 70 - T_api_Tuple → Option Bool
noncomputable def e_r14_Right (x : Bool) : Value := .bool x
noncomputable def E_r14_Right (x : Bool) : Value × Ev.AH := (e_r14_Right x, ⟨[], 0, []⟩)
noncomputable def s_r14_Right (F : T_api_Tuple → Option Bool) : Ev.Sp := fun vs k => Ev.kU vs fun a0 r0 => Ev.kE r0 <| d_api_Tuple a0 fun x0 => Ev.bnd (F x0) fun x => k (e_r14_Right x)
theorem rs_r14_Right (F : T_api_Tuple → Option Bool) : Ev.SpRl (s_r14_Right F) := by
  intro S vs k k2 hk
  unfold s_r14_Right
  refine Ev.rl_kU fun _ _ => ?_
  refine Ev.rl_kE ?_
  refine rl_d_api_Tuple fun _ => ?_
  exact Ev.Rl.bnd fun x => hk _
noncomputable def Ew_r14_Right (F_r05_Ends : Int → T_api_Addr → T_api_Addr → Option Bool) (F_r05_Icmp : Int → Option Int) : Ev.Env := Ev.Env.with Ed [(131, s_r05_Ends F_r05_Ends), (132, s_r05_Icmp F_r05_Icmp)]
noncomputable def Es_r14_Right (F_r05_Ends : Int → T_api_Addr → T_api_Addr → Option Bool) (F_r05_Icmp : Int → Option Int) : Ev.Env := Ev.Env.inl (Ew_r14_Right F_r05_Ends F_r05_Icmp) MtFr [] 40 12
noncomputable def O_r14_Right (F_r05_Ends : Int → T_api_Addr → T_api_Addr → Option Bool) (F_r05_Icmp : Int → Option Int) : Ev.Orc := fun _ _ _ => none
noncomputable def N_r14_Right (F_r05_Ends : Int → T_api_Addr → T_api_Addr → Option Bool) (F_r05_Icmp : Int → Option Int) (m : Nat) (x0 : T_api_Tuple) : Option Bool := bif Ev.leI 0 x0.Sport then bif Ev.leI x0.Sport 65535 then bif Ev.leI 0 x0.Dport then Ev.bnd (F_r05_Ends x0.Fam (T_api_Addr.mk x0.Src_Fam x0.Src_Hi x0.Src_Lo) (T_api_Addr.mk x0.Dst_Fam x0.Dst_Hi x0.Dst_Lo)) fun v0 => bif v0 then bif x0.Proto == 6 then some (Ev.leI x0.Dport 65535) else bif x0.Proto == 17 then some (Ev.leI x0.Dport 65535) else Ev.bnd (F_r05_Icmp x0.Fam) fun v1 => bif x0.Proto == v1 then some (Ev.leI x0.Dport 65535) else some false else some false else Ev.bnd (F_r05_Ends x0.Fam (T_api_Addr.mk x0.Src_Fam x0.Src_Hi x0.Src_Lo) (T_api_Addr.mk x0.Dst_Fam x0.Dst_Hi x0.Dst_Lo)) fun v2 => bif v2 then bif x0.Proto == 6 then some false else bif x0.Proto == 17 then some false else Ev.bnd (F_r05_Icmp x0.Fam) fun v3 => bif x0.Proto == v3 then some false else some false else some false else Ev.bnd (F_r05_Ends x0.Fam (T_api_Addr.mk x0.Src_Fam x0.Src_Hi x0.Src_Lo) (T_api_Addr.mk x0.Dst_Fam x0.Dst_Hi x0.Dst_Lo)) fun v4 => bif v4 then bif x0.Proto == 6 then some false else bif x0.Proto == 17 then some false else Ev.bnd (F_r05_Icmp x0.Fam) fun v5 => bif x0.Proto == v5 then some false else some false else some false else Ev.bnd (F_r05_Ends x0.Fam (T_api_Addr.mk x0.Src_Fam x0.Src_Hi x0.Src_Lo) (T_api_Addr.mk x0.Dst_Fam x0.Dst_Hi x0.Dst_Lo)) fun v6 => bif v6 then bif x0.Proto == 6 then some false else bif x0.Proto == 17 then some false else Ev.bnd (F_r05_Icmp x0.Fam) fun v7 => bif x0.Proto == v7 then some false else some false else some false
theorem pr_r14_Right (F_r05_Ends : Int → T_api_Addr → T_api_Addr → Option Bool) (F_r05_Icmp : Int → Option Int) (m : Nat) (x0 : T_api_Tuple) : Ev.evBodyD (Es_r14_Right F_r05_Ends F_r05_Icmp) MtFr (O_r14_Right F_r05_Ends F_r05_Icmp) m 70 [v_api_Tuple x0] = Ev.oE E_r14_Right (N_r14_Right F_r05_Ends F_r05_Icmp m x0) := by
  simp only [N_r14_Right, Ev.oE_some, Ev.oE_none, Ev.oE_cond, Ev.oE_bnd]
  kernel_rfl
noncomputable def F_r14_Right : T_api_Tuple → Option Bool := fun x0 => N_r14_Right F_r05_Ends F_r05_Icmp 0 x0
theorem ok_r14_Right : Ev.EnvOk (Ew_r14_Right F_r05_Ends F_r05_Icmp) := Ev.envOk_with envOkd (Ev.SpsOk.add (b := false) g_r05_Ends (by kernel_rfl) (Ev.SpsOk.add (b := false) g_r05_Icmp (by kernel_rfl) Ev.SpsOk.nil))
theorem ro_r14_Right (F_r05_Ends : Int → T_api_Addr → T_api_Addr → Option Bool) (F_r05_Icmp : Int → Option Int) : Ev.SpecRl (Ew_r14_Right F_r05_Ends F_r05_Icmp) := Ev.specRl_with rfl (Ev.SpsRl.cons (rs_r05_Ends _) (Ev.SpsRl.cons (rs_r05_Icmp _) Ev.SpsRl.nil))
theorem g_r14_Right : Ev.SpOk Try.prog false 70 (s_r14_Right F_r14_Right) := by
  refine Ev.SpOk.mkF fun vs k r g0 => ?_
  unfold s_r14_Right at g0
  obtain ⟨a0, r0, rfl, g1⟩ := Ev.kU_ok g0
  obtain ⟨rfl, g2⟩ := Ev.kE_ok g1
  obtain ⟨x0, rfl, g3⟩ := d_api_Tuple_ok g2
  obtain ⟨x, hx, h⟩ := Ev.bnd_get g3
  have h1 := pr_r14_Right F_r05_Ends F_r05_Icmp 0 x0
  rw [show N_r14_Right F_r05_Ends F_r05_Icmp 0 x0 = some x from hx] at h1
  exact ⟨_, h, Ev.good_of_inl ok_r14_Right (ro_r14_Right F_r05_Ends F_r05_Icmp) rfl rfl Ev.TabOk.nil 40 12 _ h1⟩
-- stockaderef14.Reverse
-- DEEP r14_Reverse 51 - T_api_Tuple → Option T_api_Tuple
noncomputable def e_r14_Reverse (x : T_api_Tuple) : Value := v_api_Tuple x
noncomputable def E_r14_Reverse (x : T_api_Tuple) : Value × Ev.AH := (e_r14_Reverse x, ⟨[], 0, []⟩)
noncomputable def s_r14_Reverse (F : T_api_Tuple → Option T_api_Tuple) : Ev.Sp := fun vs k => Ev.kU vs fun a0 r0 => Ev.kE r0 <| d_api_Tuple a0 fun x0 => Ev.bnd (F x0) fun x => k (e_r14_Reverse x)
theorem rs_r14_Reverse (F : T_api_Tuple → Option T_api_Tuple) : Ev.SpRl (s_r14_Reverse F) := by
  intro S vs k k2 hk
  unfold s_r14_Reverse
  refine Ev.rl_kU fun _ _ => ?_
  refine Ev.rl_kE ?_
  refine rl_d_api_Tuple fun _ => ?_
  exact Ev.Rl.bnd fun x => hk _
noncomputable def Ew_r14_Reverse : Ev.Env := Ev.Env.with Ed []
noncomputable def Es_r14_Reverse : Ev.Env := Ev.Env.inl (Ew_r14_Reverse ) MtFr [] 40 12
noncomputable def O_r14_Reverse : Ev.Orc := fun _ _ _ => none
noncomputable def N_r14_Reverse (m : Nat) (x0 : T_api_Tuple) : Option T_api_Tuple := some (T_api_Tuple.mk x0.Fam x0.Proto x0.Dst_Fam x0.Dst_Hi x0.Dst_Lo x0.Src_Fam x0.Src_Hi x0.Src_Lo x0.Dport x0.Sport)
theorem pr_r14_Reverse (m : Nat) (x0 : T_api_Tuple) : Ev.evBodyD (Es_r14_Reverse ) MtFr (O_r14_Reverse ) m 51 [v_api_Tuple x0] = Ev.oE E_r14_Reverse (N_r14_Reverse m x0) := by
  simp only [N_r14_Reverse, Ev.oE_some, Ev.oE_none, Ev.oE_cond, Ev.oE_bnd]
  kernel_rfl
noncomputable def F_r14_Reverse : T_api_Tuple → Option T_api_Tuple := fun x0 => N_r14_Reverse 0 x0
theorem ok_r14_Reverse : Ev.EnvOk (Ew_r14_Reverse ) := Ev.envOk_with envOkd Ev.SpsOk.nil
theorem ro_r14_Reverse : Ev.SpecRl (Ew_r14_Reverse ) := Ev.specRl_with rfl Ev.SpsRl.nil
theorem g_r14_Reverse : Ev.SpOk Try.prog false 51 (s_r14_Reverse F_r14_Reverse) := by
  refine Ev.SpOk.mkF fun vs k r g0 => ?_
  unfold s_r14_Reverse at g0
  obtain ⟨a0, r0, rfl, g1⟩ := Ev.kU_ok g0
  obtain ⟨rfl, g2⟩ := Ev.kE_ok g1
  obtain ⟨x0, rfl, g3⟩ := d_api_Tuple_ok g2
  obtain ⟨x, hx, h⟩ := Ev.bnd_get g3
  have h1 := pr_r14_Reverse  0 x0
  rw [show N_r14_Reverse  0 x0 = some x from hx] at h1
  exact ⟨_, h, Ev.good_of_inl ok_r14_Reverse (ro_r14_Reverse ) rfl rfl Ev.TabOk.nil 40 12 _ h1⟩
-- stockaderef16.in
-- DEEP r16_in 108 - Int → Int → Int → Option Bool
noncomputable def e_r16_in (x : Bool) : Value := .bool x
noncomputable def E_r16_in (x : Bool) : Value × Ev.AH := (e_r16_in x, ⟨[], 0, []⟩)
noncomputable def s_r16_in (F : Int → Int → Int → Option Bool) : Ev.Sp := fun vs k => Ev.kU vs fun a0 r0 => Ev.kU r0 fun a1 r1 => Ev.kU r1 fun a2 r2 => Ev.kE r2 <| Ev.gI .i64 a0 fun x0 => Ev.gI .i64 a1 fun x1 => Ev.gI .i64 a2 fun x2 => Ev.bnd (F x0 x1 x2) fun x => k (e_r16_in x)
theorem rs_r16_in (F : Int → Int → Int → Option Bool) : Ev.SpRl (s_r16_in F) := by
  intro S vs k k2 hk
  unfold s_r16_in
  refine Ev.rl_kU fun _ _ => ?_
  refine Ev.rl_kU fun _ _ => ?_
  refine Ev.rl_kU fun _ _ => ?_
  refine Ev.rl_kE ?_
  refine Ev.rl_gI fun _ => ?_
  refine Ev.rl_gI fun _ => ?_
  refine Ev.rl_gI fun _ => ?_
  exact Ev.Rl.bnd fun x => hk _
noncomputable def Ew_r16_in : Ev.Env := Ev.Env.with Ed []
noncomputable def Es_r16_in : Ev.Env := Ev.Env.inl (Ew_r16_in ) MtFr [] 40 12
noncomputable def O_r16_in : Ev.Orc := fun _ _ _ => none
noncomputable def N_r16_in (m : Nat) (x0 : Int) (x1 : Int) (x2 : Int) : Option Bool := bif Ev.leI x1 x0 then some (Ev.leI x0 x2) else some false
theorem pr_r16_in (m : Nat) (x0 : Int) (x1 : Int) (x2 : Int) : Ev.evBodyD (Es_r16_in ) MtFr (O_r16_in ) m 108 [.int .i64 x0, .int .i64 x1, .int .i64 x2] = Ev.oE E_r16_in (N_r16_in m x0 x1 x2) := by
  simp only [N_r16_in, Ev.oE_some, Ev.oE_none, Ev.oE_cond, Ev.oE_bnd]
  kernel_rfl
noncomputable def F_r16_in : Int → Int → Int → Option Bool := fun x0 x1 x2 => N_r16_in 0 x0 x1 x2
theorem ok_r16_in : Ev.EnvOk (Ew_r16_in ) := Ev.envOk_with envOkd Ev.SpsOk.nil
theorem ro_r16_in : Ev.SpecRl (Ew_r16_in ) := Ev.specRl_with rfl Ev.SpsRl.nil
theorem g_r16_in : Ev.SpOk Try.prog false 108 (s_r16_in F_r16_in) := by
  refine Ev.SpOk.mkF fun vs k r g0 => ?_
  unfold s_r16_in at g0
  obtain ⟨a0, r0, rfl, g1⟩ := Ev.kU_ok g0
  obtain ⟨a1, r1, rfl, g2⟩ := Ev.kU_ok g1
  obtain ⟨a2, r2, rfl, g3⟩ := Ev.kU_ok g2
  obtain ⟨rfl, g4⟩ := Ev.kE_ok g3
  obtain ⟨x0, rfl, g5⟩ := Ev.gI_ok g4
  obtain ⟨x1, rfl, g6⟩ := Ev.gI_ok g5
  obtain ⟨x2, rfl, g7⟩ := Ev.gI_ok g6
  obtain ⟨x, hx, h⟩ := Ev.bnd_get g7
  have h1 := pr_r16_in  0 x0 x1 x2
  rw [show N_r16_in  0 x0 x1 x2 = some x from hx] at h1
  exact ⟨_, h, Ev.good_of_inl ok_r16_in (ro_r16_in ) rfl rfl Ev.TabOk.nil 40 12 _ h1⟩
-- stockaderef16.question
-- DEEP r16_question 109 - Int → Option Int
noncomputable def e_r16_question (x : Int) : Value := .int .i64 x
noncomputable def E_r16_question (x : Int) : Value × Ev.AH := (e_r16_question x, ⟨[], 0, []⟩)
noncomputable def s_r16_question (F : Int → Option Int) : Ev.Sp := fun vs k => Ev.kU vs fun a0 r0 => Ev.kE r0 <| Ev.gI .i64 a0 fun x0 => Ev.bnd (F x0) fun x => k (e_r16_question x)
theorem rs_r16_question (F : Int → Option Int) : Ev.SpRl (s_r16_question F) := by
  intro S vs k k2 hk
  unfold s_r16_question
  refine Ev.rl_kU fun _ _ => ?_
  refine Ev.rl_kE ?_
  refine Ev.rl_gI fun _ => ?_
  exact Ev.Rl.bnd fun x => hk _
noncomputable def Ew_r16_question : Ev.Env := Ev.Env.with Ed []
noncomputable def Es_r16_question : Ev.Env := Ev.Env.inl (Ew_r16_question ) MtFr [] 40 12
noncomputable def O_r16_question : Ev.Orc := fun _ _ _ => none
noncomputable def N_r16_question (m : Nat) (x0 : Int) : Option Int := bif x0 == 4 then some 8 else some 128
theorem pr_r16_question (m : Nat) (x0 : Int) : Ev.evBodyD (Es_r16_question ) MtFr (O_r16_question ) m 109 [.int .i64 x0] = Ev.oE E_r16_question (N_r16_question m x0) := by
  simp only [N_r16_question, Ev.oE_some, Ev.oE_none, Ev.oE_cond, Ev.oE_bnd]
  kernel_rfl
noncomputable def F_r16_question : Int → Option Int := fun x0 => N_r16_question 0 x0
theorem ok_r16_question : Ev.EnvOk (Ew_r16_question ) := Ev.envOk_with envOkd Ev.SpsOk.nil
theorem ro_r16_question : Ev.SpecRl (Ew_r16_question ) := Ev.specRl_with rfl Ev.SpsRl.nil
theorem g_r16_question : Ev.SpOk Try.prog false 109 (s_r16_question F_r16_question) := by
  refine Ev.SpOk.mkF fun vs k r g0 => ?_
  unfold s_r16_question at g0
  obtain ⟨a0, r0, rfl, g1⟩ := Ev.kU_ok g0
  obtain ⟨rfl, g2⟩ := Ev.kE_ok g1
  obtain ⟨x0, rfl, g3⟩ := Ev.gI_ok g2
  obtain ⟨x, hx, h⟩ := Ev.bnd_get g3
  have h1 := pr_r16_question  0 x0
  rw [show N_r16_question  0 x0 = some x from hx] at h1
  exact ⟨_, h, Ev.good_of_inl ok_r16_question (ro_r16_question ) rfl rfl Ev.TabOk.nil 40 12 _ h1⟩
-- stockaderef16.answer
-- DEEP r16_answer 113 - Int → Option Int
noncomputable def e_r16_answer (x : Int) : Value := .int .i64 x
noncomputable def E_r16_answer (x : Int) : Value × Ev.AH := (e_r16_answer x, ⟨[], 0, []⟩)
noncomputable def s_r16_answer (F : Int → Option Int) : Ev.Sp := fun vs k => Ev.kU vs fun a0 r0 => Ev.kE r0 <| Ev.gI .i64 a0 fun x0 => Ev.bnd (F x0) fun x => k (e_r16_answer x)
theorem rs_r16_answer (F : Int → Option Int) : Ev.SpRl (s_r16_answer F) := by
  intro S vs k k2 hk
  unfold s_r16_answer
  refine Ev.rl_kU fun _ _ => ?_
  refine Ev.rl_kE ?_
  refine Ev.rl_gI fun _ => ?_
  exact Ev.Rl.bnd fun x => hk _
noncomputable def Ew_r16_answer : Ev.Env := Ev.Env.with Ed []
noncomputable def Es_r16_answer : Ev.Env := Ev.Env.inl (Ew_r16_answer ) MtFr [] 40 12
noncomputable def O_r16_answer : Ev.Orc := fun _ _ _ => none
noncomputable def N_r16_answer (m : Nat) (x0 : Int) : Option Int := bif x0 == 4 then some 0 else some 129
theorem pr_r16_answer (m : Nat) (x0 : Int) : Ev.evBodyD (Es_r16_answer ) MtFr (O_r16_answer ) m 113 [.int .i64 x0] = Ev.oE E_r16_answer (N_r16_answer m x0) := by
  simp only [N_r16_answer, Ev.oE_some, Ev.oE_none, Ev.oE_cond, Ev.oE_bnd]
  kernel_rfl
noncomputable def F_r16_answer : Int → Option Int := fun x0 => N_r16_answer 0 x0
theorem ok_r16_answer : Ev.EnvOk (Ew_r16_answer ) := Ev.envOk_with envOkd Ev.SpsOk.nil
theorem ro_r16_answer : Ev.SpecRl (Ew_r16_answer ) := Ev.specRl_with rfl Ev.SpsRl.nil
theorem g_r16_answer : Ev.SpOk Try.prog false 113 (s_r16_answer F_r16_answer) := by
  refine Ev.SpOk.mkF fun vs k r g0 => ?_
  unfold s_r16_answer at g0
  obtain ⟨a0, r0, rfl, g1⟩ := Ev.kU_ok g0
  obtain ⟨rfl, g2⟩ := Ev.kE_ok g1
  obtain ⟨x0, rfl, g3⟩ := Ev.gI_ok g2
  obtain ⟨x, hx, h⟩ := Ev.bnd_get g3
  have h1 := pr_r16_answer  0 x0
  rw [show N_r16_answer  0 x0 = some x from hx] at h1
  exact ⟨_, h, Ev.good_of_inl ok_r16_answer (ro_r16_answer ) rfl rfl Ev.TabOk.nil 40 12 _ h1⟩
-- stockaderef16.Right
-- DEEP r16_Right 42 - T_api_Flow → Option Bool
noncomputable def e_r16_Right (x : Bool) : Value := .bool x
noncomputable def E_r16_Right (x : Bool) : Value × Ev.AH := (e_r16_Right x, ⟨[], 0, []⟩)
noncomputable def s_r16_Right (F : T_api_Flow → Option Bool) : Ev.Sp := fun vs k => Ev.kU vs fun a0 r0 => Ev.kE r0 <| d_api_Flow a0 fun x0 => Ev.bnd (F x0) fun x => k (e_r16_Right x)
theorem rs_r16_Right (F : T_api_Flow → Option Bool) : Ev.SpRl (s_r16_Right F) := by
  intro S vs k k2 hk
  unfold s_r16_Right
  refine Ev.rl_kU fun _ _ => ?_
  refine Ev.rl_kE ?_
  refine rl_d_api_Flow fun _ => ?_
  exact Ev.Rl.bnd fun x => hk _
noncomputable def Ew_r16_Right (F_r15_Right : T_api_Conn → Bool) (F_r14_Right : T_api_Tuple → Option Bool) (F_r16_in : Int → Int → Int → Option Bool) : Ev.Env := Ev.Env.with Ed [(70, s_r14_Right F_r14_Right), (108, s_r16_in F_r16_in)]
noncomputable def Es_r16_Right (F_r15_Right : T_api_Conn → Bool) (F_r14_Right : T_api_Tuple → Option Bool) (F_r16_in : Int → Int → Int → Option Bool) : Ev.Env := Ev.Env.inl (Ew_r16_Right F_r15_Right F_r14_Right F_r16_in) MtFr [(32, s_r15_Right F_r15_Right)] 40 12
noncomputable def O_r16_Right (F_r15_Right : T_api_Conn → Bool) (F_r14_Right : T_api_Tuple → Option Bool) (F_r16_in : Int → Int → Int → Option Bool) : Ev.Orc := fun _ _ _ => none
noncomputable def N_r16_Right (F_r15_Right : T_api_Conn → Bool) (F_r14_Right : T_api_Tuple → Option Bool) (F_r16_in : Int → Int → Int → Option Bool) (m : Nat) (x0 : T_api_Flow) : Option Bool := Ev.bnd (F_r14_Right (T_api_Tuple.mk x0.Tuple_Fam x0.Tuple_Proto x0.Tuple_Src_Fam x0.Tuple_Src_Hi x0.Tuple_Src_Lo x0.Tuple_Dst_Fam x0.Tuple_Dst_Hi x0.Tuple_Dst_Lo x0.Tuple_Sport x0.Tuple_Dport)) fun v0 => bif !v0 then some false else Ev.bnd (F_r16_in x0.Ends 0 4611686018427387904) fun v1 => bif !v1 then some false else Ev.bnd (F_r16_in x0.Help 0 3) fun v2 => bif !v2 then some false else bif x0.Tuple_Proto == 6 then some (F_r15_Right (T_api_Conn.mk x0.Conn_State x0.Conn_Next_c0 x0.Conn_Next_c1 x0.Conn_Edge_c0 x0.Conn_Edge_c1 x0.Conn_Known_c0 x0.Conn_Known_c1 x0.Conn_Ended_c0 x0.Conn_Ended_c1)) else some (x0.Conn_State == 0 && (x0.Conn_Next_c0 == 0 && (x0.Conn_Next_c1 == 0 && (x0.Conn_Edge_c0 == 0 && (x0.Conn_Edge_c1 == 0 && (x0.Conn_Known_c0 == false && (x0.Conn_Known_c1 == false && (x0.Conn_Ended_c0 == false && (x0.Conn_Ended_c1 == false && true)))))))))
theorem pr_r16_Right (F_r15_Right : T_api_Conn → Bool) (F_r14_Right : T_api_Tuple → Option Bool) (F_r16_in : Int → Int → Int → Option Bool) (m : Nat) (x0 : T_api_Flow) : Ev.evBodyD (Es_r16_Right F_r15_Right F_r14_Right F_r16_in) MtFr (O_r16_Right F_r15_Right F_r14_Right F_r16_in) m 42 [v_api_Flow x0] = Ev.oE E_r16_Right (N_r16_Right F_r15_Right F_r14_Right F_r16_in m x0) := by
  simp only [N_r16_Right, Ev.oE_some, Ev.oE_none, Ev.oE_cond, Ev.oE_bnd]
  kernel_rfl
noncomputable def F_r16_Right : T_api_Flow → Option Bool := fun x0 => N_r16_Right F_r15_Right F_r14_Right F_r16_in 0 x0
theorem ok_r16_Right : Ev.EnvOk (Ew_r16_Right F_r15_Right F_r14_Right F_r16_in) := Ev.envOk_with envOkd (Ev.SpsOk.add (b := false) g_r14_Right (by kernel_rfl) (Ev.SpsOk.add (b := false) g_r16_in (by kernel_rfl) Ev.SpsOk.nil))
theorem ro_r16_Right (F_r15_Right : T_api_Conn → Bool) (F_r14_Right : T_api_Tuple → Option Bool) (F_r16_in : Int → Int → Int → Option Bool) : Ev.SpecRl (Ew_r16_Right F_r15_Right F_r14_Right F_r16_in) := Ev.specRl_with rfl (Ev.SpsRl.cons (rs_r14_Right _) (Ev.SpsRl.cons (rs_r16_in _) Ev.SpsRl.nil))
theorem g_r16_Right : Ev.SpOk Try.prog false 42 (s_r16_Right F_r16_Right) := by
  refine Ev.SpOk.mkF fun vs k r g0 => ?_
  unfold s_r16_Right at g0
  obtain ⟨a0, r0, rfl, g1⟩ := Ev.kU_ok g0
  obtain ⟨rfl, g2⟩ := Ev.kE_ok g1
  obtain ⟨x0, rfl, g3⟩ := d_api_Flow_ok g2
  obtain ⟨x, hx, h⟩ := Ev.bnd_get g3
  have h1 := pr_r16_Right F_r15_Right F_r14_Right F_r16_in 0 x0
  rw [show N_r16_Right F_r15_Right F_r14_Right F_r16_in 0 x0 = some x from hx] at h1
  exact ⟨_, h, Ev.good_of_inl ok_r16_Right (ro_r16_Right F_r15_Right F_r14_Right F_r16_in) rfl rfl (Ev.TabOk.cons g_r15_Right Ev.TabOk.nil) 40 12 _ h1⟩
-- stockaderef16.life
-- DEEP r16_life 110 - T_api_Flow → Option Int
noncomputable def e_r16_life (x : Int) : Value := .int .i64 x
noncomputable def E_r16_life (x : Int) : Value × Ev.AH := (e_r16_life x, ⟨[], 0, []⟩)
noncomputable def s_r16_life (F : T_api_Flow → Option Int) : Ev.Sp := fun vs k => Ev.kU vs fun a0 r0 => Ev.kE r0 <| d_api_Flow a0 fun x0 => Ev.bnd (F x0) fun x => k (e_r16_life x)
theorem rs_r16_life (F : T_api_Flow → Option Int) : Ev.SpRl (s_r16_life F) := by
  intro S vs k k2 hk
  unfold s_r16_life
  refine Ev.rl_kU fun _ _ => ?_
  refine Ev.rl_kE ?_
  refine rl_d_api_Flow fun _ => ?_
  exact Ev.Rl.bnd fun x => hk _
noncomputable def Ew_r16_life (F_r15_Life : T_api_Conn → Int) : Ev.Env := Ev.Env.with Ed []
noncomputable def Es_r16_life (F_r15_Life : T_api_Conn → Int) : Ev.Env := Ev.Env.inl (Ew_r16_life F_r15_Life) MtFr [(34, s_r15_Life F_r15_Life)] 40 12
noncomputable def O_r16_life (F_r15_Life : T_api_Conn → Int) : Ev.Orc := fun _ _ _ => none
noncomputable def N_r16_life (F_r15_Life : T_api_Conn → Int) (m : Nat) (x0 : T_api_Flow) : Option Int := bif x0.Tuple_Proto == 6 then some (F_r15_Life (T_api_Conn.mk x0.Conn_State x0.Conn_Next_c0 x0.Conn_Next_c1 x0.Conn_Edge_c0 x0.Conn_Edge_c1 x0.Conn_Known_c0 x0.Conn_Known_c1 x0.Conn_Ended_c0 x0.Conn_Ended_c1)) else bif x0.Tuple_Proto == 17 then bif x0.Both then some 180 else bif x0.Tuple_Proto == 17 then some 30 else some 10 else bif x0.Tuple_Proto == 17 then some 30 else some 10
theorem pr_r16_life (F_r15_Life : T_api_Conn → Int) (m : Nat) (x0 : T_api_Flow) : Ev.evBodyD (Es_r16_life F_r15_Life) MtFr (O_r16_life F_r15_Life) m 110 [v_api_Flow x0] = Ev.oE E_r16_life (N_r16_life F_r15_Life m x0) := by
  simp only [N_r16_life, Ev.oE_some, Ev.oE_none, Ev.oE_cond, Ev.oE_bnd]
  kernel_rfl
noncomputable def F_r16_life : T_api_Flow → Option Int := fun x0 => N_r16_life F_r15_Life 0 x0
theorem ok_r16_life : Ev.EnvOk (Ew_r16_life F_r15_Life) := Ev.envOk_with envOkd Ev.SpsOk.nil
theorem ro_r16_life (F_r15_Life : T_api_Conn → Int) : Ev.SpecRl (Ew_r16_life F_r15_Life) := Ev.specRl_with rfl Ev.SpsRl.nil
theorem g_r16_life : Ev.SpOk Try.prog false 110 (s_r16_life F_r16_life) := by
  refine Ev.SpOk.mkF fun vs k r g0 => ?_
  unfold s_r16_life at g0
  obtain ⟨a0, r0, rfl, g1⟩ := Ev.kU_ok g0
  obtain ⟨rfl, g2⟩ := Ev.kE_ok g1
  obtain ⟨x0, rfl, g3⟩ := d_api_Flow_ok g2
  obtain ⟨x, hx, h⟩ := Ev.bnd_get g3
  have h1 := pr_r16_life F_r15_Life 0 x0
  rw [show N_r16_life F_r15_Life 0 x0 = some x from hx] at h1
  exact ⟨_, h, Ev.good_of_inl ok_r16_life (ro_r16_life F_r15_Life) rfl rfl (Ev.TabOk.cons g_r15_Life Ev.TabOk.nil) 40 12 _ h1⟩
-- stockaderef16.Start
-- DEEP r16_Start 40 - D_api_Seg → Int → Int → Option (T_api_Flow × Int)
noncomputable def e_r16_Start (x : T_api_Flow × Int) : Value := .tuple ⟨[v_api_Flow (x.1), .int .i64 (x.2)]⟩
noncomputable def E_r16_Start (x : T_api_Flow × Int) : Value × Ev.AH := (e_r16_Start x, ⟨[], 0, []⟩)
noncomputable def s_r16_Start (F : D_api_Seg → Int → Int → Option (T_api_Flow × Int)) : Ev.Sp := fun vs k => Ev.kU vs fun a0 r0 => Ev.kU r0 fun a1 r1 => Ev.kU r1 fun a2 r2 => Ev.kE r2 <| d_api_Seg a0 fun x0 => Ev.gI .i64 a1 fun x1 => Ev.gI .i64 a2 fun x2 => Ev.bnd (F x0 x1 x2) fun x => k (e_r16_Start x)
theorem rs_r16_Start (F : D_api_Seg → Int → Int → Option (T_api_Flow × Int)) : Ev.SpRl (s_r16_Start F) := by
  intro S vs k k2 hk
  unfold s_r16_Start
  refine Ev.rl_kU fun _ _ => ?_
  refine Ev.rl_kU fun _ _ => ?_
  refine Ev.rl_kU fun _ _ => ?_
  refine Ev.rl_kE ?_
  refine rl_d_api_Seg fun _ => ?_
  refine Ev.rl_gI fun _ => ?_
  refine Ev.rl_gI fun _ => ?_
  exact Ev.Rl.bnd fun x => hk _
noncomputable def Ew_r16_Start (F_r15_Begin : Int → Int → Int → Int → (T_api_Conn × Int)) (F_r14_Right : T_api_Tuple → Option Bool) (F_r16_in : Int → Int → Int → Option Bool) (F_r16_question : Int → Option Int) (F_r16_life : T_api_Flow → Option Int) : Ev.Env := Ev.Env.with Ed [(70, s_r14_Right F_r14_Right), (108, s_r16_in F_r16_in), (109, s_r16_question F_r16_question), (110, s_r16_life F_r16_life)]
noncomputable def Es_r16_Start (F_r15_Begin : Int → Int → Int → Int → (T_api_Conn × Int)) (F_r14_Right : T_api_Tuple → Option Bool) (F_r16_in : Int → Int → Int → Option Bool) (F_r16_question : Int → Option Int) (F_r16_life : T_api_Flow → Option Int) : Ev.Env := Ev.Env.inl (Ew_r16_Start F_r15_Begin F_r14_Right F_r16_in F_r16_question F_r16_life) MtFr [(29, s_r15_Begin F_r15_Begin)] 40 12
noncomputable def O_r16_Start (F_r15_Begin : Int → Int → Int → Int → (T_api_Conn × Int)) (F_r14_Right : T_api_Tuple → Option Bool) (F_r16_in : Int → Int → Int → Option Bool) (F_r16_question : Int → Option Int) (F_r16_life : T_api_Flow → Option Int) : Ev.Orc := fun _ _ _ => none
noncomputable def N_r16_Start (F_r15_Begin : Int → Int → Int → Int → (T_api_Conn × Int)) (F_r14_Right : T_api_Tuple → Option Bool) (F_r16_in : Int → Int → Int → Option Bool) (F_r16_question : Int → Option Int) (F_r16_life : T_api_Flow → Option Int) (m : Nat) (x0 : D_api_Seg) (x1 : Int) (x2 : Int) : Option (T_api_Flow × Int) := Ev.bnd (F_r14_Right (T_api_Tuple.mk x0.Tuple_Fam x0.Tuple_Proto x0.Tuple_Src_Fam x0.Tuple_Src_Hi x0.Tuple_Src_Lo x0.Tuple_Dst_Fam x0.Tuple_Dst_Hi x0.Tuple_Dst_Lo x0.Tuple_Sport x0.Tuple_Dport)) fun v0 => bif !v0 then some (T_api_Flow.mk 0 0 0 0 0 0 0 0 0 0 0 0 0 0 0 false false false false 0 0 false, 1) else Ev.bnd (F_r16_in x1 0 4611686018427384304) fun v1 => bif !v1 then some (T_api_Flow.mk 0 0 0 0 0 0 0 0 0 0 0 0 0 0 0 false false false false 0 0 false, 1) else Ev.bnd (F_r16_in x2 0 3) fun v2 => bif !v2 then some (T_api_Flow.mk 0 0 0 0 0 0 0 0 0 0 0 0 0 0 0 false false false false 0 0 false, 1) else bif x0.Tuple_Proto == 6 then bif (F_r15_Begin x0.Flags x0.Seq x0.Win ↑(Ev.dlen 1 x0.Data)).snd != 0 then some (T_api_Flow.mk 0 0 0 0 0 0 0 0 0 0 0 0 0 0 0 false false false false 0 0 false, (F_r15_Begin x0.Flags x0.Seq x0.Win ↑(Ev.dlen 1 x0.Data)).snd) else Ev.bnd (F_r16_life (T_api_Flow.mk x0.Tuple_Fam x0.Tuple_Proto x0.Tuple_Src_Fam x0.Tuple_Src_Hi x0.Tuple_Src_Lo x0.Tuple_Dst_Fam x0.Tuple_Dst_Hi x0.Tuple_Dst_Lo x0.Tuple_Sport x0.Tuple_Dport (F_r15_Begin x0.Flags x0.Seq x0.Win ↑(Ev.dlen 1 x0.Data)).fst.State (F_r15_Begin x0.Flags x0.Seq x0.Win ↑(Ev.dlen 1 x0.Data)).fst.Next_c0 (F_r15_Begin x0.Flags x0.Seq x0.Win ↑(Ev.dlen 1 x0.Data)).fst.Next_c1 (F_r15_Begin x0.Flags x0.Seq x0.Win ↑(Ev.dlen 1 x0.Data)).fst.Edge_c0 (F_r15_Begin x0.Flags x0.Seq x0.Win ↑(Ev.dlen 1 x0.Data)).fst.Edge_c1 (F_r15_Begin x0.Flags x0.Seq x0.Win ↑(Ev.dlen 1 x0.Data)).fst.Known_c0 (F_r15_Begin x0.Flags x0.Seq x0.Win ↑(Ev.dlen 1 x0.Data)).fst.Known_c1 (F_r15_Begin x0.Flags x0.Seq x0.Win ↑(Ev.dlen 1 x0.Data)).fst.Ended_c0 (F_r15_Begin x0.Flags x0.Seq x0.Win ↑(Ev.dlen 1 x0.Data)).fst.Ended_c1 0 x2 false)) fun v3 => some (T_api_Flow.mk x0.Tuple_Fam x0.Tuple_Proto x0.Tuple_Src_Fam x0.Tuple_Src_Hi x0.Tuple_Src_Lo x0.Tuple_Dst_Fam x0.Tuple_Dst_Hi x0.Tuple_Dst_Lo x0.Tuple_Sport x0.Tuple_Dport (F_r15_Begin x0.Flags x0.Seq x0.Win ↑(Ev.dlen 1 x0.Data)).fst.State (F_r15_Begin x0.Flags x0.Seq x0.Win ↑(Ev.dlen 1 x0.Data)).fst.Next_c0 (F_r15_Begin x0.Flags x0.Seq x0.Win ↑(Ev.dlen 1 x0.Data)).fst.Next_c1 (F_r15_Begin x0.Flags x0.Seq x0.Win ↑(Ev.dlen 1 x0.Data)).fst.Edge_c0 (F_r15_Begin x0.Flags x0.Seq x0.Win ↑(Ev.dlen 1 x0.Data)).fst.Edge_c1 (F_r15_Begin x0.Flags x0.Seq x0.Win ↑(Ev.dlen 1 x0.Data)).fst.Known_c0 (F_r15_Begin x0.Flags x0.Seq x0.Win ↑(Ev.dlen 1 x0.Data)).fst.Known_c1 (F_r15_Begin x0.Flags x0.Seq x0.Win ↑(Ev.dlen 1 x0.Data)).fst.Ended_c0 (F_r15_Begin x0.Flags x0.Seq x0.Win ↑(Ev.dlen 1 x0.Data)).fst.Ended_c1 (IntKind.wrap IntKind.i64 (x1 + v3)) x2 false, 0) else bif x0.Tuple_Proto == 17 then Ev.bnd (F_r16_life (T_api_Flow.mk x0.Tuple_Fam x0.Tuple_Proto x0.Tuple_Src_Fam x0.Tuple_Src_Hi x0.Tuple_Src_Lo x0.Tuple_Dst_Fam x0.Tuple_Dst_Hi x0.Tuple_Dst_Lo x0.Tuple_Sport x0.Tuple_Dport 0 0 0 0 0 false false false false 0 x2 false)) fun v4 => some (T_api_Flow.mk x0.Tuple_Fam x0.Tuple_Proto x0.Tuple_Src_Fam x0.Tuple_Src_Hi x0.Tuple_Src_Lo x0.Tuple_Dst_Fam x0.Tuple_Dst_Hi x0.Tuple_Dst_Lo x0.Tuple_Sport x0.Tuple_Dport 0 0 0 0 0 false false false false (IntKind.wrap IntKind.i64 (x1 + v4)) x2 false, 0) else Ev.bnd (F_r16_question x0.Tuple_Fam) fun v5 => bif x0.Type_ != v5 then some (T_api_Flow.mk 0 0 0 0 0 0 0 0 0 0 0 0 0 0 0 false false false false 0 0 false, 23) else bif x0.Code != 0 then some (T_api_Flow.mk 0 0 0 0 0 0 0 0 0 0 0 0 0 0 0 false false false false 0 0 false, 23) else Ev.bnd (F_r16_life (T_api_Flow.mk x0.Tuple_Fam x0.Tuple_Proto x0.Tuple_Src_Fam x0.Tuple_Src_Hi x0.Tuple_Src_Lo x0.Tuple_Dst_Fam x0.Tuple_Dst_Hi x0.Tuple_Dst_Lo x0.Tuple_Sport x0.Tuple_Dport 0 0 0 0 0 false false false false 0 x2 false)) fun v6 => some (T_api_Flow.mk x0.Tuple_Fam x0.Tuple_Proto x0.Tuple_Src_Fam x0.Tuple_Src_Hi x0.Tuple_Src_Lo x0.Tuple_Dst_Fam x0.Tuple_Dst_Hi x0.Tuple_Dst_Lo x0.Tuple_Sport x0.Tuple_Dport 0 0 0 0 0 false false false false (IntKind.wrap IntKind.i64 (x1 + v6)) x2 false, 0)
theorem pr_r16_Start (F_r15_Begin : Int → Int → Int → Int → (T_api_Conn × Int)) (F_r14_Right : T_api_Tuple → Option Bool) (F_r16_in : Int → Int → Int → Option Bool) (F_r16_question : Int → Option Int) (F_r16_life : T_api_Flow → Option Int) (m : Nat) (x0 : D_api_Seg) (x1 : Int) (x2 : Int) : Ev.evBodyD (Es_r16_Start F_r15_Begin F_r14_Right F_r16_in F_r16_question F_r16_life) MtFr (O_r16_Start F_r15_Begin F_r14_Right F_r16_in F_r16_question F_r16_life) m 40 [v_api_Seg x0, .int .i64 x1, .int .i64 x2] = Ev.oE E_r16_Start (N_r16_Start F_r15_Begin F_r14_Right F_r16_in F_r16_question F_r16_life m x0 x1 x2) := by
  simp only [N_r16_Start, Ev.oE_some, Ev.oE_none, Ev.oE_cond, Ev.oE_bnd]
  kernel_rfl
noncomputable def F_r16_Start : D_api_Seg → Int → Int → Option (T_api_Flow × Int) := fun x0 x1 x2 => N_r16_Start F_r15_Begin F_r14_Right F_r16_in F_r16_question F_r16_life 0 x0 x1 x2
theorem ok_r16_Start : Ev.EnvOk (Ew_r16_Start F_r15_Begin F_r14_Right F_r16_in F_r16_question F_r16_life) := Ev.envOk_with envOkd (Ev.SpsOk.add (b := false) g_r14_Right (by kernel_rfl) (Ev.SpsOk.add (b := false) g_r16_in (by kernel_rfl) (Ev.SpsOk.add (b := false) g_r16_question (by kernel_rfl) (Ev.SpsOk.add (b := false) g_r16_life (by kernel_rfl) Ev.SpsOk.nil))))
theorem ro_r16_Start (F_r15_Begin : Int → Int → Int → Int → (T_api_Conn × Int)) (F_r14_Right : T_api_Tuple → Option Bool) (F_r16_in : Int → Int → Int → Option Bool) (F_r16_question : Int → Option Int) (F_r16_life : T_api_Flow → Option Int) : Ev.SpecRl (Ew_r16_Start F_r15_Begin F_r14_Right F_r16_in F_r16_question F_r16_life) := Ev.specRl_with rfl (Ev.SpsRl.cons (rs_r14_Right _) (Ev.SpsRl.cons (rs_r16_in _) (Ev.SpsRl.cons (rs_r16_question _) (Ev.SpsRl.cons (rs_r16_life _) Ev.SpsRl.nil))))
theorem g_r16_Start : Ev.SpOk Try.prog false 40 (s_r16_Start F_r16_Start) := by
  refine Ev.SpOk.mkF fun vs k r g0 => ?_
  unfold s_r16_Start at g0
  obtain ⟨a0, r0, rfl, g1⟩ := Ev.kU_ok g0
  obtain ⟨a1, r1, rfl, g2⟩ := Ev.kU_ok g1
  obtain ⟨a2, r2, rfl, g3⟩ := Ev.kU_ok g2
  obtain ⟨rfl, g4⟩ := Ev.kE_ok g3
  obtain ⟨x0, rfl, g5⟩ := d_api_Seg_ok g4
  obtain ⟨x1, rfl, g6⟩ := Ev.gI_ok g5
  obtain ⟨x2, rfl, g7⟩ := Ev.gI_ok g6
  obtain ⟨x, hx, h⟩ := Ev.bnd_get g7
  have h1 := pr_r16_Start F_r15_Begin F_r14_Right F_r16_in F_r16_question F_r16_life 0 x0 x1 x2
  rw [show N_r16_Start F_r15_Begin F_r14_Right F_r16_in F_r16_question F_r16_life 0 x0 x1 x2 = some x from hx] at h1
  exact ⟨_, h, Ev.good_of_inl ok_r16_Start (ro_r16_Start F_r15_Begin F_r14_Right F_r16_in F_r16_question F_r16_life) rfl rfl (Ev.TabOk.cons g_r15_Begin Ev.TabOk.nil) 40 12 _ h1⟩
-- stockaderef16.Go
-- DEEP r16_Go 45 - T_api_Flow → Int → D_api_Seg → Int → Option (T_api_Flow × Int)
noncomputable def e_r16_Go (x : T_api_Flow × Int) : Value := .tuple ⟨[v_api_Flow (x.1), .int .i64 (x.2)]⟩
noncomputable def E_r16_Go (x : T_api_Flow × Int) : Value × Ev.AH := (e_r16_Go x, ⟨[], 0, []⟩)
noncomputable def s_r16_Go (F : T_api_Flow → Int → D_api_Seg → Int → Option (T_api_Flow × Int)) : Ev.Sp := fun vs k => Ev.kU vs fun a0 r0 => Ev.kU r0 fun a1 r1 => Ev.kU r1 fun a2 r2 => Ev.kU r2 fun a3 r3 => Ev.kE r3 <| d_api_Flow a0 fun x0 => Ev.gI .i64 a1 fun x1 => d_api_Seg a2 fun x2 => Ev.gI .i64 a3 fun x3 => Ev.bnd (F x0 x1 x2 x3) fun x => k (e_r16_Go x)
theorem rs_r16_Go (F : T_api_Flow → Int → D_api_Seg → Int → Option (T_api_Flow × Int)) : Ev.SpRl (s_r16_Go F) := by
  intro S vs k k2 hk
  unfold s_r16_Go
  refine Ev.rl_kU fun _ _ => ?_
  refine Ev.rl_kU fun _ _ => ?_
  refine Ev.rl_kU fun _ _ => ?_
  refine Ev.rl_kU fun _ _ => ?_
  refine Ev.rl_kE ?_
  refine rl_d_api_Flow fun _ => ?_
  refine Ev.rl_gI fun _ => ?_
  refine rl_d_api_Seg fun _ => ?_
  refine Ev.rl_gI fun _ => ?_
  exact Ev.Rl.bnd fun x => hk _
noncomputable def Ew_r16_Go (F_r15_Step : T_api_Conn → Int → T_r15_Segment → (T_api_Conn × Int)) (F_r16_Right : T_api_Flow → Option Bool) (F_r16_in : Int → Int → Int → Option Bool) (F_r16_question : Int → Option Int) (F_r14_Reverse : T_api_Tuple → Option T_api_Tuple) (F_r16_answer : Int → Option Int) (F_r16_life : T_api_Flow → Option Int) : Ev.Env := Ev.Env.with Ed [(42, s_r16_Right F_r16_Right), (108, s_r16_in F_r16_in), (109, s_r16_question F_r16_question), (51, s_r14_Reverse F_r14_Reverse), (113, s_r16_answer F_r16_answer), (110, s_r16_life F_r16_life)]
noncomputable def Es_r16_Go (F_r15_Step : T_api_Conn → Int → T_r15_Segment → (T_api_Conn × Int)) (F_r16_Right : T_api_Flow → Option Bool) (F_r16_in : Int → Int → Int → Option Bool) (F_r16_question : Int → Option Int) (F_r14_Reverse : T_api_Tuple → Option T_api_Tuple) (F_r16_answer : Int → Option Int) (F_r16_life : T_api_Flow → Option Int) : Ev.Env := Ev.Env.inl (Ew_r16_Go F_r15_Step F_r16_Right F_r16_in F_r16_question F_r14_Reverse F_r16_answer F_r16_life) MtFr [(37, s_r15_Step F_r15_Step)] 40 12
noncomputable def O_r16_Go (F_r15_Step : T_api_Conn → Int → T_r15_Segment → (T_api_Conn × Int)) (F_r16_Right : T_api_Flow → Option Bool) (F_r16_in : Int → Int → Int → Option Bool) (F_r16_question : Int → Option Int) (F_r14_Reverse : T_api_Tuple → Option T_api_Tuple) (F_r16_answer : Int → Option Int) (F_r16_life : T_api_Flow → Option Int) : Ev.Orc := fun _ _ _ => none
noncomputable def N_r16_Go (F_r15_Step : T_api_Conn → Int → T_r15_Segment → (T_api_Conn × Int)) (F_r16_Right : T_api_Flow → Option Bool) (F_r16_in : Int → Int → Int → Option Bool) (F_r16_question : Int → Option Int) (F_r14_Reverse : T_api_Tuple → Option T_api_Tuple) (F_r16_answer : Int → Option Int) (F_r16_life : T_api_Flow → Option Int) (m : Nat) (x0 : T_api_Flow) (x1 : Int) (x2 : D_api_Seg) (x3 : Int) : Option (T_api_Flow × Int) := Ev.bnd (F_r16_Right x0) fun v0 => bif !v0 then some (T_api_Flow.mk 0 0 0 0 0 0 0 0 0 0 0 0 0 0 0 false false false false 0 0 false, 1) else Ev.bnd (F_r16_in x1 0 1) fun v1 => bif !v1 then some (T_api_Flow.mk 0 0 0 0 0 0 0 0 0 0 0 0 0 0 0 false false false false 0 0 false, 1) else Ev.bnd (F_r16_in x3 0 4611686018427384304) fun v2 => bif !v2 then some (T_api_Flow.mk 0 0 0 0 0 0 0 0 0 0 0 0 0 0 0 false false false false 0 0 false, 1) else Ev.bnd (F_r16_question x0.Tuple_Fam) fun v3 => bif x1 == 1 then Ev.bnd (F_r14_Reverse (T_api_Tuple.mk x0.Tuple_Fam x0.Tuple_Proto x0.Tuple_Src_Fam x0.Tuple_Src_Hi x0.Tuple_Src_Lo x0.Tuple_Dst_Fam x0.Tuple_Dst_Hi x0.Tuple_Dst_Lo x0.Tuple_Sport x0.Tuple_Dport)) fun v4 => Ev.bnd (F_r16_answer x0.Tuple_Fam) fun v5 => bif !(x2.Tuple_Fam == v4.Fam && (x2.Tuple_Proto == v4.Proto && (x2.Tuple_Src_Fam == v4.Src_Fam && (x2.Tuple_Src_Hi == v4.Src_Hi && (x2.Tuple_Src_Lo == v4.Src_Lo && (x2.Tuple_Dst_Fam == v4.Dst_Fam && (x2.Tuple_Dst_Hi == v4.Dst_Hi && (x2.Tuple_Dst_Lo == v4.Dst_Lo && (x2.Tuple_Sport == v4.Sport && (x2.Tuple_Dport == v4.Dport && true)))))))))) then some (T_api_Flow.mk 0 0 0 0 0 0 0 0 0 0 0 0 0 0 0 false false false false 0 0 false, 23) else bif x0.Tuple_Proto == 6 then bif (F_r15_Step (T_api_Conn.mk x0.Conn_State x0.Conn_Next_c0 x0.Conn_Next_c1 x0.Conn_Edge_c0 x0.Conn_Edge_c1 x0.Conn_Known_c0 x0.Conn_Known_c1 x0.Conn_Ended_c0 x0.Conn_Ended_c1) x1 (T_r15_Segment.mk x2.Flags x2.Win (↑(Ev.dlen 1 x2.Data)) x2.Seq x2.Ack)).snd != 0 then some (T_api_Flow.mk 0 0 0 0 0 0 0 0 0 0 0 0 0 0 0 false false false false 0 0 false, (F_r15_Step (T_api_Conn.mk x0.Conn_State x0.Conn_Next_c0 x0.Conn_Next_c1 x0.Conn_Edge_c0 x0.Conn_Edge_c1 x0.Conn_Known_c0 x0.Conn_Known_c1 x0.Conn_Ended_c0 x0.Conn_Ended_c1) x1 (T_r15_Segment.mk x2.Flags x2.Win (↑(Ev.dlen 1 x2.Data)) x2.Seq x2.Ack)).snd) else bif x0.Both then Ev.bnd (F_r16_life (T_api_Flow.mk x0.Tuple_Fam x0.Tuple_Proto x0.Tuple_Src_Fam x0.Tuple_Src_Hi x0.Tuple_Src_Lo x0.Tuple_Dst_Fam x0.Tuple_Dst_Hi x0.Tuple_Dst_Lo x0.Tuple_Sport x0.Tuple_Dport (F_r15_Step (T_api_Conn.mk x0.Conn_State x0.Conn_Next_c0 x0.Conn_Next_c1 x0.Conn_Edge_c0 x0.Conn_Edge_c1 x0.Conn_Known_c0 x0.Conn_Known_c1 x0.Conn_Ended_c0 x0.Conn_Ended_c1) x1 (T_r15_Segment.mk x2.Flags x2.Win (↑(Ev.dlen 1 x2.Data)) x2.Seq x2.Ack)).fst.State (F_r15_Step (T_api_Conn.mk x0.Conn_State x0.Conn_Next_c0 x0.Conn_Next_c1 x0.Conn_Edge_c0 x0.Conn_Edge_c1 x0.Conn_Known_c0 x0.Conn_Known_c1 x0.Conn_Ended_c0 x0.Conn_Ended_c1) x1 (T_r15_Segment.mk x2.Flags x2.Win (↑(Ev.dlen 1 x2.Data)) x2.Seq x2.Ack)).fst.Next_c0 (F_r15_Step (T_api_Conn.mk x0.Conn_State x0.Conn_Next_c0 x0.Conn_Next_c1 x0.Conn_Edge_c0 x0.Conn_Edge_c1 x0.Conn_Known_c0 x0.Conn_Known_c1 x0.Conn_Ended_c0 x0.Conn_Ended_c1) x1 (T_r15_Segment.mk x2.Flags x2.Win (↑(Ev.dlen 1 x2.Data)) x2.Seq x2.Ack)).fst.Next_c1 (F_r15_Step (T_api_Conn.mk x0.Conn_State x0.Conn_Next_c0 x0.Conn_Next_c1 x0.Conn_Edge_c0 x0.Conn_Edge_c1 x0.Conn_Known_c0 x0.Conn_Known_c1 x0.Conn_Ended_c0 x0.Conn_Ended_c1) x1 (T_r15_Segment.mk x2.Flags x2.Win (↑(Ev.dlen 1 x2.Data)) x2.Seq x2.Ack)).fst.Edge_c0 (F_r15_Step (T_api_Conn.mk x0.Conn_State x0.Conn_Next_c0 x0.Conn_Next_c1 x0.Conn_Edge_c0 x0.Conn_Edge_c1 x0.Conn_Known_c0 x0.Conn_Known_c1 x0.Conn_Ended_c0 x0.Conn_Ended_c1) x1 (T_r15_Segment.mk x2.Flags x2.Win (↑(Ev.dlen 1 x2.Data)) x2.Seq x2.Ack)).fst.Edge_c1 (F_r15_Step (T_api_Conn.mk x0.Conn_State x0.Conn_Next_c0 x0.Conn_Next_c1 x0.Conn_Edge_c0 x0.Conn_Edge_c1 x0.Conn_Known_c0 x0.Conn_Known_c1 x0.Conn_Ended_c0 x0.Conn_Ended_c1) x1 (T_r15_Segment.mk x2.Flags x2.Win (↑(Ev.dlen 1 x2.Data)) x2.Seq x2.Ack)).fst.Known_c0 (F_r15_Step (T_api_Conn.mk x0.Conn_State x0.Conn_Next_c0 x0.Conn_Next_c1 x0.Conn_Edge_c0 x0.Conn_Edge_c1 x0.Conn_Known_c0 x0.Conn_Known_c1 x0.Conn_Ended_c0 x0.Conn_Ended_c1) x1 (T_r15_Segment.mk x2.Flags x2.Win (↑(Ev.dlen 1 x2.Data)) x2.Seq x2.Ack)).fst.Known_c1 (F_r15_Step (T_api_Conn.mk x0.Conn_State x0.Conn_Next_c0 x0.Conn_Next_c1 x0.Conn_Edge_c0 x0.Conn_Edge_c1 x0.Conn_Known_c0 x0.Conn_Known_c1 x0.Conn_Ended_c0 x0.Conn_Ended_c1) x1 (T_r15_Segment.mk x2.Flags x2.Win (↑(Ev.dlen 1 x2.Data)) x2.Seq x2.Ack)).fst.Ended_c0 (F_r15_Step (T_api_Conn.mk x0.Conn_State x0.Conn_Next_c0 x0.Conn_Next_c1 x0.Conn_Edge_c0 x0.Conn_Edge_c1 x0.Conn_Known_c0 x0.Conn_Known_c1 x0.Conn_Ended_c0 x0.Conn_Ended_c1) x1 (T_r15_Segment.mk x2.Flags x2.Win (↑(Ev.dlen 1 x2.Data)) x2.Seq x2.Ack)).fst.Ended_c1 x0.Ends x0.Help true)) fun v6 => some (T_api_Flow.mk x0.Tuple_Fam x0.Tuple_Proto x0.Tuple_Src_Fam x0.Tuple_Src_Hi x0.Tuple_Src_Lo x0.Tuple_Dst_Fam x0.Tuple_Dst_Hi x0.Tuple_Dst_Lo x0.Tuple_Sport x0.Tuple_Dport (F_r15_Step (T_api_Conn.mk x0.Conn_State x0.Conn_Next_c0 x0.Conn_Next_c1 x0.Conn_Edge_c0 x0.Conn_Edge_c1 x0.Conn_Known_c0 x0.Conn_Known_c1 x0.Conn_Ended_c0 x0.Conn_Ended_c1) x1 (T_r15_Segment.mk x2.Flags x2.Win (↑(Ev.dlen 1 x2.Data)) x2.Seq x2.Ack)).fst.State (F_r15_Step (T_api_Conn.mk x0.Conn_State x0.Conn_Next_c0 x0.Conn_Next_c1 x0.Conn_Edge_c0 x0.Conn_Edge_c1 x0.Conn_Known_c0 x0.Conn_Known_c1 x0.Conn_Ended_c0 x0.Conn_Ended_c1) x1 (T_r15_Segment.mk x2.Flags x2.Win (↑(Ev.dlen 1 x2.Data)) x2.Seq x2.Ack)).fst.Next_c0 (F_r15_Step (T_api_Conn.mk x0.Conn_State x0.Conn_Next_c0 x0.Conn_Next_c1 x0.Conn_Edge_c0 x0.Conn_Edge_c1 x0.Conn_Known_c0 x0.Conn_Known_c1 x0.Conn_Ended_c0 x0.Conn_Ended_c1) x1 (T_r15_Segment.mk x2.Flags x2.Win (↑(Ev.dlen 1 x2.Data)) x2.Seq x2.Ack)).fst.Next_c1 (F_r15_Step (T_api_Conn.mk x0.Conn_State x0.Conn_Next_c0 x0.Conn_Next_c1 x0.Conn_Edge_c0 x0.Conn_Edge_c1 x0.Conn_Known_c0 x0.Conn_Known_c1 x0.Conn_Ended_c0 x0.Conn_Ended_c1) x1 (T_r15_Segment.mk x2.Flags x2.Win (↑(Ev.dlen 1 x2.Data)) x2.Seq x2.Ack)).fst.Edge_c0 (F_r15_Step (T_api_Conn.mk x0.Conn_State x0.Conn_Next_c0 x0.Conn_Next_c1 x0.Conn_Edge_c0 x0.Conn_Edge_c1 x0.Conn_Known_c0 x0.Conn_Known_c1 x0.Conn_Ended_c0 x0.Conn_Ended_c1) x1 (T_r15_Segment.mk x2.Flags x2.Win (↑(Ev.dlen 1 x2.Data)) x2.Seq x2.Ack)).fst.Edge_c1 (F_r15_Step (T_api_Conn.mk x0.Conn_State x0.Conn_Next_c0 x0.Conn_Next_c1 x0.Conn_Edge_c0 x0.Conn_Edge_c1 x0.Conn_Known_c0 x0.Conn_Known_c1 x0.Conn_Ended_c0 x0.Conn_Ended_c1) x1 (T_r15_Segment.mk x2.Flags x2.Win (↑(Ev.dlen 1 x2.Data)) x2.Seq x2.Ack)).fst.Known_c0 (F_r15_Step (T_api_Conn.mk x0.Conn_State x0.Conn_Next_c0 x0.Conn_Next_c1 x0.Conn_Edge_c0 x0.Conn_Edge_c1 x0.Conn_Known_c0 x0.Conn_Known_c1 x0.Conn_Ended_c0 x0.Conn_Ended_c1) x1 (T_r15_Segment.mk x2.Flags x2.Win (↑(Ev.dlen 1 x2.Data)) x2.Seq x2.Ack)).fst.Known_c1 (F_r15_Step (T_api_Conn.mk x0.Conn_State x0.Conn_Next_c0 x0.Conn_Next_c1 x0.Conn_Edge_c0 x0.Conn_Edge_c1 x0.Conn_Known_c0 x0.Conn_Known_c1 x0.Conn_Ended_c0 x0.Conn_Ended_c1) x1 (T_r15_Segment.mk x2.Flags x2.Win (↑(Ev.dlen 1 x2.Data)) x2.Seq x2.Ack)).fst.Ended_c0 (F_r15_Step (T_api_Conn.mk x0.Conn_State x0.Conn_Next_c0 x0.Conn_Next_c1 x0.Conn_Edge_c0 x0.Conn_Edge_c1 x0.Conn_Known_c0 x0.Conn_Known_c1 x0.Conn_Ended_c0 x0.Conn_Ended_c1) x1 (T_r15_Segment.mk x2.Flags x2.Win (↑(Ev.dlen 1 x2.Data)) x2.Seq x2.Ack)).fst.Ended_c1 (IntKind.wrap IntKind.i64 (x3 + v6)) x0.Help true, 0) else Ev.bnd (F_r16_life (T_api_Flow.mk x0.Tuple_Fam x0.Tuple_Proto x0.Tuple_Src_Fam x0.Tuple_Src_Hi x0.Tuple_Src_Lo x0.Tuple_Dst_Fam x0.Tuple_Dst_Hi x0.Tuple_Dst_Lo x0.Tuple_Sport x0.Tuple_Dport (F_r15_Step (T_api_Conn.mk x0.Conn_State x0.Conn_Next_c0 x0.Conn_Next_c1 x0.Conn_Edge_c0 x0.Conn_Edge_c1 x0.Conn_Known_c0 x0.Conn_Known_c1 x0.Conn_Ended_c0 x0.Conn_Ended_c1) x1 (T_r15_Segment.mk x2.Flags x2.Win (↑(Ev.dlen 1 x2.Data)) x2.Seq x2.Ack)).fst.State (F_r15_Step (T_api_Conn.mk x0.Conn_State x0.Conn_Next_c0 x0.Conn_Next_c1 x0.Conn_Edge_c0 x0.Conn_Edge_c1 x0.Conn_Known_c0 x0.Conn_Known_c1 x0.Conn_Ended_c0 x0.Conn_Ended_c1) x1 (T_r15_Segment.mk x2.Flags x2.Win (↑(Ev.dlen 1 x2.Data)) x2.Seq x2.Ack)).fst.Next_c0 (F_r15_Step (T_api_Conn.mk x0.Conn_State x0.Conn_Next_c0 x0.Conn_Next_c1 x0.Conn_Edge_c0 x0.Conn_Edge_c1 x0.Conn_Known_c0 x0.Conn_Known_c1 x0.Conn_Ended_c0 x0.Conn_Ended_c1) x1 (T_r15_Segment.mk x2.Flags x2.Win (↑(Ev.dlen 1 x2.Data)) x2.Seq x2.Ack)).fst.Next_c1 (F_r15_Step (T_api_Conn.mk x0.Conn_State x0.Conn_Next_c0 x0.Conn_Next_c1 x0.Conn_Edge_c0 x0.Conn_Edge_c1 x0.Conn_Known_c0 x0.Conn_Known_c1 x0.Conn_Ended_c0 x0.Conn_Ended_c1) x1 (T_r15_Segment.mk x2.Flags x2.Win (↑(Ev.dlen 1 x2.Data)) x2.Seq x2.Ack)).fst.Edge_c0 (F_r15_Step (T_api_Conn.mk x0.Conn_State x0.Conn_Next_c0 x0.Conn_Next_c1 x0.Conn_Edge_c0 x0.Conn_Edge_c1 x0.Conn_Known_c0 x0.Conn_Known_c1 x0.Conn_Ended_c0 x0.Conn_Ended_c1) x1 (T_r15_Segment.mk x2.Flags x2.Win (↑(Ev.dlen 1 x2.Data)) x2.Seq x2.Ack)).fst.Edge_c1 (F_r15_Step (T_api_Conn.mk x0.Conn_State x0.Conn_Next_c0 x0.Conn_Next_c1 x0.Conn_Edge_c0 x0.Conn_Edge_c1 x0.Conn_Known_c0 x0.Conn_Known_c1 x0.Conn_Ended_c0 x0.Conn_Ended_c1) x1 (T_r15_Segment.mk x2.Flags x2.Win (↑(Ev.dlen 1 x2.Data)) x2.Seq x2.Ack)).fst.Known_c0 (F_r15_Step (T_api_Conn.mk x0.Conn_State x0.Conn_Next_c0 x0.Conn_Next_c1 x0.Conn_Edge_c0 x0.Conn_Edge_c1 x0.Conn_Known_c0 x0.Conn_Known_c1 x0.Conn_Ended_c0 x0.Conn_Ended_c1) x1 (T_r15_Segment.mk x2.Flags x2.Win (↑(Ev.dlen 1 x2.Data)) x2.Seq x2.Ack)).fst.Known_c1 (F_r15_Step (T_api_Conn.mk x0.Conn_State x0.Conn_Next_c0 x0.Conn_Next_c1 x0.Conn_Edge_c0 x0.Conn_Edge_c1 x0.Conn_Known_c0 x0.Conn_Known_c1 x0.Conn_Ended_c0 x0.Conn_Ended_c1) x1 (T_r15_Segment.mk x2.Flags x2.Win (↑(Ev.dlen 1 x2.Data)) x2.Seq x2.Ack)).fst.Ended_c0 (F_r15_Step (T_api_Conn.mk x0.Conn_State x0.Conn_Next_c0 x0.Conn_Next_c1 x0.Conn_Edge_c0 x0.Conn_Edge_c1 x0.Conn_Known_c0 x0.Conn_Known_c1 x0.Conn_Ended_c0 x0.Conn_Ended_c1) x1 (T_r15_Segment.mk x2.Flags x2.Win (↑(Ev.dlen 1 x2.Data)) x2.Seq x2.Ack)).fst.Ended_c1 x0.Ends x0.Help (x1 == 1))) fun v7 => some (T_api_Flow.mk x0.Tuple_Fam x0.Tuple_Proto x0.Tuple_Src_Fam x0.Tuple_Src_Hi x0.Tuple_Src_Lo x0.Tuple_Dst_Fam x0.Tuple_Dst_Hi x0.Tuple_Dst_Lo x0.Tuple_Sport x0.Tuple_Dport (F_r15_Step (T_api_Conn.mk x0.Conn_State x0.Conn_Next_c0 x0.Conn_Next_c1 x0.Conn_Edge_c0 x0.Conn_Edge_c1 x0.Conn_Known_c0 x0.Conn_Known_c1 x0.Conn_Ended_c0 x0.Conn_Ended_c1) x1 (T_r15_Segment.mk x2.Flags x2.Win (↑(Ev.dlen 1 x2.Data)) x2.Seq x2.Ack)).fst.State (F_r15_Step (T_api_Conn.mk x0.Conn_State x0.Conn_Next_c0 x0.Conn_Next_c1 x0.Conn_Edge_c0 x0.Conn_Edge_c1 x0.Conn_Known_c0 x0.Conn_Known_c1 x0.Conn_Ended_c0 x0.Conn_Ended_c1) x1 (T_r15_Segment.mk x2.Flags x2.Win (↑(Ev.dlen 1 x2.Data)) x2.Seq x2.Ack)).fst.Next_c0 (F_r15_Step (T_api_Conn.mk x0.Conn_State x0.Conn_Next_c0 x0.Conn_Next_c1 x0.Conn_Edge_c0 x0.Conn_Edge_c1 x0.Conn_Known_c0 x0.Conn_Known_c1 x0.Conn_Ended_c0 x0.Conn_Ended_c1) x1 (T_r15_Segment.mk x2.Flags x2.Win (↑(Ev.dlen 1 x2.Data)) x2.Seq x2.Ack)).fst.Next_c1 (F_r15_Step (T_api_Conn.mk x0.Conn_State x0.Conn_Next_c0 x0.Conn_Next_c1 x0.Conn_Edge_c0 x0.Conn_Edge_c1 x0.Conn_Known_c0 x0.Conn_Known_c1 x0.Conn_Ended_c0 x0.Conn_Ended_c1) x1 (T_r15_Segment.mk x2.Flags x2.Win (↑(Ev.dlen 1 x2.Data)) x2.Seq x2.Ack)).fst.Edge_c0 (F_r15_Step (T_api_Conn.mk x0.Conn_State x0.Conn_Next_c0 x0.Conn_Next_c1 x0.Conn_Edge_c0 x0.Conn_Edge_c1 x0.Conn_Known_c0 x0.Conn_Known_c1 x0.Conn_Ended_c0 x0.Conn_Ended_c1) x1 (T_r15_Segment.mk x2.Flags x2.Win (↑(Ev.dlen 1 x2.Data)) x2.Seq x2.Ack)).fst.Edge_c1 (F_r15_Step (T_api_Conn.mk x0.Conn_State x0.Conn_Next_c0 x0.Conn_Next_c1 x0.Conn_Edge_c0 x0.Conn_Edge_c1 x0.Conn_Known_c0 x0.Conn_Known_c1 x0.Conn_Ended_c0 x0.Conn_Ended_c1) x1 (T_r15_Segment.mk x2.Flags x2.Win (↑(Ev.dlen 1 x2.Data)) x2.Seq x2.Ack)).fst.Known_c0 (F_r15_Step (T_api_Conn.mk x0.Conn_State x0.Conn_Next_c0 x0.Conn_Next_c1 x0.Conn_Edge_c0 x0.Conn_Edge_c1 x0.Conn_Known_c0 x0.Conn_Known_c1 x0.Conn_Ended_c0 x0.Conn_Ended_c1) x1 (T_r15_Segment.mk x2.Flags x2.Win (↑(Ev.dlen 1 x2.Data)) x2.Seq x2.Ack)).fst.Known_c1 (F_r15_Step (T_api_Conn.mk x0.Conn_State x0.Conn_Next_c0 x0.Conn_Next_c1 x0.Conn_Edge_c0 x0.Conn_Edge_c1 x0.Conn_Known_c0 x0.Conn_Known_c1 x0.Conn_Ended_c0 x0.Conn_Ended_c1) x1 (T_r15_Segment.mk x2.Flags x2.Win (↑(Ev.dlen 1 x2.Data)) x2.Seq x2.Ack)).fst.Ended_c0 (F_r15_Step (T_api_Conn.mk x0.Conn_State x0.Conn_Next_c0 x0.Conn_Next_c1 x0.Conn_Edge_c0 x0.Conn_Edge_c1 x0.Conn_Known_c0 x0.Conn_Known_c1 x0.Conn_Ended_c0 x0.Conn_Ended_c1) x1 (T_r15_Segment.mk x2.Flags x2.Win (↑(Ev.dlen 1 x2.Data)) x2.Seq x2.Ack)).fst.Ended_c1 (IntKind.wrap IntKind.i64 (x3 + v7)) x0.Help (x1 == 1), 0) else bif x0.Tuple_Proto == 17 then bif x0.Both then Ev.bnd (F_r16_life (T_api_Flow.mk x0.Tuple_Fam x0.Tuple_Proto x0.Tuple_Src_Fam x0.Tuple_Src_Hi x0.Tuple_Src_Lo x0.Tuple_Dst_Fam x0.Tuple_Dst_Hi x0.Tuple_Dst_Lo x0.Tuple_Sport x0.Tuple_Dport x0.Conn_State x0.Conn_Next_c0 x0.Conn_Next_c1 x0.Conn_Edge_c0 x0.Conn_Edge_c1 x0.Conn_Known_c0 x0.Conn_Known_c1 x0.Conn_Ended_c0 x0.Conn_Ended_c1 x0.Ends x0.Help true)) fun v8 => some (T_api_Flow.mk x0.Tuple_Fam x0.Tuple_Proto x0.Tuple_Src_Fam x0.Tuple_Src_Hi x0.Tuple_Src_Lo x0.Tuple_Dst_Fam x0.Tuple_Dst_Hi x0.Tuple_Dst_Lo x0.Tuple_Sport x0.Tuple_Dport x0.Conn_State x0.Conn_Next_c0 x0.Conn_Next_c1 x0.Conn_Edge_c0 x0.Conn_Edge_c1 x0.Conn_Known_c0 x0.Conn_Known_c1 x0.Conn_Ended_c0 x0.Conn_Ended_c1 (IntKind.wrap IntKind.i64 (x3 + v8)) x0.Help true, 0) else Ev.bnd (F_r16_life (T_api_Flow.mk x0.Tuple_Fam x0.Tuple_Proto x0.Tuple_Src_Fam x0.Tuple_Src_Hi x0.Tuple_Src_Lo x0.Tuple_Dst_Fam x0.Tuple_Dst_Hi x0.Tuple_Dst_Lo x0.Tuple_Sport x0.Tuple_Dport x0.Conn_State x0.Conn_Next_c0 x0.Conn_Next_c1 x0.Conn_Edge_c0 x0.Conn_Edge_c1 x0.Conn_Known_c0 x0.Conn_Known_c1 x0.Conn_Ended_c0 x0.Conn_Ended_c1 x0.Ends x0.Help (x1 == 1))) fun v9 => some (T_api_Flow.mk x0.Tuple_Fam x0.Tuple_Proto x0.Tuple_Src_Fam x0.Tuple_Src_Hi x0.Tuple_Src_Lo x0.Tuple_Dst_Fam x0.Tuple_Dst_Hi x0.Tuple_Dst_Lo x0.Tuple_Sport x0.Tuple_Dport x0.Conn_State x0.Conn_Next_c0 x0.Conn_Next_c1 x0.Conn_Edge_c0 x0.Conn_Edge_c1 x0.Conn_Known_c0 x0.Conn_Known_c1 x0.Conn_Ended_c0 x0.Conn_Ended_c1 (IntKind.wrap IntKind.i64 (x3 + v9)) x0.Help (x1 == 1), 0) else bif x2.Type_ != v5 then some (T_api_Flow.mk 0 0 0 0 0 0 0 0 0 0 0 0 0 0 0 false false false false 0 0 false, 23) else bif x2.Code != 0 then some (T_api_Flow.mk 0 0 0 0 0 0 0 0 0 0 0 0 0 0 0 false false false false 0 0 false, 23) else bif x0.Both then Ev.bnd (F_r16_life (T_api_Flow.mk x0.Tuple_Fam x0.Tuple_Proto x0.Tuple_Src_Fam x0.Tuple_Src_Hi x0.Tuple_Src_Lo x0.Tuple_Dst_Fam x0.Tuple_Dst_Hi x0.Tuple_Dst_Lo x0.Tuple_Sport x0.Tuple_Dport x0.Conn_State x0.Conn_Next_c0 x0.Conn_Next_c1 x0.Conn_Edge_c0 x0.Conn_Edge_c1 x0.Conn_Known_c0 x0.Conn_Known_c1 x0.Conn_Ended_c0 x0.Conn_Ended_c1 x0.Ends x0.Help true)) fun v10 => some (T_api_Flow.mk x0.Tuple_Fam x0.Tuple_Proto x0.Tuple_Src_Fam x0.Tuple_Src_Hi x0.Tuple_Src_Lo x0.Tuple_Dst_Fam x0.Tuple_Dst_Hi x0.Tuple_Dst_Lo x0.Tuple_Sport x0.Tuple_Dport x0.Conn_State x0.Conn_Next_c0 x0.Conn_Next_c1 x0.Conn_Edge_c0 x0.Conn_Edge_c1 x0.Conn_Known_c0 x0.Conn_Known_c1 x0.Conn_Ended_c0 x0.Conn_Ended_c1 (IntKind.wrap IntKind.i64 (x3 + v10)) x0.Help true, 0) else Ev.bnd (F_r16_life (T_api_Flow.mk x0.Tuple_Fam x0.Tuple_Proto x0.Tuple_Src_Fam x0.Tuple_Src_Hi x0.Tuple_Src_Lo x0.Tuple_Dst_Fam x0.Tuple_Dst_Hi x0.Tuple_Dst_Lo x0.Tuple_Sport x0.Tuple_Dport x0.Conn_State x0.Conn_Next_c0 x0.Conn_Next_c1 x0.Conn_Edge_c0 x0.Conn_Edge_c1 x0.Conn_Known_c0 x0.Conn_Known_c1 x0.Conn_Ended_c0 x0.Conn_Ended_c1 x0.Ends x0.Help (x1 == 1))) fun v11 => some (T_api_Flow.mk x0.Tuple_Fam x0.Tuple_Proto x0.Tuple_Src_Fam x0.Tuple_Src_Hi x0.Tuple_Src_Lo x0.Tuple_Dst_Fam x0.Tuple_Dst_Hi x0.Tuple_Dst_Lo x0.Tuple_Sport x0.Tuple_Dport x0.Conn_State x0.Conn_Next_c0 x0.Conn_Next_c1 x0.Conn_Edge_c0 x0.Conn_Edge_c1 x0.Conn_Known_c0 x0.Conn_Known_c1 x0.Conn_Ended_c0 x0.Conn_Ended_c1 (IntKind.wrap IntKind.i64 (x3 + v11)) x0.Help (x1 == 1), 0) else bif !(x2.Tuple_Fam == x0.Tuple_Fam && (x2.Tuple_Proto == x0.Tuple_Proto && (x2.Tuple_Src_Fam == x0.Tuple_Src_Fam && (x2.Tuple_Src_Hi == x0.Tuple_Src_Hi && (x2.Tuple_Src_Lo == x0.Tuple_Src_Lo && (x2.Tuple_Dst_Fam == x0.Tuple_Dst_Fam && (x2.Tuple_Dst_Hi == x0.Tuple_Dst_Hi && (x2.Tuple_Dst_Lo == x0.Tuple_Dst_Lo && (x2.Tuple_Sport == x0.Tuple_Sport && (x2.Tuple_Dport == x0.Tuple_Dport && true)))))))))) then some (T_api_Flow.mk 0 0 0 0 0 0 0 0 0 0 0 0 0 0 0 false false false false 0 0 false, 23) else bif x0.Tuple_Proto == 6 then bif (F_r15_Step (T_api_Conn.mk x0.Conn_State x0.Conn_Next_c0 x0.Conn_Next_c1 x0.Conn_Edge_c0 x0.Conn_Edge_c1 x0.Conn_Known_c0 x0.Conn_Known_c1 x0.Conn_Ended_c0 x0.Conn_Ended_c1) x1 (T_r15_Segment.mk x2.Flags x2.Win (↑(Ev.dlen 1 x2.Data)) x2.Seq x2.Ack)).snd != 0 then some (T_api_Flow.mk 0 0 0 0 0 0 0 0 0 0 0 0 0 0 0 false false false false 0 0 false, (F_r15_Step (T_api_Conn.mk x0.Conn_State x0.Conn_Next_c0 x0.Conn_Next_c1 x0.Conn_Edge_c0 x0.Conn_Edge_c1 x0.Conn_Known_c0 x0.Conn_Known_c1 x0.Conn_Ended_c0 x0.Conn_Ended_c1) x1 (T_r15_Segment.mk x2.Flags x2.Win (↑(Ev.dlen 1 x2.Data)) x2.Seq x2.Ack)).snd) else bif x0.Both then Ev.bnd (F_r16_life (T_api_Flow.mk x0.Tuple_Fam x0.Tuple_Proto x0.Tuple_Src_Fam x0.Tuple_Src_Hi x0.Tuple_Src_Lo x0.Tuple_Dst_Fam x0.Tuple_Dst_Hi x0.Tuple_Dst_Lo x0.Tuple_Sport x0.Tuple_Dport (F_r15_Step (T_api_Conn.mk x0.Conn_State x0.Conn_Next_c0 x0.Conn_Next_c1 x0.Conn_Edge_c0 x0.Conn_Edge_c1 x0.Conn_Known_c0 x0.Conn_Known_c1 x0.Conn_Ended_c0 x0.Conn_Ended_c1) x1 (T_r15_Segment.mk x2.Flags x2.Win (↑(Ev.dlen 1 x2.Data)) x2.Seq x2.Ack)).fst.State (F_r15_Step (T_api_Conn.mk x0.Conn_State x0.Conn_Next_c0 x0.Conn_Next_c1 x0.Conn_Edge_c0 x0.Conn_Edge_c1 x0.Conn_Known_c0 x0.Conn_Known_c1 x0.Conn_Ended_c0 x0.Conn_Ended_c1) x1 (T_r15_Segment.mk x2.Flags x2.Win (↑(Ev.dlen 1 x2.Data)) x2.Seq x2.Ack)).fst.Next_c0 (F_r15_Step (T_api_Conn.mk x0.Conn_State x0.Conn_Next_c0 x0.Conn_Next_c1 x0.Conn_Edge_c0 x0.Conn_Edge_c1 x0.Conn_Known_c0 x0.Conn_Known_c1 x0.Conn_Ended_c0 x0.Conn_Ended_c1) x1 (T_r15_Segment.mk x2.Flags x2.Win (↑(Ev.dlen 1 x2.Data)) x2.Seq x2.Ack)).fst.Next_c1 (F_r15_Step (T_api_Conn.mk x0.Conn_State x0.Conn_Next_c0 x0.Conn_Next_c1 x0.Conn_Edge_c0 x0.Conn_Edge_c1 x0.Conn_Known_c0 x0.Conn_Known_c1 x0.Conn_Ended_c0 x0.Conn_Ended_c1) x1 (T_r15_Segment.mk x2.Flags x2.Win (↑(Ev.dlen 1 x2.Data)) x2.Seq x2.Ack)).fst.Edge_c0 (F_r15_Step (T_api_Conn.mk x0.Conn_State x0.Conn_Next_c0 x0.Conn_Next_c1 x0.Conn_Edge_c0 x0.Conn_Edge_c1 x0.Conn_Known_c0 x0.Conn_Known_c1 x0.Conn_Ended_c0 x0.Conn_Ended_c1) x1 (T_r15_Segment.mk x2.Flags x2.Win (↑(Ev.dlen 1 x2.Data)) x2.Seq x2.Ack)).fst.Edge_c1 (F_r15_Step (T_api_Conn.mk x0.Conn_State x0.Conn_Next_c0 x0.Conn_Next_c1 x0.Conn_Edge_c0 x0.Conn_Edge_c1 x0.Conn_Known_c0 x0.Conn_Known_c1 x0.Conn_Ended_c0 x0.Conn_Ended_c1) x1 (T_r15_Segment.mk x2.Flags x2.Win (↑(Ev.dlen 1 x2.Data)) x2.Seq x2.Ack)).fst.Known_c0 (F_r15_Step (T_api_Conn.mk x0.Conn_State x0.Conn_Next_c0 x0.Conn_Next_c1 x0.Conn_Edge_c0 x0.Conn_Edge_c1 x0.Conn_Known_c0 x0.Conn_Known_c1 x0.Conn_Ended_c0 x0.Conn_Ended_c1) x1 (T_r15_Segment.mk x2.Flags x2.Win (↑(Ev.dlen 1 x2.Data)) x2.Seq x2.Ack)).fst.Known_c1 (F_r15_Step (T_api_Conn.mk x0.Conn_State x0.Conn_Next_c0 x0.Conn_Next_c1 x0.Conn_Edge_c0 x0.Conn_Edge_c1 x0.Conn_Known_c0 x0.Conn_Known_c1 x0.Conn_Ended_c0 x0.Conn_Ended_c1) x1 (T_r15_Segment.mk x2.Flags x2.Win (↑(Ev.dlen 1 x2.Data)) x2.Seq x2.Ack)).fst.Ended_c0 (F_r15_Step (T_api_Conn.mk x0.Conn_State x0.Conn_Next_c0 x0.Conn_Next_c1 x0.Conn_Edge_c0 x0.Conn_Edge_c1 x0.Conn_Known_c0 x0.Conn_Known_c1 x0.Conn_Ended_c0 x0.Conn_Ended_c1) x1 (T_r15_Segment.mk x2.Flags x2.Win (↑(Ev.dlen 1 x2.Data)) x2.Seq x2.Ack)).fst.Ended_c1 x0.Ends x0.Help true)) fun v12 => some (T_api_Flow.mk x0.Tuple_Fam x0.Tuple_Proto x0.Tuple_Src_Fam x0.Tuple_Src_Hi x0.Tuple_Src_Lo x0.Tuple_Dst_Fam x0.Tuple_Dst_Hi x0.Tuple_Dst_Lo x0.Tuple_Sport x0.Tuple_Dport (F_r15_Step (T_api_Conn.mk x0.Conn_State x0.Conn_Next_c0 x0.Conn_Next_c1 x0.Conn_Edge_c0 x0.Conn_Edge_c1 x0.Conn_Known_c0 x0.Conn_Known_c1 x0.Conn_Ended_c0 x0.Conn_Ended_c1) x1 (T_r15_Segment.mk x2.Flags x2.Win (↑(Ev.dlen 1 x2.Data)) x2.Seq x2.Ack)).fst.State (F_r15_Step (T_api_Conn.mk x0.Conn_State x0.Conn_Next_c0 x0.Conn_Next_c1 x0.Conn_Edge_c0 x0.Conn_Edge_c1 x0.Conn_Known_c0 x0.Conn_Known_c1 x0.Conn_Ended_c0 x0.Conn_Ended_c1) x1 (T_r15_Segment.mk x2.Flags x2.Win (↑(Ev.dlen 1 x2.Data)) x2.Seq x2.Ack)).fst.Next_c0 (F_r15_Step (T_api_Conn.mk x0.Conn_State x0.Conn_Next_c0 x0.Conn_Next_c1 x0.Conn_Edge_c0 x0.Conn_Edge_c1 x0.Conn_Known_c0 x0.Conn_Known_c1 x0.Conn_Ended_c0 x0.Conn_Ended_c1) x1 (T_r15_Segment.mk x2.Flags x2.Win (↑(Ev.dlen 1 x2.Data)) x2.Seq x2.Ack)).fst.Next_c1 (F_r15_Step (T_api_Conn.mk x0.Conn_State x0.Conn_Next_c0 x0.Conn_Next_c1 x0.Conn_Edge_c0 x0.Conn_Edge_c1 x0.Conn_Known_c0 x0.Conn_Known_c1 x0.Conn_Ended_c0 x0.Conn_Ended_c1) x1 (T_r15_Segment.mk x2.Flags x2.Win (↑(Ev.dlen 1 x2.Data)) x2.Seq x2.Ack)).fst.Edge_c0 (F_r15_Step (T_api_Conn.mk x0.Conn_State x0.Conn_Next_c0 x0.Conn_Next_c1 x0.Conn_Edge_c0 x0.Conn_Edge_c1 x0.Conn_Known_c0 x0.Conn_Known_c1 x0.Conn_Ended_c0 x0.Conn_Ended_c1) x1 (T_r15_Segment.mk x2.Flags x2.Win (↑(Ev.dlen 1 x2.Data)) x2.Seq x2.Ack)).fst.Edge_c1 (F_r15_Step (T_api_Conn.mk x0.Conn_State x0.Conn_Next_c0 x0.Conn_Next_c1 x0.Conn_Edge_c0 x0.Conn_Edge_c1 x0.Conn_Known_c0 x0.Conn_Known_c1 x0.Conn_Ended_c0 x0.Conn_Ended_c1) x1 (T_r15_Segment.mk x2.Flags x2.Win (↑(Ev.dlen 1 x2.Data)) x2.Seq x2.Ack)).fst.Known_c0 (F_r15_Step (T_api_Conn.mk x0.Conn_State x0.Conn_Next_c0 x0.Conn_Next_c1 x0.Conn_Edge_c0 x0.Conn_Edge_c1 x0.Conn_Known_c0 x0.Conn_Known_c1 x0.Conn_Ended_c0 x0.Conn_Ended_c1) x1 (T_r15_Segment.mk x2.Flags x2.Win (↑(Ev.dlen 1 x2.Data)) x2.Seq x2.Ack)).fst.Known_c1 (F_r15_Step (T_api_Conn.mk x0.Conn_State x0.Conn_Next_c0 x0.Conn_Next_c1 x0.Conn_Edge_c0 x0.Conn_Edge_c1 x0.Conn_Known_c0 x0.Conn_Known_c1 x0.Conn_Ended_c0 x0.Conn_Ended_c1) x1 (T_r15_Segment.mk x2.Flags x2.Win (↑(Ev.dlen 1 x2.Data)) x2.Seq x2.Ack)).fst.Ended_c0 (F_r15_Step (T_api_Conn.mk x0.Conn_State x0.Conn_Next_c0 x0.Conn_Next_c1 x0.Conn_Edge_c0 x0.Conn_Edge_c1 x0.Conn_Known_c0 x0.Conn_Known_c1 x0.Conn_Ended_c0 x0.Conn_Ended_c1) x1 (T_r15_Segment.mk x2.Flags x2.Win (↑(Ev.dlen 1 x2.Data)) x2.Seq x2.Ack)).fst.Ended_c1 (IntKind.wrap IntKind.i64 (x3 + v12)) x0.Help true, 0) else Ev.bnd (F_r16_life (T_api_Flow.mk x0.Tuple_Fam x0.Tuple_Proto x0.Tuple_Src_Fam x0.Tuple_Src_Hi x0.Tuple_Src_Lo x0.Tuple_Dst_Fam x0.Tuple_Dst_Hi x0.Tuple_Dst_Lo x0.Tuple_Sport x0.Tuple_Dport (F_r15_Step (T_api_Conn.mk x0.Conn_State x0.Conn_Next_c0 x0.Conn_Next_c1 x0.Conn_Edge_c0 x0.Conn_Edge_c1 x0.Conn_Known_c0 x0.Conn_Known_c1 x0.Conn_Ended_c0 x0.Conn_Ended_c1) x1 (T_r15_Segment.mk x2.Flags x2.Win (↑(Ev.dlen 1 x2.Data)) x2.Seq x2.Ack)).fst.State (F_r15_Step (T_api_Conn.mk x0.Conn_State x0.Conn_Next_c0 x0.Conn_Next_c1 x0.Conn_Edge_c0 x0.Conn_Edge_c1 x0.Conn_Known_c0 x0.Conn_Known_c1 x0.Conn_Ended_c0 x0.Conn_Ended_c1) x1 (T_r15_Segment.mk x2.Flags x2.Win (↑(Ev.dlen 1 x2.Data)) x2.Seq x2.Ack)).fst.Next_c0 (F_r15_Step (T_api_Conn.mk x0.Conn_State x0.Conn_Next_c0 x0.Conn_Next_c1 x0.Conn_Edge_c0 x0.Conn_Edge_c1 x0.Conn_Known_c0 x0.Conn_Known_c1 x0.Conn_Ended_c0 x0.Conn_Ended_c1) x1 (T_r15_Segment.mk x2.Flags x2.Win (↑(Ev.dlen 1 x2.Data)) x2.Seq x2.Ack)).fst.Next_c1 (F_r15_Step (T_api_Conn.mk x0.Conn_State x0.Conn_Next_c0 x0.Conn_Next_c1 x0.Conn_Edge_c0 x0.Conn_Edge_c1 x0.Conn_Known_c0 x0.Conn_Known_c1 x0.Conn_Ended_c0 x0.Conn_Ended_c1) x1 (T_r15_Segment.mk x2.Flags x2.Win (↑(Ev.dlen 1 x2.Data)) x2.Seq x2.Ack)).fst.Edge_c0 (F_r15_Step (T_api_Conn.mk x0.Conn_State x0.Conn_Next_c0 x0.Conn_Next_c1 x0.Conn_Edge_c0 x0.Conn_Edge_c1 x0.Conn_Known_c0 x0.Conn_Known_c1 x0.Conn_Ended_c0 x0.Conn_Ended_c1) x1 (T_r15_Segment.mk x2.Flags x2.Win (↑(Ev.dlen 1 x2.Data)) x2.Seq x2.Ack)).fst.Edge_c1 (F_r15_Step (T_api_Conn.mk x0.Conn_State x0.Conn_Next_c0 x0.Conn_Next_c1 x0.Conn_Edge_c0 x0.Conn_Edge_c1 x0.Conn_Known_c0 x0.Conn_Known_c1 x0.Conn_Ended_c0 x0.Conn_Ended_c1) x1 (T_r15_Segment.mk x2.Flags x2.Win (↑(Ev.dlen 1 x2.Data)) x2.Seq x2.Ack)).fst.Known_c0 (F_r15_Step (T_api_Conn.mk x0.Conn_State x0.Conn_Next_c0 x0.Conn_Next_c1 x0.Conn_Edge_c0 x0.Conn_Edge_c1 x0.Conn_Known_c0 x0.Conn_Known_c1 x0.Conn_Ended_c0 x0.Conn_Ended_c1) x1 (T_r15_Segment.mk x2.Flags x2.Win (↑(Ev.dlen 1 x2.Data)) x2.Seq x2.Ack)).fst.Known_c1 (F_r15_Step (T_api_Conn.mk x0.Conn_State x0.Conn_Next_c0 x0.Conn_Next_c1 x0.Conn_Edge_c0 x0.Conn_Edge_c1 x0.Conn_Known_c0 x0.Conn_Known_c1 x0.Conn_Ended_c0 x0.Conn_Ended_c1) x1 (T_r15_Segment.mk x2.Flags x2.Win (↑(Ev.dlen 1 x2.Data)) x2.Seq x2.Ack)).fst.Ended_c0 (F_r15_Step (T_api_Conn.mk x0.Conn_State x0.Conn_Next_c0 x0.Conn_Next_c1 x0.Conn_Edge_c0 x0.Conn_Edge_c1 x0.Conn_Known_c0 x0.Conn_Known_c1 x0.Conn_Ended_c0 x0.Conn_Ended_c1) x1 (T_r15_Segment.mk x2.Flags x2.Win (↑(Ev.dlen 1 x2.Data)) x2.Seq x2.Ack)).fst.Ended_c1 x0.Ends x0.Help (x1 == 1))) fun v13 => some (T_api_Flow.mk x0.Tuple_Fam x0.Tuple_Proto x0.Tuple_Src_Fam x0.Tuple_Src_Hi x0.Tuple_Src_Lo x0.Tuple_Dst_Fam x0.Tuple_Dst_Hi x0.Tuple_Dst_Lo x0.Tuple_Sport x0.Tuple_Dport (F_r15_Step (T_api_Conn.mk x0.Conn_State x0.Conn_Next_c0 x0.Conn_Next_c1 x0.Conn_Edge_c0 x0.Conn_Edge_c1 x0.Conn_Known_c0 x0.Conn_Known_c1 x0.Conn_Ended_c0 x0.Conn_Ended_c1) x1 (T_r15_Segment.mk x2.Flags x2.Win (↑(Ev.dlen 1 x2.Data)) x2.Seq x2.Ack)).fst.State (F_r15_Step (T_api_Conn.mk x0.Conn_State x0.Conn_Next_c0 x0.Conn_Next_c1 x0.Conn_Edge_c0 x0.Conn_Edge_c1 x0.Conn_Known_c0 x0.Conn_Known_c1 x0.Conn_Ended_c0 x0.Conn_Ended_c1) x1 (T_r15_Segment.mk x2.Flags x2.Win (↑(Ev.dlen 1 x2.Data)) x2.Seq x2.Ack)).fst.Next_c0 (F_r15_Step (T_api_Conn.mk x0.Conn_State x0.Conn_Next_c0 x0.Conn_Next_c1 x0.Conn_Edge_c0 x0.Conn_Edge_c1 x0.Conn_Known_c0 x0.Conn_Known_c1 x0.Conn_Ended_c0 x0.Conn_Ended_c1) x1 (T_r15_Segment.mk x2.Flags x2.Win (↑(Ev.dlen 1 x2.Data)) x2.Seq x2.Ack)).fst.Next_c1 (F_r15_Step (T_api_Conn.mk x0.Conn_State x0.Conn_Next_c0 x0.Conn_Next_c1 x0.Conn_Edge_c0 x0.Conn_Edge_c1 x0.Conn_Known_c0 x0.Conn_Known_c1 x0.Conn_Ended_c0 x0.Conn_Ended_c1) x1 (T_r15_Segment.mk x2.Flags x2.Win (↑(Ev.dlen 1 x2.Data)) x2.Seq x2.Ack)).fst.Edge_c0 (F_r15_Step (T_api_Conn.mk x0.Conn_State x0.Conn_Next_c0 x0.Conn_Next_c1 x0.Conn_Edge_c0 x0.Conn_Edge_c1 x0.Conn_Known_c0 x0.Conn_Known_c1 x0.Conn_Ended_c0 x0.Conn_Ended_c1) x1 (T_r15_Segment.mk x2.Flags x2.Win (↑(Ev.dlen 1 x2.Data)) x2.Seq x2.Ack)).fst.Edge_c1 (F_r15_Step (T_api_Conn.mk x0.Conn_State x0.Conn_Next_c0 x0.Conn_Next_c1 x0.Conn_Edge_c0 x0.Conn_Edge_c1 x0.Conn_Known_c0 x0.Conn_Known_c1 x0.Conn_Ended_c0 x0.Conn_Ended_c1) x1 (T_r15_Segment.mk x2.Flags x2.Win (↑(Ev.dlen 1 x2.Data)) x2.Seq x2.Ack)).fst.Known_c0 (F_r15_Step (T_api_Conn.mk x0.Conn_State x0.Conn_Next_c0 x0.Conn_Next_c1 x0.Conn_Edge_c0 x0.Conn_Edge_c1 x0.Conn_Known_c0 x0.Conn_Known_c1 x0.Conn_Ended_c0 x0.Conn_Ended_c1) x1 (T_r15_Segment.mk x2.Flags x2.Win (↑(Ev.dlen 1 x2.Data)) x2.Seq x2.Ack)).fst.Known_c1 (F_r15_Step (T_api_Conn.mk x0.Conn_State x0.Conn_Next_c0 x0.Conn_Next_c1 x0.Conn_Edge_c0 x0.Conn_Edge_c1 x0.Conn_Known_c0 x0.Conn_Known_c1 x0.Conn_Ended_c0 x0.Conn_Ended_c1) x1 (T_r15_Segment.mk x2.Flags x2.Win (↑(Ev.dlen 1 x2.Data)) x2.Seq x2.Ack)).fst.Ended_c0 (F_r15_Step (T_api_Conn.mk x0.Conn_State x0.Conn_Next_c0 x0.Conn_Next_c1 x0.Conn_Edge_c0 x0.Conn_Edge_c1 x0.Conn_Known_c0 x0.Conn_Known_c1 x0.Conn_Ended_c0 x0.Conn_Ended_c1) x1 (T_r15_Segment.mk x2.Flags x2.Win (↑(Ev.dlen 1 x2.Data)) x2.Seq x2.Ack)).fst.Ended_c1 (IntKind.wrap IntKind.i64 (x3 + v13)) x0.Help (x1 == 1), 0) else bif x0.Tuple_Proto == 17 then bif x0.Both then Ev.bnd (F_r16_life (T_api_Flow.mk x0.Tuple_Fam x0.Tuple_Proto x0.Tuple_Src_Fam x0.Tuple_Src_Hi x0.Tuple_Src_Lo x0.Tuple_Dst_Fam x0.Tuple_Dst_Hi x0.Tuple_Dst_Lo x0.Tuple_Sport x0.Tuple_Dport x0.Conn_State x0.Conn_Next_c0 x0.Conn_Next_c1 x0.Conn_Edge_c0 x0.Conn_Edge_c1 x0.Conn_Known_c0 x0.Conn_Known_c1 x0.Conn_Ended_c0 x0.Conn_Ended_c1 x0.Ends x0.Help true)) fun v14 => some (T_api_Flow.mk x0.Tuple_Fam x0.Tuple_Proto x0.Tuple_Src_Fam x0.Tuple_Src_Hi x0.Tuple_Src_Lo x0.Tuple_Dst_Fam x0.Tuple_Dst_Hi x0.Tuple_Dst_Lo x0.Tuple_Sport x0.Tuple_Dport x0.Conn_State x0.Conn_Next_c0 x0.Conn_Next_c1 x0.Conn_Edge_c0 x0.Conn_Edge_c1 x0.Conn_Known_c0 x0.Conn_Known_c1 x0.Conn_Ended_c0 x0.Conn_Ended_c1 (IntKind.wrap IntKind.i64 (x3 + v14)) x0.Help true, 0) else Ev.bnd (F_r16_life (T_api_Flow.mk x0.Tuple_Fam x0.Tuple_Proto x0.Tuple_Src_Fam x0.Tuple_Src_Hi x0.Tuple_Src_Lo x0.Tuple_Dst_Fam x0.Tuple_Dst_Hi x0.Tuple_Dst_Lo x0.Tuple_Sport x0.Tuple_Dport x0.Conn_State x0.Conn_Next_c0 x0.Conn_Next_c1 x0.Conn_Edge_c0 x0.Conn_Edge_c1 x0.Conn_Known_c0 x0.Conn_Known_c1 x0.Conn_Ended_c0 x0.Conn_Ended_c1 x0.Ends x0.Help (x1 == 1))) fun v15 => some (T_api_Flow.mk x0.Tuple_Fam x0.Tuple_Proto x0.Tuple_Src_Fam x0.Tuple_Src_Hi x0.Tuple_Src_Lo x0.Tuple_Dst_Fam x0.Tuple_Dst_Hi x0.Tuple_Dst_Lo x0.Tuple_Sport x0.Tuple_Dport x0.Conn_State x0.Conn_Next_c0 x0.Conn_Next_c1 x0.Conn_Edge_c0 x0.Conn_Edge_c1 x0.Conn_Known_c0 x0.Conn_Known_c1 x0.Conn_Ended_c0 x0.Conn_Ended_c1 (IntKind.wrap IntKind.i64 (x3 + v15)) x0.Help (x1 == 1), 0) else bif x2.Type_ != v3 then some (T_api_Flow.mk 0 0 0 0 0 0 0 0 0 0 0 0 0 0 0 false false false false 0 0 false, 23) else bif x2.Code != 0 then some (T_api_Flow.mk 0 0 0 0 0 0 0 0 0 0 0 0 0 0 0 false false false false 0 0 false, 23) else bif x0.Both then Ev.bnd (F_r16_life (T_api_Flow.mk x0.Tuple_Fam x0.Tuple_Proto x0.Tuple_Src_Fam x0.Tuple_Src_Hi x0.Tuple_Src_Lo x0.Tuple_Dst_Fam x0.Tuple_Dst_Hi x0.Tuple_Dst_Lo x0.Tuple_Sport x0.Tuple_Dport x0.Conn_State x0.Conn_Next_c0 x0.Conn_Next_c1 x0.Conn_Edge_c0 x0.Conn_Edge_c1 x0.Conn_Known_c0 x0.Conn_Known_c1 x0.Conn_Ended_c0 x0.Conn_Ended_c1 x0.Ends x0.Help true)) fun v16 => some (T_api_Flow.mk x0.Tuple_Fam x0.Tuple_Proto x0.Tuple_Src_Fam x0.Tuple_Src_Hi x0.Tuple_Src_Lo x0.Tuple_Dst_Fam x0.Tuple_Dst_Hi x0.Tuple_Dst_Lo x0.Tuple_Sport x0.Tuple_Dport x0.Conn_State x0.Conn_Next_c0 x0.Conn_Next_c1 x0.Conn_Edge_c0 x0.Conn_Edge_c1 x0.Conn_Known_c0 x0.Conn_Known_c1 x0.Conn_Ended_c0 x0.Conn_Ended_c1 (IntKind.wrap IntKind.i64 (x3 + v16)) x0.Help true, 0) else Ev.bnd (F_r16_life (T_api_Flow.mk x0.Tuple_Fam x0.Tuple_Proto x0.Tuple_Src_Fam x0.Tuple_Src_Hi x0.Tuple_Src_Lo x0.Tuple_Dst_Fam x0.Tuple_Dst_Hi x0.Tuple_Dst_Lo x0.Tuple_Sport x0.Tuple_Dport x0.Conn_State x0.Conn_Next_c0 x0.Conn_Next_c1 x0.Conn_Edge_c0 x0.Conn_Edge_c1 x0.Conn_Known_c0 x0.Conn_Known_c1 x0.Conn_Ended_c0 x0.Conn_Ended_c1 x0.Ends x0.Help (x1 == 1))) fun v17 => some (T_api_Flow.mk x0.Tuple_Fam x0.Tuple_Proto x0.Tuple_Src_Fam x0.Tuple_Src_Hi x0.Tuple_Src_Lo x0.Tuple_Dst_Fam x0.Tuple_Dst_Hi x0.Tuple_Dst_Lo x0.Tuple_Sport x0.Tuple_Dport x0.Conn_State x0.Conn_Next_c0 x0.Conn_Next_c1 x0.Conn_Edge_c0 x0.Conn_Edge_c1 x0.Conn_Known_c0 x0.Conn_Known_c1 x0.Conn_Ended_c0 x0.Conn_Ended_c1 (IntKind.wrap IntKind.i64 (x3 + v17)) x0.Help (x1 == 1), 0)
theorem pr_r16_Go (F_r15_Step : T_api_Conn → Int → T_r15_Segment → (T_api_Conn × Int)) (F_r16_Right : T_api_Flow → Option Bool) (F_r16_in : Int → Int → Int → Option Bool) (F_r16_question : Int → Option Int) (F_r14_Reverse : T_api_Tuple → Option T_api_Tuple) (F_r16_answer : Int → Option Int) (F_r16_life : T_api_Flow → Option Int) (m : Nat) (x0 : T_api_Flow) (x1 : Int) (x2 : D_api_Seg) (x3 : Int) : Ev.evBodyD (Es_r16_Go F_r15_Step F_r16_Right F_r16_in F_r16_question F_r14_Reverse F_r16_answer F_r16_life) MtFr (O_r16_Go F_r15_Step F_r16_Right F_r16_in F_r16_question F_r14_Reverse F_r16_answer F_r16_life) m 45 [v_api_Flow x0, .int .i64 x1, v_api_Seg x2, .int .i64 x3] = Ev.oE E_r16_Go (N_r16_Go F_r15_Step F_r16_Right F_r16_in F_r16_question F_r14_Reverse F_r16_answer F_r16_life m x0 x1 x2 x3) := by
  simp only [N_r16_Go, Ev.oE_some, Ev.oE_none, Ev.oE_cond, Ev.oE_bnd]
  kernel_rfl
noncomputable def F_r16_Go : T_api_Flow → Int → D_api_Seg → Int → Option (T_api_Flow × Int) := fun x0 x1 x2 x3 => N_r16_Go F_r15_Step F_r16_Right F_r16_in F_r16_question F_r14_Reverse F_r16_answer F_r16_life 0 x0 x1 x2 x3
theorem ok_r16_Go : Ev.EnvOk (Ew_r16_Go F_r15_Step F_r16_Right F_r16_in F_r16_question F_r14_Reverse F_r16_answer F_r16_life) := Ev.envOk_with envOkd (Ev.SpsOk.add (b := false) g_r16_Right (by kernel_rfl) (Ev.SpsOk.add (b := false) g_r16_in (by kernel_rfl) (Ev.SpsOk.add (b := false) g_r16_question (by kernel_rfl) (Ev.SpsOk.add (b := false) g_r14_Reverse (by kernel_rfl) (Ev.SpsOk.add (b := false) g_r16_answer (by kernel_rfl) (Ev.SpsOk.add (b := false) g_r16_life (by kernel_rfl) Ev.SpsOk.nil))))))
theorem ro_r16_Go (F_r15_Step : T_api_Conn → Int → T_r15_Segment → (T_api_Conn × Int)) (F_r16_Right : T_api_Flow → Option Bool) (F_r16_in : Int → Int → Int → Option Bool) (F_r16_question : Int → Option Int) (F_r14_Reverse : T_api_Tuple → Option T_api_Tuple) (F_r16_answer : Int → Option Int) (F_r16_life : T_api_Flow → Option Int) : Ev.SpecRl (Ew_r16_Go F_r15_Step F_r16_Right F_r16_in F_r16_question F_r14_Reverse F_r16_answer F_r16_life) := Ev.specRl_with rfl (Ev.SpsRl.cons (rs_r16_Right _) (Ev.SpsRl.cons (rs_r16_in _) (Ev.SpsRl.cons (rs_r16_question _) (Ev.SpsRl.cons (rs_r14_Reverse _) (Ev.SpsRl.cons (rs_r16_answer _) (Ev.SpsRl.cons (rs_r16_life _) Ev.SpsRl.nil))))))
theorem g_r16_Go : Ev.SpOk Try.prog false 45 (s_r16_Go F_r16_Go) := by
  refine Ev.SpOk.mkF fun vs k r g0 => ?_
  unfold s_r16_Go at g0
  obtain ⟨a0, r0, rfl, g1⟩ := Ev.kU_ok g0
  obtain ⟨a1, r1, rfl, g2⟩ := Ev.kU_ok g1
  obtain ⟨a2, r2, rfl, g3⟩ := Ev.kU_ok g2
  obtain ⟨a3, r3, rfl, g4⟩ := Ev.kU_ok g3
  obtain ⟨rfl, g5⟩ := Ev.kE_ok g4
  obtain ⟨x0, rfl, g6⟩ := d_api_Flow_ok g5
  obtain ⟨x1, rfl, g7⟩ := Ev.gI_ok g6
  obtain ⟨x2, rfl, g8⟩ := d_api_Seg_ok g7
  obtain ⟨x3, rfl, g9⟩ := Ev.gI_ok g8
  obtain ⟨x, hx, h⟩ := Ev.bnd_get g9
  have h1 := pr_r16_Go F_r15_Step F_r16_Right F_r16_in F_r16_question F_r14_Reverse F_r16_answer F_r16_life 0 x0 x1 x2 x3
  rw [show N_r16_Go F_r15_Step F_r16_Right F_r16_in F_r16_question F_r14_Reverse F_r16_answer F_r16_life 0 x0 x1 x2 x3 = some x from hx] at h1
  exact ⟨_, h, Ev.good_of_inl ok_r16_Go (ro_r16_Go F_r15_Step F_r16_Right F_r16_in F_r16_question F_r14_Reverse F_r16_answer F_r16_life) rfl rfl (Ev.TabOk.cons g_r15_Step Ev.TabOk.nil) 40 12 _ h1⟩
end Go.Proofs.Yteljeekapcenlaa
