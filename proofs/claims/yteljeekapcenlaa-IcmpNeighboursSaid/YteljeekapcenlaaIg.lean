/-
  Functions of the seat's program, printed by a program of ours: what each comes to, and that it is so. No conditions.
-/
import Derived.Test.YteljeekapcenlaaIc
namespace Go.Proofs.Yteljeekapcenlaa
open Go
set_option linter.unusedVariables false
set_option linter.unusedSimpArgs false
noncomputable def MtIg : Ev.Mats := { slots := fun f i => [], cells := fun f i => [], own := fun f => Nat.beq f 175 }
-- stockaderef21.Near
-- DEEP r21_Near 84 - T_api_Addr → Option Bool
noncomputable def e_r21_Near (x : Bool) : Value := .bool x
noncomputable def E_r21_Near (x : Bool) : Value × Ev.AH := (e_r21_Near x, ⟨[], 0, []⟩)
noncomputable def s_r21_Near (F : T_api_Addr → Option Bool) : Ev.Sp := fun vs k => Ev.kU vs fun a0 r0 => Ev.kE r0 <| d_api_Addr a0 fun x0 => Ev.bnd (F x0) fun x => k (e_r21_Near x)
theorem rs_r21_Near (F : T_api_Addr → Option Bool) : Ev.SpRl (s_r21_Near F) := by
  intro S vs k k2 hk
  unfold s_r21_Near
  refine Ev.rl_kU fun _ _ => ?_
  refine Ev.rl_kE ?_
  refine rl_d_api_Addr fun _ => ?_
  exact Ev.Rl.bnd fun x => hk _
noncomputable def Ew_r21_Near (F_r02_ParsePrefix : ByteArray → Option (T_api_Prefix × Int)) (F_r02_Has : T_api_Prefix → T_api_Addr → Option Bool) : Ev.Env := Ev.Env.with Ed [(161, s_r02_ParsePrefix F_r02_ParsePrefix), (162, s_r02_Has F_r02_Has)]
noncomputable def Es_r21_Near (F_r02_ParsePrefix : ByteArray → Option (T_api_Prefix × Int)) (F_r02_Has : T_api_Prefix → T_api_Addr → Option Bool) : Ev.Env := Ev.Env.inl (Ew_r21_Near F_r02_ParsePrefix F_r02_Has) MtIg [] 40 12
noncomputable def O_r21_Near (F_r02_ParsePrefix : ByteArray → Option (T_api_Prefix × Int)) (F_r02_Has : T_api_Prefix → T_api_Addr → Option Bool) : Ev.Orc := fun _ _ _ => none
noncomputable def N_r21_Near (F_r02_ParsePrefix : ByteArray → Option (T_api_Prefix × Int)) (F_r02_Has : T_api_Prefix → T_api_Addr → Option Bool) (m : Nat) (x0 : T_api_Addr) : Option Bool := Ev.bnd (F_r02_ParsePrefix (ByteArray.mk (Array.mk [UInt8.ofBitVec (BitVec.ofFin (Fin.mk 102 (Nat.mod_lt 102 (BitVec.ofNat._proof_1 8)))), UInt8.ofBitVec (BitVec.ofFin (Fin.mk 101 (Nat.mod_lt 101 (BitVec.ofNat._proof_1 8)))), UInt8.ofBitVec (BitVec.ofFin (Fin.mk 56 (Nat.mod_lt 56 (BitVec.ofNat._proof_1 8)))), UInt8.ofBitVec (BitVec.ofFin (Fin.mk 48 (Nat.mod_lt 48 (BitVec.ofNat._proof_1 8)))), UInt8.ofBitVec (BitVec.ofFin (Fin.mk 58 (Nat.mod_lt 58 (BitVec.ofNat._proof_1 8)))), UInt8.ofBitVec (BitVec.ofFin (Fin.mk 58 (Nat.mod_lt 58 (BitVec.ofNat._proof_1 8)))), UInt8.ofBitVec (BitVec.ofFin (Fin.mk 47 (Nat.mod_lt 47 (BitVec.ofNat._proof_1 8)))), UInt8.ofBitVec (BitVec.ofFin (Fin.mk 49 (Nat.mod_lt 49 (BitVec.ofNat._proof_1 8)))), UInt8.ofBitVec (BitVec.ofFin (Fin.mk 48 (Nat.mod_lt 48 (BitVec.ofNat._proof_1 8))))]))) fun v0 => Ev.bnd (F_r02_Has v0.fst x0) fun v1 => bif v1 then some true else Ev.bnd (F_r02_ParsePrefix (ByteArray.mk (Array.mk [UInt8.ofBitVec (BitVec.ofFin (Fin.mk 49 (Nat.mod_lt 49 (BitVec.ofNat._proof_1 8)))), UInt8.ofBitVec (BitVec.ofFin (Fin.mk 54 (Nat.mod_lt 54 (BitVec.ofNat._proof_1 8)))), UInt8.ofBitVec (BitVec.ofFin (Fin.mk 57 (Nat.mod_lt 57 (BitVec.ofNat._proof_1 8)))), UInt8.ofBitVec (BitVec.ofFin (Fin.mk 46 (Nat.mod_lt 46 (BitVec.ofNat._proof_1 8)))), UInt8.ofBitVec (BitVec.ofFin (Fin.mk 50 (Nat.mod_lt 50 (BitVec.ofNat._proof_1 8)))), UInt8.ofBitVec (BitVec.ofFin (Fin.mk 53 (Nat.mod_lt 53 (BitVec.ofNat._proof_1 8)))), UInt8.ofBitVec (BitVec.ofFin (Fin.mk 52 (Nat.mod_lt 52 (BitVec.ofNat._proof_1 8)))), UInt8.ofBitVec (BitVec.ofFin (Fin.mk 46 (Nat.mod_lt 46 (BitVec.ofNat._proof_1 8)))), UInt8.ofBitVec (BitVec.ofFin (Fin.mk 48 (Nat.mod_lt 48 (BitVec.ofNat._proof_1 8)))), UInt8.ofBitVec (BitVec.ofFin (Fin.mk 46 (Nat.mod_lt 46 (BitVec.ofNat._proof_1 8)))), UInt8.ofBitVec (BitVec.ofFin (Fin.mk 48 (Nat.mod_lt 48 (BitVec.ofNat._proof_1 8)))), UInt8.ofBitVec (BitVec.ofFin (Fin.mk 47 (Nat.mod_lt 47 (BitVec.ofNat._proof_1 8)))), UInt8.ofBitVec (BitVec.ofFin (Fin.mk 49 (Nat.mod_lt 49 (BitVec.ofNat._proof_1 8)))), UInt8.ofBitVec (BitVec.ofFin (Fin.mk 54 (Nat.mod_lt 54 (BitVec.ofNat._proof_1 8))))]))) fun v2 => Ev.bnd (F_r02_Has v2.fst x0) fun v3 => some v3
theorem pr_r21_Near (F_r02_ParsePrefix : ByteArray → Option (T_api_Prefix × Int)) (F_r02_Has : T_api_Prefix → T_api_Addr → Option Bool) (m : Nat) (x0 : T_api_Addr) : Ev.evBodyD (Es_r21_Near F_r02_ParsePrefix F_r02_Has) MtIg (O_r21_Near F_r02_ParsePrefix F_r02_Has) m 84 [v_api_Addr x0] = Ev.oE E_r21_Near (N_r21_Near F_r02_ParsePrefix F_r02_Has m x0) := by
  simp only [N_r21_Near, Ev.oE_some, Ev.oE_none, Ev.oE_cond, Ev.oE_bnd]
  kernel_rfl
noncomputable def F_r21_Near : T_api_Addr → Option Bool := fun x0 => N_r21_Near F_r02_ParsePrefix F_r02_Has 0 x0
theorem ok_r21_Near : Ev.EnvOk (Ew_r21_Near F_r02_ParsePrefix F_r02_Has) := Ev.envOk_with envOkd (Ev.SpsOk.add (b := false) g_r02_ParsePrefix (by kernel_rfl) (Ev.SpsOk.add (b := false) g_r02_Has (by kernel_rfl) Ev.SpsOk.nil))
theorem ro_r21_Near (F_r02_ParsePrefix : ByteArray → Option (T_api_Prefix × Int)) (F_r02_Has : T_api_Prefix → T_api_Addr → Option Bool) : Ev.SpecRl (Ew_r21_Near F_r02_ParsePrefix F_r02_Has) := Ev.specRl_with rfl (Ev.SpsRl.cons (rs_r02_ParsePrefix _) (Ev.SpsRl.cons (rs_r02_Has _) Ev.SpsRl.nil))
theorem g_r21_Near : Ev.SpOk Try.prog false 84 (s_r21_Near F_r21_Near) := by
  refine Ev.SpOk.mkF fun vs k r g0 => ?_
  unfold s_r21_Near at g0
  obtain ⟨a0, r0, rfl, g1⟩ := Ev.kU_ok g0
  obtain ⟨rfl, g2⟩ := Ev.kE_ok g1
  obtain ⟨x0, rfl, g3⟩ := d_api_Addr_ok g2
  obtain ⟨x, hx, h⟩ := Ev.bnd_get g3
  have h1 := pr_r21_Near F_r02_ParsePrefix F_r02_Has 0 x0
  rw [show N_r21_Near F_r02_ParsePrefix F_r02_Has 0 x0 = some x from hx] at h1
  exact ⟨_, h, Ev.good_of_inl ok_r21_Near (ro_r21_Near F_r02_ParsePrefix F_r02_Has) rfl rfl Ev.TabOk.nil 40 12 _ h1⟩
-- stockaderef21.Group
-- DEEP r21_Group 86 - T_api_Addr → Option Bool
noncomputable def e_r21_Group (x : Bool) : Value := .bool x
noncomputable def E_r21_Group (x : Bool) : Value × Ev.AH := (e_r21_Group x, ⟨[], 0, []⟩)
noncomputable def s_r21_Group (F : T_api_Addr → Option Bool) : Ev.Sp := fun vs k => Ev.kU vs fun a0 r0 => Ev.kE r0 <| d_api_Addr a0 fun x0 => Ev.bnd (F x0) fun x => k (e_r21_Group x)
theorem rs_r21_Group (F : T_api_Addr → Option Bool) : Ev.SpRl (s_r21_Group F) := by
  intro S vs k k2 hk
  unfold s_r21_Group
  refine Ev.rl_kU fun _ _ => ?_
  refine Ev.rl_kE ?_
  refine rl_d_api_Addr fun _ => ?_
  exact Ev.Rl.bnd fun x => hk _
noncomputable def Ew_r21_Group (F_r02_ParsePrefix : ByteArray → Option (T_api_Prefix × Int)) (F_r02_Has : T_api_Prefix → T_api_Addr → Option Bool) : Ev.Env := Ev.Env.with Ed [(161, s_r02_ParsePrefix F_r02_ParsePrefix), (162, s_r02_Has F_r02_Has)]
noncomputable def Es_r21_Group (F_r02_ParsePrefix : ByteArray → Option (T_api_Prefix × Int)) (F_r02_Has : T_api_Prefix → T_api_Addr → Option Bool) : Ev.Env := Ev.Env.inl (Ew_r21_Group F_r02_ParsePrefix F_r02_Has) MtIg [] 40 12
noncomputable def O_r21_Group (F_r02_ParsePrefix : ByteArray → Option (T_api_Prefix × Int)) (F_r02_Has : T_api_Prefix → T_api_Addr → Option Bool) : Ev.Orc := fun _ _ _ => none
noncomputable def N_r21_Group (F_r02_ParsePrefix : ByteArray → Option (T_api_Prefix × Int)) (F_r02_Has : T_api_Prefix → T_api_Addr → Option Bool) (m : Nat) (x0 : T_api_Addr) : Option Bool := Ev.bnd (F_r02_ParsePrefix (ByteArray.mk (Array.mk [UInt8.ofBitVec (BitVec.ofFin (Fin.mk 102 (Nat.mod_lt 102 (BitVec.ofNat._proof_1 8)))), UInt8.ofBitVec (BitVec.ofFin (Fin.mk 102 (Nat.mod_lt 102 (BitVec.ofNat._proof_1 8)))), UInt8.ofBitVec (BitVec.ofFin (Fin.mk 48 (Nat.mod_lt 48 (BitVec.ofNat._proof_1 8)))), UInt8.ofBitVec (BitVec.ofFin (Fin.mk 50 (Nat.mod_lt 50 (BitVec.ofNat._proof_1 8)))), UInt8.ofBitVec (BitVec.ofFin (Fin.mk 58 (Nat.mod_lt 58 (BitVec.ofNat._proof_1 8)))), UInt8.ofBitVec (BitVec.ofFin (Fin.mk 58 (Nat.mod_lt 58 (BitVec.ofNat._proof_1 8)))), UInt8.ofBitVec (BitVec.ofFin (Fin.mk 47 (Nat.mod_lt 47 (BitVec.ofNat._proof_1 8)))), UInt8.ofBitVec (BitVec.ofFin (Fin.mk 49 (Nat.mod_lt 49 (BitVec.ofNat._proof_1 8)))), UInt8.ofBitVec (BitVec.ofFin (Fin.mk 54 (Nat.mod_lt 54 (BitVec.ofNat._proof_1 8))))]))) fun v0 => Ev.bnd (F_r02_Has v0.fst x0) fun v1 => bif v1 then some true else Ev.bnd (F_r02_ParsePrefix (ByteArray.mk (Array.mk [UInt8.ofBitVec (BitVec.ofFin (Fin.mk 102 (Nat.mod_lt 102 (BitVec.ofNat._proof_1 8)))), UInt8.ofBitVec (BitVec.ofFin (Fin.mk 102 (Nat.mod_lt 102 (BitVec.ofNat._proof_1 8)))), UInt8.ofBitVec (BitVec.ofFin (Fin.mk 48 (Nat.mod_lt 48 (BitVec.ofNat._proof_1 8)))), UInt8.ofBitVec (BitVec.ofFin (Fin.mk 49 (Nat.mod_lt 49 (BitVec.ofNat._proof_1 8)))), UInt8.ofBitVec (BitVec.ofFin (Fin.mk 58 (Nat.mod_lt 58 (BitVec.ofNat._proof_1 8)))), UInt8.ofBitVec (BitVec.ofFin (Fin.mk 58 (Nat.mod_lt 58 (BitVec.ofNat._proof_1 8)))), UInt8.ofBitVec (BitVec.ofFin (Fin.mk 47 (Nat.mod_lt 47 (BitVec.ofNat._proof_1 8)))), UInt8.ofBitVec (BitVec.ofFin (Fin.mk 49 (Nat.mod_lt 49 (BitVec.ofNat._proof_1 8)))), UInt8.ofBitVec (BitVec.ofFin (Fin.mk 54 (Nat.mod_lt 54 (BitVec.ofNat._proof_1 8))))]))) fun v2 => Ev.bnd (F_r02_Has v2.fst x0) fun v3 => bif v3 then some true else Ev.bnd (F_r02_ParsePrefix (ByteArray.mk (Array.mk [UInt8.ofBitVec (BitVec.ofFin (Fin.mk 50 (Nat.mod_lt 50 (BitVec.ofNat._proof_1 8)))), UInt8.ofBitVec (BitVec.ofFin (Fin.mk 50 (Nat.mod_lt 50 (BitVec.ofNat._proof_1 8)))), UInt8.ofBitVec (BitVec.ofFin (Fin.mk 52 (Nat.mod_lt 52 (BitVec.ofNat._proof_1 8)))), UInt8.ofBitVec (BitVec.ofFin (Fin.mk 46 (Nat.mod_lt 46 (BitVec.ofNat._proof_1 8)))), UInt8.ofBitVec (BitVec.ofFin (Fin.mk 48 (Nat.mod_lt 48 (BitVec.ofNat._proof_1 8)))), UInt8.ofBitVec (BitVec.ofFin (Fin.mk 46 (Nat.mod_lt 46 (BitVec.ofNat._proof_1 8)))), UInt8.ofBitVec (BitVec.ofFin (Fin.mk 48 (Nat.mod_lt 48 (BitVec.ofNat._proof_1 8)))), UInt8.ofBitVec (BitVec.ofFin (Fin.mk 46 (Nat.mod_lt 46 (BitVec.ofNat._proof_1 8)))), UInt8.ofBitVec (BitVec.ofFin (Fin.mk 48 (Nat.mod_lt 48 (BitVec.ofNat._proof_1 8)))), UInt8.ofBitVec (BitVec.ofFin (Fin.mk 47 (Nat.mod_lt 47 (BitVec.ofNat._proof_1 8)))), UInt8.ofBitVec (BitVec.ofFin (Fin.mk 50 (Nat.mod_lt 50 (BitVec.ofNat._proof_1 8)))), UInt8.ofBitVec (BitVec.ofFin (Fin.mk 52 (Nat.mod_lt 52 (BitVec.ofNat._proof_1 8))))]))) fun v4 => Ev.bnd (F_r02_Has v4.fst x0) fun v5 => some v5
theorem pr_r21_Group (F_r02_ParsePrefix : ByteArray → Option (T_api_Prefix × Int)) (F_r02_Has : T_api_Prefix → T_api_Addr → Option Bool) (m : Nat) (x0 : T_api_Addr) : Ev.evBodyD (Es_r21_Group F_r02_ParsePrefix F_r02_Has) MtIg (O_r21_Group F_r02_ParsePrefix F_r02_Has) m 86 [v_api_Addr x0] = Ev.oE E_r21_Group (N_r21_Group F_r02_ParsePrefix F_r02_Has m x0) := by
  simp only [N_r21_Group, Ev.oE_some, Ev.oE_none, Ev.oE_cond, Ev.oE_bnd]
  kernel_rfl
noncomputable def F_r21_Group : T_api_Addr → Option Bool := fun x0 => N_r21_Group F_r02_ParsePrefix F_r02_Has 0 x0
theorem ok_r21_Group : Ev.EnvOk (Ew_r21_Group F_r02_ParsePrefix F_r02_Has) := Ev.envOk_with envOkd (Ev.SpsOk.add (b := false) g_r02_ParsePrefix (by kernel_rfl) (Ev.SpsOk.add (b := false) g_r02_Has (by kernel_rfl) Ev.SpsOk.nil))
theorem ro_r21_Group (F_r02_ParsePrefix : ByteArray → Option (T_api_Prefix × Int)) (F_r02_Has : T_api_Prefix → T_api_Addr → Option Bool) : Ev.SpecRl (Ew_r21_Group F_r02_ParsePrefix F_r02_Has) := Ev.specRl_with rfl (Ev.SpsRl.cons (rs_r02_ParsePrefix _) (Ev.SpsRl.cons (rs_r02_Has _) Ev.SpsRl.nil))
theorem g_r21_Group : Ev.SpOk Try.prog false 86 (s_r21_Group F_r21_Group) := by
  refine Ev.SpOk.mkF fun vs k r g0 => ?_
  unfold s_r21_Group at g0
  obtain ⟨a0, r0, rfl, g1⟩ := Ev.kU_ok g0
  obtain ⟨rfl, g2⟩ := Ev.kE_ok g1
  obtain ⟨x0, rfl, g3⟩ := d_api_Addr_ok g2
  obtain ⟨x, hx, h⟩ := Ev.bnd_get g3
  have h1 := pr_r21_Group F_r02_ParsePrefix F_r02_Has 0 x0
  rw [show N_r21_Group F_r02_ParsePrefix F_r02_Has 0 x0 = some x from hx] at h1
  exact ⟨_, h, Ev.good_of_inl ok_r21_Group (ro_r21_Group F_r02_ParsePrefix F_r02_Has) rfl rfl Ev.TabOk.nil 40 12 _ h1⟩
-- icmp.Group
-- DEEP icmp_Group 85 - T_api_Addr → Option Bool
noncomputable def e_icmp_Group (x : Bool) : Value := .bool x
noncomputable def E_icmp_Group (x : Bool) : Value × Ev.AH := (e_icmp_Group x, ⟨[], 0, []⟩)
noncomputable def s_icmp_Group (F : T_api_Addr → Option Bool) : Ev.Sp := fun vs k => Ev.kU vs fun a0 r0 => Ev.kE r0 <| d_api_Addr a0 fun x0 => Ev.bnd (F x0) fun x => k (e_icmp_Group x)
theorem rs_icmp_Group (F : T_api_Addr → Option Bool) : Ev.SpRl (s_icmp_Group F) := by
  intro S vs k k2 hk
  unfold s_icmp_Group
  refine Ev.rl_kU fun _ _ => ?_
  refine Ev.rl_kE ?_
  refine rl_d_api_Addr fun _ => ?_
  exact Ev.Rl.bnd fun x => hk _
noncomputable def Ew_icmp_Group (F_addr_Right : T_api_Addr → Option Bool) : Ev.Env := Ev.Env.with Ed [(140, s_addr_Right F_addr_Right)]
noncomputable def Es_icmp_Group (F_addr_Right : T_api_Addr → Option Bool) : Ev.Env := Ev.Env.inl (Ew_icmp_Group F_addr_Right) MtIg [] 40 12
noncomputable def O_icmp_Group (F_addr_Right : T_api_Addr → Option Bool) : Ev.Orc := fun _ _ _ => none
noncomputable def N_icmp_Group (F_addr_Right : T_api_Addr → Option Bool) (m : Nat) (x0 : T_api_Addr) : Option Bool := Ev.bnd (F_addr_Right x0) fun v0 => bif !v0 then some false else bif x0.Fam == 4 then some (Int.fdiv x0.Lo 256 == 14680064) else bif Int.fdiv x0.Hi 281474976710656 == 65281 then some true else some (Int.fdiv x0.Hi 281474976710656 == 65282)
theorem pr_icmp_Group (F_addr_Right : T_api_Addr → Option Bool) (m : Nat) (x0 : T_api_Addr) : Ev.evBodyD (Es_icmp_Group F_addr_Right) MtIg (O_icmp_Group F_addr_Right) m 85 [v_api_Addr x0] = Ev.oE E_icmp_Group (N_icmp_Group F_addr_Right m x0) := by
  simp only [N_icmp_Group, Ev.oE_some, Ev.oE_none, Ev.oE_cond, Ev.oE_bnd]
  kernel_rfl
noncomputable def F_icmp_Group : T_api_Addr → Option Bool := fun x0 => N_icmp_Group F_addr_Right 0 x0
theorem ok_icmp_Group : Ev.EnvOk (Ew_icmp_Group F_addr_Right) := Ev.envOk_with envOkd (Ev.SpsOk.add (b := false) g_addr_Right (by kernel_rfl) Ev.SpsOk.nil)
theorem ro_icmp_Group (F_addr_Right : T_api_Addr → Option Bool) : Ev.SpecRl (Ew_icmp_Group F_addr_Right) := Ev.specRl_with rfl (Ev.SpsRl.cons (rs_addr_Right _) Ev.SpsRl.nil)
theorem g_icmp_Group : Ev.SpOk Try.prog false 85 (s_icmp_Group F_icmp_Group) := by
  refine Ev.SpOk.mkF fun vs k r g0 => ?_
  unfold s_icmp_Group at g0
  obtain ⟨a0, r0, rfl, g1⟩ := Ev.kU_ok g0
  obtain ⟨rfl, g2⟩ := Ev.kE_ok g1
  obtain ⟨x0, rfl, g3⟩ := d_api_Addr_ok g2
  obtain ⟨x, hx, h⟩ := Ev.bnd_get g3
  have h1 := pr_icmp_Group F_addr_Right 0 x0
  rw [show N_icmp_Group F_addr_Right 0 x0 = some x from hx] at h1
  exact ⟨_, h, Ev.good_of_inl ok_icmp_Group (ro_icmp_Group F_addr_Right) rfl rfl Ev.TabOk.nil 40 12 _ h1⟩
-- stockadelaw21.IcmpNears
-- DEEP law21_IcmpNears 25 - T_api_Addr → Option Bool
noncomputable def e_law21_IcmpNears (x : Bool) : Value := .bool x
noncomputable def E_law21_IcmpNears (x : Bool) : Value × Ev.AH := (e_law21_IcmpNears x, ⟨[], 0, []⟩)
noncomputable def s_law21_IcmpNears (F : T_api_Addr → Option Bool) : Ev.Sp := fun vs k => Ev.kU vs fun a0 r0 => Ev.kE r0 <| d_api_Addr a0 fun x0 => Ev.bnd (F x0) fun x => k (e_law21_IcmpNears x)
theorem rs_law21_IcmpNears (F : T_api_Addr → Option Bool) : Ev.SpRl (s_law21_IcmpNears F) := by
  intro S vs k k2 hk
  unfold s_law21_IcmpNears
  refine Ev.rl_kU fun _ _ => ?_
  refine Ev.rl_kE ?_
  refine rl_d_api_Addr fun _ => ?_
  exact Ev.Rl.bnd fun x => hk _
noncomputable def Ew_law21_IcmpNears (F_icmp_Near : T_api_Addr → Option Bool) (F_r21_Near : T_api_Addr → Option Bool) (F_icmp_Group : T_api_Addr → Option Bool) (F_r21_Group : T_api_Addr → Option Bool) (F_law21_alive : Option Bool) : Ev.Env := Ev.Env.with Ed [(83, s_icmp_Near F_icmp_Near), (84, s_r21_Near F_r21_Near), (85, s_icmp_Group F_icmp_Group), (86, s_r21_Group F_r21_Group), (79, s_law21_alive F_law21_alive)]
noncomputable def Es_law21_IcmpNears (F_icmp_Near : T_api_Addr → Option Bool) (F_r21_Near : T_api_Addr → Option Bool) (F_icmp_Group : T_api_Addr → Option Bool) (F_r21_Group : T_api_Addr → Option Bool) (F_law21_alive : Option Bool) : Ev.Env := Ev.Env.inl (Ew_law21_IcmpNears F_icmp_Near F_r21_Near F_icmp_Group F_r21_Group F_law21_alive) MtIg [] 40 12
noncomputable def O_law21_IcmpNears (F_icmp_Near : T_api_Addr → Option Bool) (F_r21_Near : T_api_Addr → Option Bool) (F_icmp_Group : T_api_Addr → Option Bool) (F_r21_Group : T_api_Addr → Option Bool) (F_law21_alive : Option Bool) : Ev.Orc := fun _ _ _ => none
noncomputable def N_law21_IcmpNears (F_icmp_Near : T_api_Addr → Option Bool) (F_r21_Near : T_api_Addr → Option Bool) (F_icmp_Group : T_api_Addr → Option Bool) (F_r21_Group : T_api_Addr → Option Bool) (F_law21_alive : Option Bool) (m : Nat) (x0 : T_api_Addr) : Option Bool := Ev.bnd (F_icmp_Near x0) fun v0 => Ev.bnd (F_r21_Near x0) fun v1 => bif v0 == v1 then Ev.bnd (F_icmp_Group x0) fun v2 => Ev.bnd (F_r21_Group x0) fun v3 => bif v2 == v3 then Ev.bnd (F_icmp_Near x0) fun v4 => bif v4 then Ev.bnd (F_icmp_Group x0) fun v5 => bif !v5 then Ev.bnd F_law21_alive fun v6 => some v6 else some false else Ev.bnd F_law21_alive fun v7 => some v7 else some false else some false
theorem pr_law21_IcmpNears (F_icmp_Near : T_api_Addr → Option Bool) (F_r21_Near : T_api_Addr → Option Bool) (F_icmp_Group : T_api_Addr → Option Bool) (F_r21_Group : T_api_Addr → Option Bool) (F_law21_alive : Option Bool) (m : Nat) (x0 : T_api_Addr) : Ev.evBodyD (Es_law21_IcmpNears F_icmp_Near F_r21_Near F_icmp_Group F_r21_Group F_law21_alive) MtIg (O_law21_IcmpNears F_icmp_Near F_r21_Near F_icmp_Group F_r21_Group F_law21_alive) m 25 [v_api_Addr x0] = Ev.oE E_law21_IcmpNears (N_law21_IcmpNears F_icmp_Near F_r21_Near F_icmp_Group F_r21_Group F_law21_alive m x0) := by
  simp only [N_law21_IcmpNears, Ev.oE_some, Ev.oE_none, Ev.oE_cond, Ev.oE_bnd]
  kernel_rfl
noncomputable def F_law21_IcmpNears : T_api_Addr → Option Bool := fun x0 => N_law21_IcmpNears F_icmp_Near F_r21_Near F_icmp_Group F_r21_Group F_law21_alive 0 x0
theorem ok_law21_IcmpNears : Ev.EnvOk (Ew_law21_IcmpNears F_icmp_Near F_r21_Near F_icmp_Group F_r21_Group F_law21_alive) := Ev.envOk_with envOkd (Ev.SpsOk.add (b := false) g_icmp_Near (by kernel_rfl) (Ev.SpsOk.add (b := false) g_r21_Near (by kernel_rfl) (Ev.SpsOk.add (b := false) g_icmp_Group (by kernel_rfl) (Ev.SpsOk.add (b := false) g_r21_Group (by kernel_rfl) (Ev.SpsOk.add (b := false) g_law21_alive (by kernel_rfl) Ev.SpsOk.nil)))))
theorem ro_law21_IcmpNears (F_icmp_Near : T_api_Addr → Option Bool) (F_r21_Near : T_api_Addr → Option Bool) (F_icmp_Group : T_api_Addr → Option Bool) (F_r21_Group : T_api_Addr → Option Bool) (F_law21_alive : Option Bool) : Ev.SpecRl (Ew_law21_IcmpNears F_icmp_Near F_r21_Near F_icmp_Group F_r21_Group F_law21_alive) := Ev.specRl_with rfl (Ev.SpsRl.cons (rs_icmp_Near _) (Ev.SpsRl.cons (rs_r21_Near _) (Ev.SpsRl.cons (rs_icmp_Group _) (Ev.SpsRl.cons (rs_r21_Group _) (Ev.SpsRl.cons (rs_law21_alive _) Ev.SpsRl.nil)))))
theorem g_law21_IcmpNears : Ev.SpOk Try.prog false 25 (s_law21_IcmpNears F_law21_IcmpNears) := by
  refine Ev.SpOk.mkF fun vs k r g0 => ?_
  unfold s_law21_IcmpNears at g0
  obtain ⟨a0, r0, rfl, g1⟩ := Ev.kU_ok g0
  obtain ⟨rfl, g2⟩ := Ev.kE_ok g1
  obtain ⟨x0, rfl, g3⟩ := d_api_Addr_ok g2
  obtain ⟨x, hx, h⟩ := Ev.bnd_get g3
  have h1 := pr_law21_IcmpNears F_icmp_Near F_r21_Near F_icmp_Group F_r21_Group F_law21_alive 0 x0
  rw [show N_law21_IcmpNears F_icmp_Near F_r21_Near F_icmp_Group F_r21_Group F_law21_alive 0 x0 = some x from hx] at h1
  exact ⟨_, h, Ev.good_of_inl ok_law21_IcmpNears (ro_law21_IcmpNears F_icmp_Near F_r21_Near F_icmp_Group F_r21_Group F_law21_alive) rfl rfl Ev.TabOk.nil 40 12 _ h1⟩
end Go.Proofs.Yteljeekapcenlaa
