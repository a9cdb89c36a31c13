/-
  Functions of the seat's program, printed by a program of ours: what each comes to, and that it is so. No conditions.
-/
import Derived.Test.YteljeekapcenlaaEnv
namespace Go.Proofs.Yteljeekapcenlaa
open Go
set_option linter.unusedVariables false
set_option linter.unusedSimpArgs false
@[ext] structure T_api_Addr where
  Fam : Int
  Hi : Int
  Lo : Int
noncomputable def c_api_Addr (x : T_api_Addr) : List Value := [.int .i64 x.Fam, .int .u64 x.Hi, .int .u64 x.Lo]
noncomputable def v_api_Addr (x : T_api_Addr) : Value := .agg ⟨[.int .i64 x.Fam, .int .u64 x.Hi, .int .u64 x.Lo]⟩
noncomputable def u_api_Addr (v : Value) : T_api_Addr := match v with | .agg ⟨[a0, a1, a2]⟩ => ⟨Ev.uI a0, Ev.uI a1, Ev.uI a2⟩ | _ => ⟨0, 0, 0⟩
noncomputable def d_api_Addr (v : Value) (c : T_api_Addr → Ev.Res) : Ev.Res := match v with | .agg ⟨[a0, a1, a2]⟩ => Ev.gI .i64 a0 fun b0 => Ev.gI .u64 a1 fun b1 => Ev.gI .u64 a2 fun b2 => c ⟨b0, b1, b2⟩ | _ => none
theorem d_api_Addr_ok {v : Value} {c : T_api_Addr → Ev.Res} {r : Value × Ev.AH} (h : d_api_Addr v c = some r) : ∃ x, v = v_api_Addr x ∧ c x = some r := by
  unfold d_api_Addr at h
  split at h
  · obtain ⟨b0, rfl, h0⟩ := Ev.gI_ok h
    obtain ⟨b1, rfl, h1⟩ := Ev.gI_ok h0
    obtain ⟨b2, rfl, h2⟩ := Ev.gI_ok h1
    exact ⟨⟨b0, b1, b2⟩, rfl, h2⟩
  · cases h
@[ext] structure T_api_Prefix where
  Addr_Fam : Int
  Addr_Hi : Int
  Addr_Lo : Int
  Bits : Int
noncomputable def c_api_Prefix (x : T_api_Prefix) : List Value := [.int .i64 x.Addr_Fam, .int .u64 x.Addr_Hi, .int .u64 x.Addr_Lo, .int .i64 x.Bits]
noncomputable def v_api_Prefix (x : T_api_Prefix) : Value := .agg ⟨[.int .i64 x.Addr_Fam, .int .u64 x.Addr_Hi, .int .u64 x.Addr_Lo, .int .i64 x.Bits]⟩
noncomputable def u_api_Prefix (v : Value) : T_api_Prefix := match v with | .agg ⟨[a0, a1, a2, a3]⟩ => ⟨Ev.uI a0, Ev.uI a1, Ev.uI a2, Ev.uI a3⟩ | _ => ⟨0, 0, 0, 0⟩
noncomputable def d_api_Prefix (v : Value) (c : T_api_Prefix → Ev.Res) : Ev.Res := match v with | .agg ⟨[a0, a1, a2, a3]⟩ => Ev.gI .i64 a0 fun b0 => Ev.gI .u64 a1 fun b1 => Ev.gI .u64 a2 fun b2 => Ev.gI .i64 a3 fun b3 => c ⟨b0, b1, b2, b3⟩ | _ => none
theorem d_api_Prefix_ok {v : Value} {c : T_api_Prefix → Ev.Res} {r : Value × Ev.AH} (h : d_api_Prefix v c = some r) : ∃ x, v = v_api_Prefix x ∧ c x = some r := by
  unfold d_api_Prefix at h
  split at h
  · obtain ⟨b0, rfl, h0⟩ := Ev.gI_ok h
    obtain ⟨b1, rfl, h1⟩ := Ev.gI_ok h0
    obtain ⟨b2, rfl, h2⟩ := Ev.gI_ok h1
    obtain ⟨b3, rfl, h3⟩ := Ev.gI_ok h2
    exact ⟨⟨b0, b1, b2, b3⟩, rfl, h3⟩
  · cases h
theorem rl_d_api_Addr {S : (Value × Ev.AH) → Ev.Res → Prop} {v : Value} {c c2 : T_api_Addr → Ev.Res} (h : ∀ a, Ev.Rl S (c a) (c2 a)) : Ev.Rl S (d_api_Addr v c) (d_api_Addr v c2) := by
  unfold d_api_Addr
  split
  · refine Ev.rl_gI fun _ => ?_
    refine Ev.rl_gI fun _ => ?_
    refine Ev.rl_gI fun _ => ?_
    exact h _
  · exact Ev.Rl.none
theorem rl_d_api_Prefix {S : (Value × Ev.AH) → Ev.Res → Prop} {v : Value} {c c2 : T_api_Prefix → Ev.Res} (h : ∀ a, Ev.Rl S (c a) (c2 a)) : Ev.Rl S (d_api_Prefix v c) (d_api_Prefix v c2) := by
  unfold d_api_Prefix
  split
  · refine Ev.rl_gI fun _ => ?_
    refine Ev.rl_gI fun _ => ?_
    refine Ev.rl_gI fun _ => ?_
    refine Ev.rl_gI fun _ => ?_
    exact h _
  · exact Ev.Rl.none
noncomputable def MtMa : Ev.Mats := { slots := fun f i => cond (Nat.beq f 175 && Nat.beq i 5) [(3, 1)] ([]), cells := fun f i => [], own := fun f => Nat.beq f 175 }
-- stockaderef02.Right
-- DEEP r02_Right 145 - T_api_Addr → Option Bool
noncomputable def e_r02_Right (x : Bool) : Value := .bool x
noncomputable def E_r02_Right (x : Bool) : Value × Ev.AH := (e_r02_Right x, ⟨[], 0, []⟩)
noncomputable def s_r02_Right (F : T_api_Addr → Option Bool) : Ev.Sp := fun vs k => Ev.kU vs fun a0 r0 => Ev.kE r0 <| d_api_Addr a0 fun x0 => Ev.bnd (F x0) fun x => k (e_r02_Right x)
theorem rs_r02_Right (F : T_api_Addr → Option Bool) : Ev.SpRl (s_r02_Right F) := by
  intro S vs k k2 hk
  unfold s_r02_Right
  refine Ev.rl_kU fun _ _ => ?_
  refine Ev.rl_kE ?_
  refine rl_d_api_Addr fun _ => ?_
  exact Ev.Rl.bnd fun x => hk _
noncomputable def Ew_r02_Right : Ev.Env := Ev.Env.with Ed []
noncomputable def Es_r02_Right : Ev.Env := Ev.Env.inl (Ew_r02_Right ) MtMa [] 40 12
noncomputable def O_r02_Right : Ev.Orc := fun _ _ _ => none
noncomputable def N_r02_Right (m : Nat) (x0 : T_api_Addr) : Option Bool := bif x0.Fam == 6 then some true else bif x0.Fam == 4 then bif x0.Hi == 0 then some (Ev.ltI x0.Lo 4294967296) else some false else some false
theorem pr_r02_Right (m : Nat) (x0 : T_api_Addr) : Ev.evBodyD (Es_r02_Right ) MtMa (O_r02_Right ) m 145 [v_api_Addr x0] = Ev.oE E_r02_Right (N_r02_Right m x0) := by
  simp only [N_r02_Right, Ev.oE_some, Ev.oE_none, Ev.oE_cond, Ev.oE_bnd]
  kernel_rfl
noncomputable def F_r02_Right : T_api_Addr → Option Bool := fun x0 => N_r02_Right 0 x0
theorem ok_r02_Right : Ev.EnvOk (Ew_r02_Right ) := Ev.envOk_with envOkd Ev.SpsOk.nil
theorem ro_r02_Right : Ev.SpecRl (Ew_r02_Right ) := Ev.specRl_with rfl Ev.SpsRl.nil
theorem g_r02_Right : Ev.SpOk Try.prog false 145 (s_r02_Right F_r02_Right) := by
  refine Ev.SpOk.mkF fun vs k r g0 => ?_
  unfold s_r02_Right at g0
  obtain ⟨a0, r0, rfl, g1⟩ := Ev.kU_ok g0
  obtain ⟨rfl, g2⟩ := Ev.kE_ok g1
  obtain ⟨x0, rfl, g3⟩ := d_api_Addr_ok g2
  obtain ⟨x, hx, h⟩ := Ev.bnd_get g3
  have h1 := pr_r02_Right  0 x0
  rw [show N_r02_Right  0 x0 = some x from hx] at h1
  exact ⟨_, h, Ev.good_of_inl ok_r02_Right (ro_r02_Right ) rfl rfl Ev.TabOk.nil 40 12 _ h1⟩
-- stockaderef02.Size
-- DEEP r02_Size 178 - Int → Option Int
noncomputable def e_r02_Size (x : Int) : Value := .int .i64 x
noncomputable def E_r02_Size (x : Int) : Value × Ev.AH := (e_r02_Size x, ⟨[], 0, []⟩)
noncomputable def s_r02_Size (F : Int → Option Int) : Ev.Sp := fun vs k => Ev.kU vs fun a0 r0 => Ev.kE r0 <| Ev.gI .i64 a0 fun x0 => Ev.bnd (F x0) fun x => k (e_r02_Size x)
theorem rs_r02_Size (F : Int → Option Int) : Ev.SpRl (s_r02_Size F) := by
  intro S vs k k2 hk
  unfold s_r02_Size
  refine Ev.rl_kU fun _ _ => ?_
  refine Ev.rl_kE ?_
  refine Ev.rl_gI fun _ => ?_
  exact Ev.Rl.bnd fun x => hk _
noncomputable def Ew_r02_Size : Ev.Env := Ev.Env.with Ed []
noncomputable def Es_r02_Size : Ev.Env := Ev.Env.inl (Ew_r02_Size ) MtMa [] 40 12
noncomputable def O_r02_Size : Ev.Orc := fun _ _ _ => none
noncomputable def N_r02_Size (m : Nat) (x0 : Int) : Option Int := bif x0 == 4 then some 32 else some 128
theorem pr_r02_Size (m : Nat) (x0 : Int) : Ev.evBodyD (Es_r02_Size ) MtMa (O_r02_Size ) m 178 [.int .i64 x0] = Ev.oE E_r02_Size (N_r02_Size m x0) := by
  simp only [N_r02_Size, Ev.oE_some, Ev.oE_none, Ev.oE_cond, Ev.oE_bnd]
  kernel_rfl
noncomputable def F_r02_Size : Int → Option Int := fun x0 => N_r02_Size 0 x0
theorem ok_r02_Size : Ev.EnvOk (Ew_r02_Size ) := Ev.envOk_with envOkd Ev.SpsOk.nil
theorem ro_r02_Size : Ev.SpecRl (Ew_r02_Size ) := Ev.specRl_with rfl Ev.SpsRl.nil
theorem g_r02_Size : Ev.SpOk Try.prog false 178 (s_r02_Size F_r02_Size) := by
  refine Ev.SpOk.mkF fun vs k r g0 => ?_
  unfold s_r02_Size at g0
  obtain ⟨a0, r0, rfl, g1⟩ := Ev.kU_ok g0
  obtain ⟨rfl, g2⟩ := Ev.kE_ok g1
  obtain ⟨x0, rfl, g3⟩ := Ev.gI_ok g2
  obtain ⟨x, hx, h⟩ := Ev.bnd_get g3
  have h1 := pr_r02_Size  0 x0
  rw [show N_r02_Size  0 x0 = some x from hx] at h1
  exact ⟨_, h, Ev.good_of_inl ok_r02_Size (ro_r02_Size ) rfl rfl Ev.TabOk.nil 40 12 _ h1⟩
-- stockaderef02.Bit
-- DEEP r02_Bit 188 - T_api_Addr → Int → Option Int
noncomputable def e_r02_Bit (x : Int) : Value := .int .i64 x
noncomputable def E_r02_Bit (x : Int) : Value × Ev.AH := (e_r02_Bit x, ⟨[], 0, []⟩)
noncomputable def s_r02_Bit (F : T_api_Addr → Int → Option Int) : Ev.Sp := fun vs k => Ev.kU vs fun a0 r0 => Ev.kU r0 fun a1 r1 => Ev.kE r1 <| d_api_Addr a0 fun x0 => Ev.gI .i64 a1 fun x1 => Ev.bnd (F x0 x1) fun x => k (e_r02_Bit x)
theorem rs_r02_Bit (F : T_api_Addr → Int → Option Int) : Ev.SpRl (s_r02_Bit F) := by
  intro S vs k k2 hk
  unfold s_r02_Bit
  refine Ev.rl_kU fun _ _ => ?_
  refine Ev.rl_kU fun _ _ => ?_
  refine Ev.rl_kE ?_
  refine rl_d_api_Addr fun _ => ?_
  refine Ev.rl_gI fun _ => ?_
  exact Ev.Rl.bnd fun x => hk _
noncomputable def Ew_r02_Bit : Ev.Env := Ev.Env.with Ed []
noncomputable def Es_r02_Bit : Ev.Env := Ev.Env.inl (Ew_r02_Bit ) MtMa [] 40 12
noncomputable def O_r02_Bit : Ev.Orc := fun _ _ _ => none
noncomputable def N_r02_Bit (m : Nat) (x0 : T_api_Addr) (x1 : Int) : Option Int := bif x0.Fam == 4 then bif decide (IntKind.wrap IntKind.i64 (31 - x1) < 0) then none else some (IntKind.wrap IntKind.i64 (Ev.bitsOp BinOp.and IntKind.u64 (Int.fdiv x0.Lo (2 ^ Min.min (Int.toNat (IntKind.wrap IntKind.i64 (31 - x1))) 64)) 1)) else bif Ev.ltI x1 64 then bif decide (IntKind.wrap IntKind.i64 (63 - x1) < 0) then none else some (IntKind.wrap IntKind.i64 (Ev.bitsOp BinOp.and IntKind.u64 (Int.fdiv x0.Hi (2 ^ Min.min (Int.toNat (IntKind.wrap IntKind.i64 (63 - x1))) 64)) 1)) else bif decide (IntKind.wrap IntKind.i64 (127 - x1) < 0) then none else some (IntKind.wrap IntKind.i64 (Ev.bitsOp BinOp.and IntKind.u64 (Int.fdiv x0.Lo (2 ^ Min.min (Int.toNat (IntKind.wrap IntKind.i64 (127 - x1))) 64)) 1))
theorem pr_r02_Bit (m : Nat) (x0 : T_api_Addr) (x1 : Int) : Ev.evBodyD (Es_r02_Bit ) MtMa (O_r02_Bit ) m 188 [v_api_Addr x0, .int .i64 x1] = Ev.oE E_r02_Bit (N_r02_Bit m x0 x1) := by
  simp only [N_r02_Bit, Ev.oE_some, Ev.oE_none, Ev.oE_cond, Ev.oE_bnd]
  kernel_rfl
noncomputable def F_r02_Bit : T_api_Addr → Int → Option Int := fun x0 x1 => N_r02_Bit 0 x0 x1
theorem ok_r02_Bit : Ev.EnvOk (Ew_r02_Bit ) := Ev.envOk_with envOkd Ev.SpsOk.nil
theorem ro_r02_Bit : Ev.SpecRl (Ew_r02_Bit ) := Ev.specRl_with rfl Ev.SpsRl.nil
theorem g_r02_Bit : Ev.SpOk Try.prog false 188 (s_r02_Bit F_r02_Bit) := by
  refine Ev.SpOk.mkF fun vs k r g0 => ?_
  unfold s_r02_Bit at g0
  obtain ⟨a0, r0, rfl, g1⟩ := Ev.kU_ok g0
  obtain ⟨a1, r1, rfl, g2⟩ := Ev.kU_ok g1
  obtain ⟨rfl, g3⟩ := Ev.kE_ok g2
  obtain ⟨x0, rfl, g4⟩ := d_api_Addr_ok g3
  obtain ⟨x1, rfl, g5⟩ := Ev.gI_ok g4
  obtain ⟨x, hx, h⟩ := Ev.bnd_get g5
  have h1 := pr_r02_Bit  0 x0 x1
  rw [show N_r02_Bit  0 x0 x1 = some x from hx] at h1
  exact ⟨_, h, Ev.good_of_inl ok_r02_Bit (ro_r02_Bit ) rfl rfl Ev.TabOk.nil 40 12 _ h1⟩
-- stockaderef02.Bytes
-- DEEP r02_Bytes 175 - T_api_Addr → Option (List Value)
noncomputable def e_r02_Bytes (x : List Value) : Value := Ev.dS 1 x
noncomputable def E_r02_Bytes (x : List Value) : Value × Ev.AH := Ev.ownR 1 x
noncomputable def s_r02_Bytes (F : T_api_Addr → Option (List Value)) : Ev.Sp := fun vs k => Ev.kU vs fun a0 r0 => Ev.kE r0 <| d_api_Addr a0 fun x0 => Ev.bnd (F x0) fun x => k (e_r02_Bytes x)
theorem rs_r02_Bytes (F : T_api_Addr → Option (List Value)) : Ev.SpRl (s_r02_Bytes F) := by
  intro S vs k k2 hk
  unfold s_r02_Bytes
  refine Ev.rl_kU fun _ _ => ?_
  refine Ev.rl_kE ?_
  refine rl_d_api_Addr fun _ => ?_
  exact Ev.Rl.bnd fun x => hk _
noncomputable def Ew_r02_Bytes (F_r02_Right : T_api_Addr → Option Bool) (F_r02_Size : Int → Option Int) (F_r02_Bit : T_api_Addr → Int → Option Int) : Ev.Env := Ev.Env.with Ed [(145, s_r02_Right F_r02_Right), (178, s_r02_Size F_r02_Size), (188, s_r02_Bit F_r02_Bit)]
noncomputable def Es_r02_Bytes (F_r02_Right : T_api_Addr → Option Bool) (F_r02_Size : Int → Option Int) (F_r02_Bit : T_api_Addr → Int → Option Int) : Ev.Env := Ev.Env.inl (Ew_r02_Bytes F_r02_Right F_r02_Size F_r02_Bit) MtMa [] 40 12
noncomputable def O_r02_Bytes (F_r02_Right : T_api_Addr → Option Bool) (F_r02_Size : Int → Option Int) (F_r02_Bit : T_api_Addr → Int → Option Int) : Ev.Orc := fun _ _ _ => none
noncomputable def L_r02_Bytes_9 (F_r02_Right : T_api_Addr → Option Bool) (F_r02_Size : Int → Option Int) (F_r02_Bit : T_api_Addr → Int → Option Int) (m : Nat) (n_5 : Nat) (n_9 : Nat) (w9 : Nat) (w10 : Int) (w11 : Int) (w12 : Int) (w13 : Int) (w14 : Int) (w15 : Int) (w16 : List Value) : Ev.Res := Ev.loopAtD (Es_r02_Bytes F_r02_Right F_r02_Size F_r02_Bit) MtMa (O_r02_Bytes F_r02_Right F_r02_Size F_r02_Bit) m 175 [1, 1, 1, 0, 1, 0, 0, 1, 0, 0, 1, 0, 1, 0] [n_5] n_9 [none, some (Value.pointer (some (Addr.mk 0 0 none))), none, some (Value.iface 1 (Value.agg (Array.mk [Value.chan (some 2), Value.chan (some 1), Value.chan (some w9)]))), some (Value.int IntKind.i64 w10), some (Value.int IntKind.i64 w11), some (Value.int IntKind.i64 w12), none, none, none, none, none, none, none, none, none, none, none, none, none, none, none, none, none, none, none, none, none, none, none, none, none, none, none, none] ⟨[Ev.Blk.cells [Value.int IntKind.i64 w13, Value.int IntKind.u64 w14, Value.int IntKind.u64 w15], Ev.Blk.bld w16], 0, []⟩
noncomputable def L_r02_Bytes_5 (F_r02_Right : T_api_Addr → Option Bool) (F_r02_Size : Int → Option Int) (F_r02_Bit : T_api_Addr → Int → Option Int) (m : Nat)  (n_5 : Nat) (w1 : Nat) (w2 : Int) (w3 : Int) (w4 : Int) (w5 : Int) (w6 : List Value) : Ev.Res := Ev.loopAtD (Es_r02_Bytes F_r02_Right F_r02_Size F_r02_Bit) MtMa (O_r02_Bytes F_r02_Right F_r02_Size F_r02_Bit) m 175 [1, 1, 1, 0, 1, 0] [] n_5 [none, some (Value.pointer (some (Addr.mk 0 0 none))), none, some (Value.iface 1 (Value.agg (Array.mk [Value.chan (some 2), Value.chan (some 1), Value.chan (some w1)]))), some (Value.int IntKind.i64 w2), none, none, none, none, none, none, none, none, none, none, none, none, none, none, none, none, none, none, none, none, none, none, none, none, none, none, none, none, none, none] ⟨[Ev.Blk.cells [Value.int IntKind.i64 w3, Value.int IntKind.u64 w4, Value.int IntKind.u64 w5], Ev.Blk.bld w6], 0, []⟩
theorem lz_r02_Bytes_9 (F_r02_Right : T_api_Addr → Option Bool) (F_r02_Size : Int → Option Int) (F_r02_Bit : T_api_Addr → Int → Option Int) (m : Nat) (n_5 : Nat) (w9 : Nat) (w10 : Int) (w11 : Int) (w12 : Int) (w13 : Int) (w14 : Int) (w15 : Int) (w16 : List Value) : L_r02_Bytes_9 F_r02_Right F_r02_Size F_r02_Bit m n_5 0 w9 w10 w11 w12 w13 w14 w15 w16 = none := by kernel_rfl
noncomputable def N_r02_Bytes_9 (F_r02_Right : T_api_Addr → Option Bool) (F_r02_Size : Int → Option Int) (F_r02_Bit : T_api_Addr → Int → Option Int) (m : Nat) (K_5 : Nat → Int → Int → Int → Int → (List Value) → Option (List Value)) : Nat → Nat → Int → Int → Int → Int → Int → Int → (List Value) → Option (List Value)
  | 0, _, _, _, _, _, _, _, _ => none
  | n_9 + 1, w9, w10, w11, w12, w13, w14, w15, w16 => bif Ev.ltI w12 8 then Ev.bnd (F_r02_Bit (T_api_Addr.mk w13 w14 w15) (IntKind.wrap IntKind.i64 (w10 + w12))) fun v19 => N_r02_Bytes_9 F_r02_Right F_r02_Size F_r02_Bit m K_5 n_9 w9 w10 (Ev.bitsOp BinOp.or IntKind.i64 (IntKind.wrap IntKind.i64 (w11 * 2)) v19) (IntKind.wrap IntKind.i64 (w12 + 1)) w13 w14 w15 w16 else bif Nat.beq (w9 * 1) (List.length w16) then bif decide ((w9 + 1) * 1 ≤ 140737488355328) && decide (w9 + 1 ≤ 140737488355328) then K_5 (w9 + 1) (IntKind.wrap IntKind.i64 (w10 + 8)) w13 w14 w15 (w16 ++ [Value.int IntKind.u8 (IntKind.wrap IntKind.u8 w11)]) else none else none
theorem pl_r02_Bytes_9 (F_r02_Right : T_api_Addr → Option Bool) (F_r02_Size : Int → Option Int) (F_r02_Bit : T_api_Addr → Int → Option Int) (m : Nat) (n_5 : Nat) (K_5 : Nat → Int → Int → Int → Int → (List Value) → Option (List Value)) (h_5 : ∀ (w1 : Nat) (w2 : Int) (w3 : Int) (w4 : Int) (w5 : Int) (w6 : List Value), L_r02_Bytes_5 F_r02_Right F_r02_Size F_r02_Bit m n_5 w1 w2 w3 w4 w5 w6 = Ev.oE E_r02_Bytes (K_5 w1 w2 w3 w4 w5 w6)) : ∀ (n_9 : Nat) (w9 : Nat) (w10 : Int) (w11 : Int) (w12 : Int) (w13 : Int) (w14 : Int) (w15 : Int) (w16 : List Value), L_r02_Bytes_9 F_r02_Right F_r02_Size F_r02_Bit m n_5 n_9 w9 w10 w11 w12 w13 w14 w15 w16 = Ev.oE E_r02_Bytes (N_r02_Bytes_9 F_r02_Right F_r02_Size F_r02_Bit m K_5 n_9 w9 w10 w11 w12 w13 w14 w15 w16) := by
  intro n_9
  induction n_9 with
  | zero => intro w9 w10 w11 w12 w13 w14 w15 w16; rw [lz_r02_Bytes_9]; rfl
  | succ n_9 ih =>
    intro w9 w10 w11 w12 w13 w14 w15 w16
    simp only [N_r02_Bytes_9, Ev.oE_some, Ev.oE_none, Ev.oE_cond, Ev.oE_bnd, ← ih, ← h_5]
    kernel_rfl
theorem lz_r02_Bytes_5 (F_r02_Right : T_api_Addr → Option Bool) (F_r02_Size : Int → Option Int) (F_r02_Bit : T_api_Addr → Int → Option Int) (m : Nat)  (w1 : Nat) (w2 : Int) (w3 : Int) (w4 : Int) (w5 : Int) (w6 : List Value) : L_r02_Bytes_5 F_r02_Right F_r02_Size F_r02_Bit m 0 w1 w2 w3 w4 w5 w6 = none := by kernel_rfl
noncomputable def N_r02_Bytes_5 (F_r02_Right : T_api_Addr → Option Bool) (F_r02_Size : Int → Option Int) (F_r02_Bit : T_api_Addr → Int → Option Int) (m : Nat)  : Nat → Nat → Int → Int → Int → Int → (List Value) → Option (List Value)
  | 0, _, _, _, _, _, _ => none
  | n_5 + 1, w1, w2, w3, w4, w5, w6 => Ev.bnd (F_r02_Size w3) fun v8 => bif Ev.ltI w2 v8 then N_r02_Bytes_9 F_r02_Right F_r02_Size F_r02_Bit m (N_r02_Bytes_5 F_r02_Right F_r02_Size F_r02_Bit m n_5) m w1 w2 0 0 w3 w4 w5 w6 else bif true && Nat.beq (w1 * 1) (List.length w6) then some w6 else none
theorem pl_r02_Bytes_5 (F_r02_Right : T_api_Addr → Option Bool) (F_r02_Size : Int → Option Int) (F_r02_Bit : T_api_Addr → Int → Option Int) (m : Nat)    : ∀ (n_5 : Nat) (w1 : Nat) (w2 : Int) (w3 : Int) (w4 : Int) (w5 : Int) (w6 : List Value), L_r02_Bytes_5 F_r02_Right F_r02_Size F_r02_Bit m n_5 w1 w2 w3 w4 w5 w6 = Ev.oE E_r02_Bytes (N_r02_Bytes_5 F_r02_Right F_r02_Size F_r02_Bit m n_5 w1 w2 w3 w4 w5 w6) := by
  intro n_5
  induction n_5 with
  | zero => intro w1 w2 w3 w4 w5 w6; rw [lz_r02_Bytes_5]; rfl
  | succ n_5 ih =>
    have hb_9 := pl_r02_Bytes_9 F_r02_Right F_r02_Size F_r02_Bit m n_5 (N_r02_Bytes_5 F_r02_Right F_r02_Size F_r02_Bit m n_5) ih
    intro w1 w2 w3 w4 w5 w6
    simp only [N_r02_Bytes_5, Ev.oE_some, Ev.oE_none, Ev.oE_cond, Ev.oE_bnd, ← ih, ← hb_9]
    kernel_rfl
noncomputable def N_r02_Bytes (F_r02_Right : T_api_Addr → Option Bool) (F_r02_Size : Int → Option Int) (F_r02_Bit : T_api_Addr → Int → Option Int) (m : Nat) (x0 : T_api_Addr) : Option (List Value) := Ev.bnd (F_r02_Right x0) fun v0 => bif !v0 then some [] else N_r02_Bytes_5 F_r02_Right F_r02_Size F_r02_Bit m m 0 0 x0.Fam x0.Hi x0.Lo []
theorem pr_r02_Bytes (F_r02_Right : T_api_Addr → Option Bool) (F_r02_Size : Int → Option Int) (F_r02_Bit : T_api_Addr → Int → Option Int) (m : Nat) (x0 : T_api_Addr) : Ev.evBodyD (Es_r02_Bytes F_r02_Right F_r02_Size F_r02_Bit) MtMa (O_r02_Bytes F_r02_Right F_r02_Size F_r02_Bit) m 175 [v_api_Addr x0] = Ev.oE E_r02_Bytes (N_r02_Bytes F_r02_Right F_r02_Size F_r02_Bit m x0) := by
  simp only [N_r02_Bytes, Ev.oE_some, Ev.oE_none, Ev.oE_cond, Ev.oE_bnd, ← pl_r02_Bytes_5 F_r02_Right F_r02_Size F_r02_Bit m]
  kernel_rfl
noncomputable def F_r02_Bytes : T_api_Addr → Option (List Value) := fun x0 => Ev.lim fun m => N_r02_Bytes F_r02_Right F_r02_Size F_r02_Bit m x0
theorem ok_r02_Bytes : Ev.EnvOk (Ew_r02_Bytes F_r02_Right F_r02_Size F_r02_Bit) := Ev.envOk_with envOkd (Ev.SpsOk.add (b := false) g_r02_Right (by kernel_rfl) (Ev.SpsOk.add (b := false) g_r02_Size (by kernel_rfl) (Ev.SpsOk.add (b := false) g_r02_Bit (by kernel_rfl) Ev.SpsOk.nil)))
theorem ro_r02_Bytes (F_r02_Right : T_api_Addr → Option Bool) (F_r02_Size : Int → Option Int) (F_r02_Bit : T_api_Addr → Int → Option Int) : Ev.SpecRl (Ew_r02_Bytes F_r02_Right F_r02_Size F_r02_Bit) := Ev.specRl_with rfl (Ev.SpsRl.cons (rs_r02_Right _) (Ev.SpsRl.cons (rs_r02_Size _) (Ev.SpsRl.cons (rs_r02_Bit _) Ev.SpsRl.nil)))
theorem g_r02_Bytes : Ev.SpOk Try.prog true 175 (s_r02_Bytes F_r02_Bytes) := by
  refine Ev.SpOk.mkT fun vs k r g0 => ?_
  unfold s_r02_Bytes at g0
  obtain ⟨a0, r0, rfl, g1⟩ := Ev.kU_ok g0
  obtain ⟨rfl, g2⟩ := Ev.kE_ok g1
  obtain ⟨x0, rfl, g3⟩ := d_api_Addr_ok g2
  obtain ⟨x, hx, h⟩ := Ev.bnd_get g3
  obtain ⟨m, hm⟩ := Ev.lim_some hx
  have h1 := pr_r02_Bytes F_r02_Right F_r02_Size F_r02_Bit m x0
  rw [hm] at h1
  exact ⟨_, _, h, Ev.good_of_inl ok_r02_Bytes (ro_r02_Bytes F_r02_Right F_r02_Size F_r02_Bit) rfl rfl Ev.TabOk.nil 40 12 _ h1⟩
-- stockaderef02.From
-- DEEP r02_From 190 - (List Value) → Option (T_api_Addr × Int)
noncomputable def e_r02_From (x : T_api_Addr × Int) : Value := .tuple ⟨[v_api_Addr (x.1), .int .i64 (x.2)]⟩
noncomputable def E_r02_From (x : T_api_Addr × Int) : Value × Ev.AH := (e_r02_From x, ⟨[], 0, []⟩)
noncomputable def s_r02_From (F : (List Value) → Option (T_api_Addr × Int)) : Ev.Sp := fun vs k => Ev.kU vs fun a0 r0 => Ev.kE r0 <| Ev.kL 1 a0 fun x0 => Ev.bnd (F x0) fun x => k (e_r02_From x)
theorem rs_r02_From (F : (List Value) → Option (T_api_Addr × Int)) : Ev.SpRl (s_r02_From F) := by
  intro S vs k k2 hk
  unfold s_r02_From
  refine Ev.rl_kU fun _ _ => ?_
  refine Ev.rl_kE ?_
  refine Ev.rl_kL fun _ => ?_
  exact Ev.Rl.bnd fun x => hk _
noncomputable def Ew_r02_From : Ev.Env := Ev.Env.with Ed []
noncomputable def Es_r02_From : Ev.Env := Ev.Env.inl (Ew_r02_From ) MtMa [] 40 12
noncomputable def O_r02_From : Ev.Orc := fun _ _ _ => none
noncomputable def L_r02_From_7 (m : Nat)  (n_7 : Nat) (w0 : List Value) (w1 : Int) (w2 : Int) (w3 : Int) (w4 : Int) (w5 : Int) (w6 : Int) (w7 : Int) : Ev.Res := Ev.loopAtD (Es_r02_From ) MtMa (O_r02_From ) m 190 [1, 1, 1, 1, 0, 1, 0] [] n_7 [some (Value.iface 1 (Value.agg (Array.mk (Value.chan (some 0) :: w0)))), none, some (Value.pointer (some (Addr.mk 0 0 none))), none, some (Value.pointer (some (Addr.mk 1 0 none))), some (Value.int IntKind.i64 w1), none, none, none, none, none, none, none, none, none, none, none, none, none, none, none, none, none, none, none, none, none, none, none, none, none, none, none, none, none, none, none, none, none, none, none, none, none, none, none, none, none, none, none] ⟨[Ev.Blk.cells [Value.int IntKind.i64 w2, Value.int IntKind.u64 w3, Value.int IntKind.u64 w4], Ev.Blk.cells [Value.int IntKind.i64 w5, Value.int IntKind.u64 w6, Value.int IntKind.u64 w7]], 0, []⟩
theorem lz_r02_From_7 (m : Nat)  (w0 : List Value) (w1 : Int) (w2 : Int) (w3 : Int) (w4 : Int) (w5 : Int) (w6 : Int) (w7 : Int) : L_r02_From_7 m 0 w0 w1 w2 w3 w4 w5 w6 w7 = none := by kernel_rfl
noncomputable def N_r02_From_7 (m : Nat)  : Nat → (List Value) → Int → Int → Int → Int → Int → Int → Int → Option (T_api_Addr × Int)
  | 0, _, _, _, _, _, _, _, _ => none
  | n_7 + 1, w0, w1, w2, w3, w4, w5, w6, w7 => bif Ev.ltI w1 (↑(Ev.dlen 1 w0) : Int) then bif true && (decide (0 ≤ w1) && decide (w1 < (↑(Ev.dlen 1 w0) : Int))) then bif true && Ev.okD [(Ev.Kd.int IntKind.u8, 0)] w0 (Int.toNat w1 * 1) then N_r02_From_7 m n_7 w0 (IntKind.wrap IntKind.i64 (w1 + 1)) w2 w3 w4 w5 (Ev.bitsOp BinOp.or IntKind.u64 (IntKind.wrap IntKind.u64 (w6 * 256)) (Int.fdiv w7 72057594037927936)) (Ev.bitsOp BinOp.or IntKind.u64 (IntKind.wrap IntKind.u64 (w7 * 256)) (IntKind.wrap IntKind.u64 (Ev.uI (Ev.nthC w0 (Int.toNat w1 * 1))))) else none else none else bif w5 == 4 then some (T_api_Addr.mk w5 0 w7, 0) else some (T_api_Addr.mk w5 w6 w7, 0)
theorem pl_r02_From_7 (m : Nat)    : ∀ (n_7 : Nat) (w0 : List Value) (w1 : Int) (w2 : Int) (w3 : Int) (w4 : Int) (w5 : Int) (w6 : Int) (w7 : Int), L_r02_From_7 m n_7 w0 w1 w2 w3 w4 w5 w6 w7 = Ev.oE E_r02_From (N_r02_From_7 m n_7 w0 w1 w2 w3 w4 w5 w6 w7) := by
  intro n_7
  induction n_7 with
  | zero => intro w0 w1 w2 w3 w4 w5 w6 w7; rw [lz_r02_From_7]; rfl
  | succ n_7 ih =>
    intro w0 w1 w2 w3 w4 w5 w6 w7
    simp only [N_r02_From_7, Ev.oE_some, Ev.oE_none, Ev.oE_cond, Ev.oE_bnd, ← ih]
    kernel_rfl
noncomputable def N_r02_From (m : Nat) (x0 : List Value) : Option (T_api_Addr × Int) := bif (↑(Ev.dlen 1 x0) : Int) != 4 then bif (↑(Ev.dlen 1 x0) : Int) != 16 then some (T_api_Addr.mk 0 0 0, 1) else bif (↑(Ev.dlen 1 x0) : Int) == 4 then N_r02_From_7 m m x0 0 0 0 0 4 0 0 else N_r02_From_7 m m x0 0 0 0 0 6 0 0 else bif (↑(Ev.dlen 1 x0) : Int) == 4 then N_r02_From_7 m m x0 0 0 0 0 4 0 0 else N_r02_From_7 m m x0 0 0 0 0 6 0 0
theorem pr_r02_From (m : Nat) (x0 : List Value) : Ev.evBodyD (Es_r02_From ) MtMa (O_r02_From ) m 190 [Ev.dS 1 x0] = Ev.oE E_r02_From (N_r02_From m x0) := by
  simp only [N_r02_From, Ev.oE_some, Ev.oE_none, Ev.oE_cond, Ev.oE_bnd, ← pl_r02_From_7  m]
  kernel_rfl
noncomputable def F_r02_From : (List Value) → Option (T_api_Addr × Int) := fun x0 => Ev.lim fun m => N_r02_From m x0
theorem ok_r02_From : Ev.EnvOk (Ew_r02_From ) := Ev.envOk_with envOkd Ev.SpsOk.nil
theorem ro_r02_From : Ev.SpecRl (Ew_r02_From ) := Ev.specRl_with rfl Ev.SpsRl.nil
theorem g_r02_From : Ev.SpOk Try.prog false 190 (s_r02_From F_r02_From) := by
  refine Ev.SpOk.mkF fun vs k r g0 => ?_
  unfold s_r02_From at g0
  obtain ⟨a0, r0, rfl, g1⟩ := Ev.kU_ok g0
  obtain ⟨rfl, g2⟩ := Ev.kE_ok g1
  obtain ⟨x0, rfl, g3⟩ := Ev.kL_ok g2
  obtain ⟨x, hx, h⟩ := Ev.bnd_get g3
  obtain ⟨m, hm⟩ := Ev.lim_some hx
  have h1 := pr_r02_From  m x0
  rw [hm] at h1
  exact ⟨_, h, Ev.good_of_inl ok_r02_From (ro_r02_From ) rfl rfl Ev.TabOk.nil 40 12 _ h1⟩
-- stockaderef02.Mask
-- DEEP r02_Mask 181 - T_api_Addr → Int → Option (T_api_Addr × Int)
noncomputable def e_r02_Mask (x : T_api_Addr × Int) : Value := .tuple ⟨[v_api_Addr (x.1), .int .i64 (x.2)]⟩
noncomputable def E_r02_Mask (x : T_api_Addr × Int) : Value × Ev.AH := (e_r02_Mask x, ⟨[], 0, []⟩)
noncomputable def s_r02_Mask (F : T_api_Addr → Int → Option (T_api_Addr × Int)) : Ev.Sp := fun vs k => Ev.kU vs fun a0 r0 => Ev.kU r0 fun a1 r1 => Ev.kE r1 <| d_api_Addr a0 fun x0 => Ev.gI .i64 a1 fun x1 => Ev.bnd (F x0 x1) fun x => k (e_r02_Mask x)
theorem rs_r02_Mask (F : T_api_Addr → Int → Option (T_api_Addr × Int)) : Ev.SpRl (s_r02_Mask F) := by
  intro S vs k k2 hk
  unfold s_r02_Mask
  refine Ev.rl_kU fun _ _ => ?_
  refine Ev.rl_kU fun _ _ => ?_
  refine Ev.rl_kE ?_
  refine rl_d_api_Addr fun _ => ?_
  refine Ev.rl_gI fun _ => ?_
  exact Ev.Rl.bnd fun x => hk _
noncomputable def Ew_r02_Mask (F_r02_Right : T_api_Addr → Option Bool) (F_r02_Size : Int → Option Int) (F_r02_Bytes : T_api_Addr → Option (List Value)) (F_r02_From : (List Value) → Option (T_api_Addr × Int)) : Ev.Env := Ev.Env.with Ed [(145, s_r02_Right F_r02_Right), (178, s_r02_Size F_r02_Size), (175, s_r02_Bytes F_r02_Bytes), (190, s_r02_From F_r02_From)]
noncomputable def Es_r02_Mask (F_r02_Right : T_api_Addr → Option Bool) (F_r02_Size : Int → Option Int) (F_r02_Bytes : T_api_Addr → Option (List Value)) (F_r02_From : (List Value) → Option (T_api_Addr × Int)) : Ev.Env := Ev.Env.inl (Ew_r02_Mask F_r02_Right F_r02_Size F_r02_Bytes F_r02_From) MtMa [] 40 12
noncomputable def O_r02_Mask (F_r02_Right : T_api_Addr → Option Bool) (F_r02_Size : Int → Option Int) (F_r02_Bytes : T_api_Addr → Option (List Value)) (F_r02_From : (List Value) → Option (T_api_Addr × Int)) : Ev.Orc := fun _ _ _ => none
noncomputable def L_r02_Mask_8 (F_r02_Right : T_api_Addr → Option Bool) (F_r02_Size : Int → Option Int) (F_r02_Bytes : T_api_Addr → Option (List Value)) (F_r02_From : (List Value) → Option (T_api_Addr × Int)) (m : Nat) (n_5 : Nat) (n_8 : Nat) (w12 : Int) (w13 : Nat) (w14 : Int) (w15 : Int) (w16 : Int) (w17 : Int) (w18 : Int) (w19 : List Value) : Ev.Res := Ev.loopAtD (Es_r02_Mask F_r02_Right F_r02_Size F_r02_Bytes F_r02_From) MtMa (O_r02_Mask F_r02_Right F_r02_Size F_r02_Bytes F_r02_From) m 181 [1, 1, 1, 0, 1, 0, 0, 1, 0, 0, 1, 0] [n_5] n_8 [none, some (Value.int IntKind.i64 w12), none, none, some (Value.pointer (some (Addr.mk 0 0 none))), none, some (Value.iface 1 (Value.agg (Array.mk [Value.chan (some 2), Value.chan (some 1), Value.chan (some w13)]))), some (Value.int IntKind.i64 w14), some (Value.int IntKind.i64 w15), none, none, none, none, none, none, none, none, none, none, none, none, none, none, none, none, none, none, none, none, none, none, none, none, none, none, none, none, none, none, none, none, none, none, none, none, none, none, none, none, none, none, none, none, none, none] ⟨[Ev.Blk.cells [Value.int IntKind.i64 w16, Value.int IntKind.u64 w17, Value.int IntKind.u64 w18], Ev.Blk.bld w19], 0, []⟩
noncomputable def L_r02_Mask_5 (F_r02_Right : T_api_Addr → Option Bool) (F_r02_Size : Int → Option Int) (F_r02_Bytes : T_api_Addr → Option (List Value)) (F_r02_From : (List Value) → Option (T_api_Addr × Int)) (m : Nat)  (n_5 : Nat) (w3 : Int) (w4 : Nat) (w5 : Int) (w6 : Int) (w7 : Int) (w8 : Int) (w9 : List Value) : Ev.Res := Ev.loopAtD (Es_r02_Mask F_r02_Right F_r02_Size F_r02_Bytes F_r02_From) MtMa (O_r02_Mask F_r02_Right F_r02_Size F_r02_Bytes F_r02_From) m 181 [1, 1, 1, 0, 1, 0] [] n_5 [none, some (Value.int IntKind.i64 w3), none, none, some (Value.pointer (some (Addr.mk 0 0 none))), none, some (Value.iface 1 (Value.agg (Array.mk [Value.chan (some 2), Value.chan (some 1), Value.chan (some w4)]))), some (Value.int IntKind.i64 w5), none, none, none, none, none, none, none, none, none, none, none, none, none, none, none, none, none, none, none, none, none, none, none, none, none, none, none, none, none, none, none, none, none, none, none, none, none, none, none, none, none, none, none, none, none, none, none] ⟨[Ev.Blk.cells [Value.int IntKind.i64 w6, Value.int IntKind.u64 w7, Value.int IntKind.u64 w8], Ev.Blk.bld w9], 0, []⟩
theorem lz_r02_Mask_8 (F_r02_Right : T_api_Addr → Option Bool) (F_r02_Size : Int → Option Int) (F_r02_Bytes : T_api_Addr → Option (List Value)) (F_r02_From : (List Value) → Option (T_api_Addr × Int)) (m : Nat) (n_5 : Nat) (w12 : Int) (w13 : Nat) (w14 : Int) (w15 : Int) (w16 : Int) (w17 : Int) (w18 : Int) (w19 : List Value) : L_r02_Mask_8 F_r02_Right F_r02_Size F_r02_Bytes F_r02_From m n_5 0 w12 w13 w14 w15 w16 w17 w18 w19 = none := by kernel_rfl
noncomputable def N_r02_Mask_8 (F_r02_Right : T_api_Addr → Option Bool) (F_r02_Size : Int → Option Int) (F_r02_Bytes : T_api_Addr → Option (List Value)) (F_r02_From : (List Value) → Option (T_api_Addr × Int)) (m : Nat) (K_5 : Int → Nat → Int → Int → Int → Int → (List Value) → Option (T_api_Addr × Int)) : Nat → Int → Nat → Int → Int → Int → Int → Int → (List Value) → Option (T_api_Addr × Int)
  | 0, _, _, _, _, _, _, _, _ => none
  | n_8 + 1, w12, w13, w14, w15, w16, w17, w18, w19 => bif Ev.ltI w15 8 then bif Ev.leI w12 (IntKind.wrap IntKind.i64 (IntKind.wrap IntKind.i64 (w14 * 8) + w15)) then bif true && (decide (0 ≤ w14) && decide (w14 < (↑w13 : Int))) then bif true && Ev.okD [(Ev.Kd.int IntKind.u8, 0)] w19 (Int.toNat w14 * 1) then bif decide (w15 < 0) then none else bif true && (decide (0 ≤ w14) && decide (w14 < (↑w13 : Int))) then bif true && Nat.ble (Int.toNat w14 * 1 + 1) (List.length w19) && true then N_r02_Mask_8 F_r02_Right F_r02_Size F_r02_Bytes F_r02_From m K_5 n_8 w12 w13 w14 (IntKind.wrap IntKind.i64 (w15 + 1)) w16 w17 w18 (List.take (Int.toNat w14 * 1) w19 ++ [Value.int IntKind.u8 (Ev.bitsOp BinOp.and IntKind.u8 (Ev.uI (Ev.nthC w19 (Int.toNat w14 * 1))) (Ev.bitsOp BinOp.xor IntKind.u8 255 (Int.fdiv 128 (2 ^ Min.min (Int.toNat w15) 8))))] ++ List.drop (Int.toNat w14 * 1 + 1) w19) else none else none else none else none else N_r02_Mask_8 F_r02_Right F_r02_Size F_r02_Bytes F_r02_From m K_5 n_8 w12 w13 w14 (IntKind.wrap IntKind.i64 (w15 + 1)) w16 w17 w18 w19 else K_5 w12 w13 (IntKind.wrap IntKind.i64 (w14 + 1)) w16 w17 w18 w19
theorem pl_r02_Mask_8 (F_r02_Right : T_api_Addr → Option Bool) (F_r02_Size : Int → Option Int) (F_r02_Bytes : T_api_Addr → Option (List Value)) (F_r02_From : (List Value) → Option (T_api_Addr × Int)) (m : Nat) (n_5 : Nat) (K_5 : Int → Nat → Int → Int → Int → Int → (List Value) → Option (T_api_Addr × Int)) (h_5 : ∀ (w3 : Int) (w4 : Nat) (w5 : Int) (w6 : Int) (w7 : Int) (w8 : Int) (w9 : List Value), L_r02_Mask_5 F_r02_Right F_r02_Size F_r02_Bytes F_r02_From m n_5 w3 w4 w5 w6 w7 w8 w9 = Ev.oE E_r02_Mask (K_5 w3 w4 w5 w6 w7 w8 w9)) : ∀ (n_8 : Nat) (w12 : Int) (w13 : Nat) (w14 : Int) (w15 : Int) (w16 : Int) (w17 : Int) (w18 : Int) (w19 : List Value), L_r02_Mask_8 F_r02_Right F_r02_Size F_r02_Bytes F_r02_From m n_5 n_8 w12 w13 w14 w15 w16 w17 w18 w19 = Ev.oE E_r02_Mask (N_r02_Mask_8 F_r02_Right F_r02_Size F_r02_Bytes F_r02_From m K_5 n_8 w12 w13 w14 w15 w16 w17 w18 w19) := by
  intro n_8
  induction n_8 with
  | zero => intro w12 w13 w14 w15 w16 w17 w18 w19; rw [lz_r02_Mask_8]; rfl
  | succ n_8 ih =>
    intro w12 w13 w14 w15 w16 w17 w18 w19
    simp only [N_r02_Mask_8, Ev.oE_some, Ev.oE_none, Ev.oE_cond, Ev.oE_bnd, ← ih, ← h_5]
    kernel_rfl
theorem lz_r02_Mask_5 (F_r02_Right : T_api_Addr → Option Bool) (F_r02_Size : Int → Option Int) (F_r02_Bytes : T_api_Addr → Option (List Value)) (F_r02_From : (List Value) → Option (T_api_Addr × Int)) (m : Nat)  (w3 : Int) (w4 : Nat) (w5 : Int) (w6 : Int) (w7 : Int) (w8 : Int) (w9 : List Value) : L_r02_Mask_5 F_r02_Right F_r02_Size F_r02_Bytes F_r02_From m 0 w3 w4 w5 w6 w7 w8 w9 = none := by kernel_rfl
noncomputable def N_r02_Mask_5 (F_r02_Right : T_api_Addr → Option Bool) (F_r02_Size : Int → Option Int) (F_r02_Bytes : T_api_Addr → Option (List Value)) (F_r02_From : (List Value) → Option (T_api_Addr × Int)) (m : Nat)  : Nat → Int → Nat → Int → Int → Int → Int → (List Value) → Option (T_api_Addr × Int)
  | 0, _, _, _, _, _, _, _ => none
  | n_5 + 1, w3, w4, w5, w6, w7, w8, w9 => bif Ev.ltI w5 (↑w4 : Int) then N_r02_Mask_8 F_r02_Right F_r02_Size F_r02_Bytes F_r02_From m (N_r02_Mask_5 F_r02_Right F_r02_Size F_r02_Bytes F_r02_From m n_5) m w3 w4 w5 0 w6 w7 w8 w9 else bif Nat.beq (w4 * 1) (List.length w9) then Ev.bnd (F_r02_From w9) fun v11 => some (v11.fst, v11.snd) else none
theorem pl_r02_Mask_5 (F_r02_Right : T_api_Addr → Option Bool) (F_r02_Size : Int → Option Int) (F_r02_Bytes : T_api_Addr → Option (List Value)) (F_r02_From : (List Value) → Option (T_api_Addr × Int)) (m : Nat)    : ∀ (n_5 : Nat) (w3 : Int) (w4 : Nat) (w5 : Int) (w6 : Int) (w7 : Int) (w8 : Int) (w9 : List Value), L_r02_Mask_5 F_r02_Right F_r02_Size F_r02_Bytes F_r02_From m n_5 w3 w4 w5 w6 w7 w8 w9 = Ev.oE E_r02_Mask (N_r02_Mask_5 F_r02_Right F_r02_Size F_r02_Bytes F_r02_From m n_5 w3 w4 w5 w6 w7 w8 w9) := by
  intro n_5
  induction n_5 with
  | zero => intro w3 w4 w5 w6 w7 w8 w9; rw [lz_r02_Mask_5]; rfl
  | succ n_5 ih =>
    have hb_8 := pl_r02_Mask_8 F_r02_Right F_r02_Size F_r02_Bytes F_r02_From m n_5 (N_r02_Mask_5 F_r02_Right F_r02_Size F_r02_Bytes F_r02_From m n_5) ih
    intro w3 w4 w5 w6 w7 w8 w9
    simp only [N_r02_Mask_5, Ev.oE_some, Ev.oE_none, Ev.oE_cond, Ev.oE_bnd, ← ih, ← hb_8]
    kernel_rfl
noncomputable def N_r02_Mask (F_r02_Right : T_api_Addr → Option Bool) (F_r02_Size : Int → Option Int) (F_r02_Bytes : T_api_Addr → Option (List Value)) (F_r02_From : (List Value) → Option (T_api_Addr × Int)) (m : Nat) (x0 : T_api_Addr) (x1 : Int) : Option (T_api_Addr × Int) := Ev.bnd (F_r02_Right x0) fun v0 => bif !v0 then some (T_api_Addr.mk 0 0 0, 1) else bif Ev.ltI x1 0 then some (T_api_Addr.mk 0 0 0, 1) else Ev.bnd (F_r02_Size x0.Fam) fun v1 => bif Ev.ltI v1 x1 then some (T_api_Addr.mk 0 0 0, 1) else Ev.bnd (F_r02_Bytes x0) fun v2 => N_r02_Mask_5 F_r02_Right F_r02_Size F_r02_Bytes F_r02_From m m x1 (Ev.dlen 1 v2) 0 0 0 0 v2
theorem pr_r02_Mask (F_r02_Right : T_api_Addr → Option Bool) (F_r02_Size : Int → Option Int) (F_r02_Bytes : T_api_Addr → Option (List Value)) (F_r02_From : (List Value) → Option (T_api_Addr × Int)) (m : Nat) (x0 : T_api_Addr) (x1 : Int) : Ev.evBodyD (Es_r02_Mask F_r02_Right F_r02_Size F_r02_Bytes F_r02_From) MtMa (O_r02_Mask F_r02_Right F_r02_Size F_r02_Bytes F_r02_From) m 181 [v_api_Addr x0, .int .i64 x1] = Ev.oE E_r02_Mask (N_r02_Mask F_r02_Right F_r02_Size F_r02_Bytes F_r02_From m x0 x1) := by
  simp only [N_r02_Mask, Ev.oE_some, Ev.oE_none, Ev.oE_cond, Ev.oE_bnd, ← pl_r02_Mask_5 F_r02_Right F_r02_Size F_r02_Bytes F_r02_From m]
  kernel_rfl
noncomputable def F_r02_Mask : T_api_Addr → Int → Option (T_api_Addr × Int) := fun x0 x1 => Ev.lim fun m => N_r02_Mask F_r02_Right F_r02_Size F_r02_Bytes F_r02_From m x0 x1
theorem ok_r02_Mask : Ev.EnvOk (Ew_r02_Mask F_r02_Right F_r02_Size F_r02_Bytes F_r02_From) := Ev.envOk_with envOkd (Ev.SpsOk.add (b := false) g_r02_Right (by kernel_rfl) (Ev.SpsOk.add (b := false) g_r02_Size (by kernel_rfl) (Ev.SpsOk.add (b := true) g_r02_Bytes (by kernel_rfl) (Ev.SpsOk.add (b := false) g_r02_From (by kernel_rfl) Ev.SpsOk.nil))))
theorem ro_r02_Mask (F_r02_Right : T_api_Addr → Option Bool) (F_r02_Size : Int → Option Int) (F_r02_Bytes : T_api_Addr → Option (List Value)) (F_r02_From : (List Value) → Option (T_api_Addr × Int)) : Ev.SpecRl (Ew_r02_Mask F_r02_Right F_r02_Size F_r02_Bytes F_r02_From) := Ev.specRl_with rfl (Ev.SpsRl.cons (rs_r02_Right _) (Ev.SpsRl.cons (rs_r02_Size _) (Ev.SpsRl.cons (rs_r02_Bytes _) (Ev.SpsRl.cons (rs_r02_From _) Ev.SpsRl.nil))))
theorem g_r02_Mask : Ev.SpOk Try.prog false 181 (s_r02_Mask F_r02_Mask) := by
  refine Ev.SpOk.mkF fun vs k r g0 => ?_
  unfold s_r02_Mask at g0
  obtain ⟨a0, r0, rfl, g1⟩ := Ev.kU_ok g0
  obtain ⟨a1, r1, rfl, g2⟩ := Ev.kU_ok g1
  obtain ⟨rfl, g3⟩ := Ev.kE_ok g2
  obtain ⟨x0, rfl, g4⟩ := d_api_Addr_ok g3
  obtain ⟨x1, rfl, g5⟩ := Ev.gI_ok g4
  obtain ⟨x, hx, h⟩ := Ev.bnd_get g5
  obtain ⟨m, hm⟩ := Ev.lim_some hx
  have h1 := pr_r02_Mask F_r02_Right F_r02_Size F_r02_Bytes F_r02_From m x0 x1
  rw [hm] at h1
  exact ⟨_, h, Ev.good_of_inl ok_r02_Mask (ro_r02_Mask F_r02_Right F_r02_Size F_r02_Bytes F_r02_From) rfl rfl Ev.TabOk.nil 40 12 _ h1⟩
-- stockaderef02.RightPrefix
-- DEEP r02_RightPrefix 180 - T_api_Prefix → Option Bool
noncomputable def e_r02_RightPrefix (x : Bool) : Value := .bool x
noncomputable def E_r02_RightPrefix (x : Bool) : Value × Ev.AH := (e_r02_RightPrefix x, ⟨[], 0, []⟩)
noncomputable def s_r02_RightPrefix (F : T_api_Prefix → Option Bool) : Ev.Sp := fun vs k => Ev.kU vs fun a0 r0 => Ev.kE r0 <| d_api_Prefix a0 fun x0 => Ev.bnd (F x0) fun x => k (e_r02_RightPrefix x)
theorem rs_r02_RightPrefix (F : T_api_Prefix → Option Bool) : Ev.SpRl (s_r02_RightPrefix F) := by
  intro S vs k k2 hk
  unfold s_r02_RightPrefix
  refine Ev.rl_kU fun _ _ => ?_
  refine Ev.rl_kE ?_
  refine rl_d_api_Prefix fun _ => ?_
  exact Ev.Rl.bnd fun x => hk _
noncomputable def Ew_r02_RightPrefix (F_r02_Mask : T_api_Addr → Int → Option (T_api_Addr × Int)) : Ev.Env := Ev.Env.with Ed [(181, s_r02_Mask F_r02_Mask)]
noncomputable def Es_r02_RightPrefix (F_r02_Mask : T_api_Addr → Int → Option (T_api_Addr × Int)) : Ev.Env := Ev.Env.inl (Ew_r02_RightPrefix F_r02_Mask) MtMa [] 40 12
noncomputable def O_r02_RightPrefix (F_r02_Mask : T_api_Addr → Int → Option (T_api_Addr × Int)) : Ev.Orc := fun _ _ _ => none
noncomputable def N_r02_RightPrefix (F_r02_Mask : T_api_Addr → Int → Option (T_api_Addr × Int)) (m : Nat) (x0 : T_api_Prefix) : Option Bool := Ev.bnd (F_r02_Mask (T_api_Addr.mk x0.Addr_Fam x0.Addr_Hi x0.Addr_Lo) x0.Bits) fun v0 => bif v0.snd == 0 then some (v0.fst.Fam == x0.Addr_Fam && (v0.fst.Hi == x0.Addr_Hi && (v0.fst.Lo == x0.Addr_Lo && true))) else some false
theorem pr_r02_RightPrefix (F_r02_Mask : T_api_Addr → Int → Option (T_api_Addr × Int)) (m : Nat) (x0 : T_api_Prefix) : Ev.evBodyD (Es_r02_RightPrefix F_r02_Mask) MtMa (O_r02_RightPrefix F_r02_Mask) m 180 [v_api_Prefix x0] = Ev.oE E_r02_RightPrefix (N_r02_RightPrefix F_r02_Mask m x0) := by
  simp only [N_r02_RightPrefix, Ev.oE_some, Ev.oE_none, Ev.oE_cond, Ev.oE_bnd]
  kernel_rfl
noncomputable def F_r02_RightPrefix : T_api_Prefix → Option Bool := fun x0 => N_r02_RightPrefix F_r02_Mask 0 x0
theorem ok_r02_RightPrefix : Ev.EnvOk (Ew_r02_RightPrefix F_r02_Mask) := Ev.envOk_with envOkd (Ev.SpsOk.add (b := false) g_r02_Mask (by kernel_rfl) Ev.SpsOk.nil)
theorem ro_r02_RightPrefix (F_r02_Mask : T_api_Addr → Int → Option (T_api_Addr × Int)) : Ev.SpecRl (Ew_r02_RightPrefix F_r02_Mask) := Ev.specRl_with rfl (Ev.SpsRl.cons (rs_r02_Mask _) Ev.SpsRl.nil)
theorem g_r02_RightPrefix : Ev.SpOk Try.prog false 180 (s_r02_RightPrefix F_r02_RightPrefix) := by
  refine Ev.SpOk.mkF fun vs k r g0 => ?_
  unfold s_r02_RightPrefix at g0
  obtain ⟨a0, r0, rfl, g1⟩ := Ev.kU_ok g0
  obtain ⟨rfl, g2⟩ := Ev.kE_ok g1
  obtain ⟨x0, rfl, g3⟩ := d_api_Prefix_ok g2
  obtain ⟨x, hx, h⟩ := Ev.bnd_get g3
  have h1 := pr_r02_RightPrefix F_r02_Mask 0 x0
  rw [show N_r02_RightPrefix F_r02_Mask 0 x0 = some x from hx] at h1
  exact ⟨_, h, Ev.good_of_inl ok_r02_RightPrefix (ro_r02_RightPrefix F_r02_Mask) rfl rfl Ev.TabOk.nil 40 12 _ h1⟩
-- stockaderef02.Has
-- DEEP r02_Has 162 - T_api_Prefix → T_api_Addr → Option Bool
noncomputable def e_r02_Has (x : Bool) : Value := .bool x
noncomputable def E_r02_Has (x : Bool) : Value × Ev.AH := (e_r02_Has x, ⟨[], 0, []⟩)
noncomputable def s_r02_Has (F : T_api_Prefix → T_api_Addr → Option Bool) : Ev.Sp := fun vs k => Ev.kU vs fun a0 r0 => Ev.kU r0 fun a1 r1 => Ev.kE r1 <| d_api_Prefix a0 fun x0 => d_api_Addr a1 fun x1 => Ev.bnd (F x0 x1) fun x => k (e_r02_Has x)
theorem rs_r02_Has (F : T_api_Prefix → T_api_Addr → Option Bool) : Ev.SpRl (s_r02_Has F) := by
  intro S vs k k2 hk
  unfold s_r02_Has
  refine Ev.rl_kU fun _ _ => ?_
  refine Ev.rl_kU fun _ _ => ?_
  refine Ev.rl_kE ?_
  refine rl_d_api_Prefix fun _ => ?_
  refine rl_d_api_Addr fun _ => ?_
  exact Ev.Rl.bnd fun x => hk _
noncomputable def Ew_r02_Has (F_r02_RightPrefix : T_api_Prefix → Option Bool) (F_r02_Right : T_api_Addr → Option Bool) (F_r02_Mask : T_api_Addr → Int → Option (T_api_Addr × Int)) : Ev.Env := Ev.Env.with Ed [(180, s_r02_RightPrefix F_r02_RightPrefix), (145, s_r02_Right F_r02_Right), (181, s_r02_Mask F_r02_Mask)]
noncomputable def Es_r02_Has (F_r02_RightPrefix : T_api_Prefix → Option Bool) (F_r02_Right : T_api_Addr → Option Bool) (F_r02_Mask : T_api_Addr → Int → Option (T_api_Addr × Int)) : Ev.Env := Ev.Env.inl (Ew_r02_Has F_r02_RightPrefix F_r02_Right F_r02_Mask) MtMa [] 40 12
noncomputable def O_r02_Has (F_r02_RightPrefix : T_api_Prefix → Option Bool) (F_r02_Right : T_api_Addr → Option Bool) (F_r02_Mask : T_api_Addr → Int → Option (T_api_Addr × Int)) : Ev.Orc := fun _ _ _ => none
noncomputable def N_r02_Has (F_r02_RightPrefix : T_api_Prefix → Option Bool) (F_r02_Right : T_api_Addr → Option Bool) (F_r02_Mask : T_api_Addr → Int → Option (T_api_Addr × Int)) (m : Nat) (x0 : T_api_Prefix) (x1 : T_api_Addr) : Option Bool := Ev.bnd (F_r02_RightPrefix x0) fun v0 => bif !v0 then some false else Ev.bnd (F_r02_Right x1) fun v1 => bif !v1 then some false else bif x1.Fam != x0.Addr_Fam then some false else Ev.bnd (F_r02_Mask x1 x0.Bits) fun v2 => some (v2.fst.Fam == x0.Addr_Fam && (v2.fst.Hi == x0.Addr_Hi && (v2.fst.Lo == x0.Addr_Lo && true)))
theorem pr_r02_Has (F_r02_RightPrefix : T_api_Prefix → Option Bool) (F_r02_Right : T_api_Addr → Option Bool) (F_r02_Mask : T_api_Addr → Int → Option (T_api_Addr × Int)) (m : Nat) (x0 : T_api_Prefix) (x1 : T_api_Addr) : Ev.evBodyD (Es_r02_Has F_r02_RightPrefix F_r02_Right F_r02_Mask) MtMa (O_r02_Has F_r02_RightPrefix F_r02_Right F_r02_Mask) m 162 [v_api_Prefix x0, v_api_Addr x1] = Ev.oE E_r02_Has (N_r02_Has F_r02_RightPrefix F_r02_Right F_r02_Mask m x0 x1) := by
  simp only [N_r02_Has, Ev.oE_some, Ev.oE_none, Ev.oE_cond, Ev.oE_bnd]
  kernel_rfl
noncomputable def F_r02_Has : T_api_Prefix → T_api_Addr → Option Bool := fun x0 x1 => N_r02_Has F_r02_RightPrefix F_r02_Right F_r02_Mask 0 x0 x1
theorem ok_r02_Has : Ev.EnvOk (Ew_r02_Has F_r02_RightPrefix F_r02_Right F_r02_Mask) := Ev.envOk_with envOkd (Ev.SpsOk.add (b := false) g_r02_RightPrefix (by kernel_rfl) (Ev.SpsOk.add (b := false) g_r02_Right (by kernel_rfl) (Ev.SpsOk.add (b := false) g_r02_Mask (by kernel_rfl) Ev.SpsOk.nil)))
theorem ro_r02_Has (F_r02_RightPrefix : T_api_Prefix → Option Bool) (F_r02_Right : T_api_Addr → Option Bool) (F_r02_Mask : T_api_Addr → Int → Option (T_api_Addr × Int)) : Ev.SpecRl (Ew_r02_Has F_r02_RightPrefix F_r02_Right F_r02_Mask) := Ev.specRl_with rfl (Ev.SpsRl.cons (rs_r02_RightPrefix _) (Ev.SpsRl.cons (rs_r02_Right _) (Ev.SpsRl.cons (rs_r02_Mask _) Ev.SpsRl.nil)))
theorem g_r02_Has : Ev.SpOk Try.prog false 162 (s_r02_Has F_r02_Has) := by
  refine Ev.SpOk.mkF fun vs k r g0 => ?_
  unfold s_r02_Has at g0
  obtain ⟨a0, r0, rfl, g1⟩ := Ev.kU_ok g0
  obtain ⟨a1, r1, rfl, g2⟩ := Ev.kU_ok g1
  obtain ⟨rfl, g3⟩ := Ev.kE_ok g2
  obtain ⟨x0, rfl, g4⟩ := d_api_Prefix_ok g3
  obtain ⟨x1, rfl, g5⟩ := d_api_Addr_ok g4
  obtain ⟨x, hx, h⟩ := Ev.bnd_get g5
  have h1 := pr_r02_Has F_r02_RightPrefix F_r02_Right F_r02_Mask 0 x0 x1
  rw [show N_r02_Has F_r02_RightPrefix F_r02_Right F_r02_Mask 0 x0 x1 = some x from hx] at h1
  exact ⟨_, h, Ev.good_of_inl ok_r02_Has (ro_r02_Has F_r02_RightPrefix F_r02_Right F_r02_Mask) rfl rfl Ev.TabOk.nil 40 12 _ h1⟩
end Go.Proofs.Yteljeekapcenlaa
