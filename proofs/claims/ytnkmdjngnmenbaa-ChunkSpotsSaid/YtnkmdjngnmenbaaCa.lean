/-
  Functions of the seat's program, printed by a program of ours: what each comes to, and that it is so. No conditions.
-/
import Derived.Test.YtnkmdjngnmenbaaEnv
namespace Go.Proofs.Ytnkmdjngnmenbaa
open Go
set_option linter.unusedVariables false
set_option linter.unusedSimpArgs false
@[ext] structure T_api_Addr where
  Fam : Int
  Hi : Int
  Lo : Int
noncomputable def c_api_Addr (x : T_api_Addr) : List Value := [.int .i64 x.Fam, .int .u64 x.Hi, .int .u64 x.Lo]
noncomputable def v_api_Addr (x : T_api_Addr) : Value := .agg ⟨[.int .i64 x.Fam, .int .u64 x.Hi, .int .u64 x.Lo]⟩
noncomputable def u_api_Addr (v : Value) : T_api_Addr := match v with | .agg ⟨[a0, a1, a2]⟩ => ⟨Ev.uI a0, Ev.uI a1, Ev.uI a2⟩ | _ => ⟨0, 0, 0⟩
noncomputable def d_api_Addr (v : Value) (c : T_api_Addr → Ev.Res) : Ev.Res := match v with | .agg ⟨[a0, a1, a2]⟩ => Ev.gI .i64 a0 fun b0 => Ev.gI .u64 a1 fun b1 => Ev.gI .u64 a2 fun b2 => c ⟨b0, b1, b2⟩ | _ => none
theorem d_api_Addr_ok {v : Value} {c : T_api_Addr → Ev.Res} {r : Value × Ev.AH} (h : d_api_Addr v c = some r) : ∃ x, v = v_api_Addr x ∧ c x = some r := by
  unfold d_api_Addr at h
  split at h
  · obtain ⟨b0, rfl, h0⟩ := Ev.gI_ok h
    obtain ⟨b1, rfl, h1⟩ := Ev.gI_ok h0
    obtain ⟨b2, rfl, h2⟩ := Ev.gI_ok h1
    exact ⟨⟨b0, b1, b2⟩, rfl, h2⟩
  · cases h
@[ext] structure T_api_Key where
  From : Int
  To : Int
  Src_Fam : Int
  Src_Hi : Int
  Src_Lo : Int
  Dst_Fam : Int
  Dst_Hi : Int
  Dst_Lo : Int
  Proto : Int
  Sport : Int
  Dport : Int
noncomputable def c_api_Key (x : T_api_Key) : List Value := [.int .i64 x.From, .int .i64 x.To, .int .i64 x.Src_Fam, .int .u64 x.Src_Hi, .int .u64 x.Src_Lo, .int .i64 x.Dst_Fam, .int .u64 x.Dst_Hi, .int .u64 x.Dst_Lo, .int .i64 x.Proto, .int .i64 x.Sport, .int .i64 x.Dport]
noncomputable def v_api_Key (x : T_api_Key) : Value := .agg ⟨[.int .i64 x.From, .int .i64 x.To, .int .i64 x.Src_Fam, .int .u64 x.Src_Hi, .int .u64 x.Src_Lo, .int .i64 x.Dst_Fam, .int .u64 x.Dst_Hi, .int .u64 x.Dst_Lo, .int .i64 x.Proto, .int .i64 x.Sport, .int .i64 x.Dport]⟩
noncomputable def u_api_Key (v : Value) : T_api_Key := match v with | .agg ⟨[a0, a1, a2, a3, a4, a5, a6, a7, a8, a9, a10]⟩ => ⟨Ev.uI a0, Ev.uI a1, Ev.uI a2, Ev.uI a3, Ev.uI a4, Ev.uI a5, Ev.uI a6, Ev.uI a7, Ev.uI a8, Ev.uI a9, Ev.uI a10⟩ | _ => ⟨0, 0, 0, 0, 0, 0, 0, 0, 0, 0, 0⟩
noncomputable def d_api_Key (v : Value) (c : T_api_Key → Ev.Res) : Ev.Res := match v with | .agg ⟨[a0, a1, a2, a3, a4, a5, a6, a7, a8, a9, a10]⟩ => Ev.gI .i64 a0 fun b0 => Ev.gI .i64 a1 fun b1 => Ev.gI .i64 a2 fun b2 => Ev.gI .u64 a3 fun b3 => Ev.gI .u64 a4 fun b4 => Ev.gI .i64 a5 fun b5 => Ev.gI .u64 a6 fun b6 => Ev.gI .u64 a7 fun b7 => Ev.gI .i64 a8 fun b8 => Ev.gI .i64 a9 fun b9 => Ev.gI .i64 a10 fun b10 => c ⟨b0, b1, b2, b3, b4, b5, b6, b7, b8, b9, b10⟩ | _ => none
theorem d_api_Key_ok {v : Value} {c : T_api_Key → Ev.Res} {r : Value × Ev.AH} (h : d_api_Key v c = some r) : ∃ x, v = v_api_Key x ∧ c x = some r := by
  unfold d_api_Key at h
  split at h
  · obtain ⟨b0, rfl, h0⟩ := Ev.gI_ok h
    obtain ⟨b1, rfl, h1⟩ := Ev.gI_ok h0
    obtain ⟨b2, rfl, h2⟩ := Ev.gI_ok h1
    obtain ⟨b3, rfl, h3⟩ := Ev.gI_ok h2
    obtain ⟨b4, rfl, h4⟩ := Ev.gI_ok h3
    obtain ⟨b5, rfl, h5⟩ := Ev.gI_ok h4
    obtain ⟨b6, rfl, h6⟩ := Ev.gI_ok h5
    obtain ⟨b7, rfl, h7⟩ := Ev.gI_ok h6
    obtain ⟨b8, rfl, h8⟩ := Ev.gI_ok h7
    obtain ⟨b9, rfl, h9⟩ := Ev.gI_ok h8
    obtain ⟨b10, rfl, h10⟩ := Ev.gI_ok h9
    exact ⟨⟨b0, b1, b2, b3, b4, b5, b6, b7, b8, b9, b10⟩, rfl, h10⟩
  · cases h
@[ext] structure T_api_Point where
  A : Int
  B : Int
  C : Int
noncomputable def c_api_Point (x : T_api_Point) : List Value := [.int .u64 x.A, .int .u64 x.B, .int .u64 x.C]
noncomputable def v_api_Point (x : T_api_Point) : Value := .agg ⟨[.int .u64 x.A, .int .u64 x.B, .int .u64 x.C]⟩
noncomputable def u_api_Point (v : Value) : T_api_Point := match v with | .agg ⟨[a0, a1, a2]⟩ => ⟨Ev.uI a0, Ev.uI a1, Ev.uI a2⟩ | _ => ⟨0, 0, 0⟩
noncomputable def d_api_Point (v : Value) (c : T_api_Point → Ev.Res) : Ev.Res := match v with | .agg ⟨[a0, a1, a2]⟩ => Ev.gI .u64 a0 fun b0 => Ev.gI .u64 a1 fun b1 => Ev.gI .u64 a2 fun b2 => c ⟨b0, b1, b2⟩ | _ => none
theorem d_api_Point_ok {v : Value} {c : T_api_Point → Ev.Res} {r : Value × Ev.AH} (h : d_api_Point v c = some r) : ∃ x, v = v_api_Point x ∧ c x = some r := by
  unfold d_api_Point at h
  split at h
  · obtain ⟨b0, rfl, h0⟩ := Ev.gI_ok h
    obtain ⟨b1, rfl, h1⟩ := Ev.gI_ok h0
    obtain ⟨b2, rfl, h2⟩ := Ev.gI_ok h1
    exact ⟨⟨b0, b1, b2⟩, rfl, h2⟩
  · cases h
theorem rl_d_api_Addr {S : (Value × Ev.AH) → Ev.Res → Prop} {v : Value} {c c2 : T_api_Addr → Ev.Res} (h : ∀ a, Ev.Rl S (c a) (c2 a)) : Ev.Rl S (d_api_Addr v c) (d_api_Addr v c2) := by
  unfold d_api_Addr
  split
  · refine Ev.rl_gI fun _ => ?_
    refine Ev.rl_gI fun _ => ?_
    refine Ev.rl_gI fun _ => ?_
    exact h _
  · exact Ev.Rl.none
theorem rl_d_api_Key {S : (Value × Ev.AH) → Ev.Res → Prop} {v : Value} {c c2 : T_api_Key → Ev.Res} (h : ∀ a, Ev.Rl S (c a) (c2 a)) : Ev.Rl S (d_api_Key v c) (d_api_Key v c2) := by
  unfold d_api_Key
  split
  · refine Ev.rl_gI fun _ => ?_
    refine Ev.rl_gI fun _ => ?_
    refine Ev.rl_gI fun _ => ?_
    refine Ev.rl_gI fun _ => ?_
    refine Ev.rl_gI fun _ => ?_
    refine Ev.rl_gI fun _ => ?_
    refine Ev.rl_gI fun _ => ?_
    refine Ev.rl_gI fun _ => ?_
    refine Ev.rl_gI fun _ => ?_
    refine Ev.rl_gI fun _ => ?_
    refine Ev.rl_gI fun _ => ?_
    exact h _
  · exact Ev.Rl.none
theorem rl_d_api_Point {S : (Value × Ev.AH) → Ev.Res → Prop} {v : Value} {c c2 : T_api_Point → Ev.Res} (h : ∀ a, Ev.Rl S (c a) (c2 a)) : Ev.Rl S (d_api_Point v c) (d_api_Point v c2) := by
  unfold d_api_Point
  split
  · refine Ev.rl_gI fun _ => ?_
    refine Ev.rl_gI fun _ => ?_
    refine Ev.rl_gI fun _ => ?_
    exact h _
  · exact Ev.Rl.none
noncomputable def MtCa : Ev.Mats := { slots := fun f i => [], cells := fun f i => [], own := fun f => false }
-- addr.Right
-- DEEP addr_Right 56 - T_api_Addr → Option Bool
noncomputable def e_addr_Right (x : Bool) : Value := .bool x
noncomputable def E_addr_Right (x : Bool) : Value × Ev.AH := (e_addr_Right x, ⟨[], 0, []⟩)
noncomputable def s_addr_Right (F : T_api_Addr → Option Bool) : Ev.Sp := fun vs k => Ev.kU vs fun a0 r0 => Ev.kE r0 <| d_api_Addr a0 fun x0 => Ev.bnd (F x0) fun x => k (e_addr_Right x)
theorem rs_addr_Right (F : T_api_Addr → Option Bool) : Ev.SpRl (s_addr_Right F) := by
  intro S vs k k2 hk
  unfold s_addr_Right
  refine Ev.rl_kU fun _ _ => ?_
  refine Ev.rl_kE ?_
  refine rl_d_api_Addr fun _ => ?_
  exact Ev.Rl.bnd fun x => hk _
noncomputable def Ew_addr_Right : Ev.Env := Ev.Env.with Ed []
noncomputable def Es_addr_Right : Ev.Env := Ev.Env.inl (Ew_addr_Right ) MtCa [] 40 12
noncomputable def O_addr_Right : Ev.Orc := fun _ _ _ => none
theorem run_addr_Right (m : Nat) (x0 : T_api_Addr) : Ev.evBodyD (Es_addr_Right ) MtCa (O_addr_Right ) m 56 [v_api_Addr x0] = bif T_api_Addr.Fam x0 == 4 then bif T_api_Addr.Hi x0 == 0 then Ev.ret2 (E_addr_Right (Int.fdiv (T_api_Addr.Lo x0) 4294967296 == 0)) else Ev.ret2 (E_addr_Right false) else bif T_api_Addr.Fam x0 == 6 then Ev.ret2 (E_addr_Right true) else Ev.ret2 (E_addr_Right false) := by kernel_rfl
noncomputable def N_addr_Right (m : Nat) (x0 : T_api_Addr) : Option Bool := bif T_api_Addr.Fam x0 == 4 then bif T_api_Addr.Hi x0 == 0 then some (Int.fdiv (T_api_Addr.Lo x0) 4294967296 == 0) else some false else bif T_api_Addr.Fam x0 == 6 then some true else some false
theorem pr_addr_Right (m : Nat) (x0 : T_api_Addr) : Ev.evBodyD (Es_addr_Right ) MtCa (O_addr_Right ) m 56 [v_api_Addr x0] = Ev.oE E_addr_Right (N_addr_Right m x0) := by
  rw [run_addr_Right m x0]
  simp only [N_addr_Right, Ev.oE_some, Ev.oE_none, Ev.oE_cond, Ev.oE_bnd]
noncomputable def F_addr_Right : T_api_Addr → Option Bool := fun x0 => N_addr_Right 0 x0
theorem ok_addr_Right : Ev.EnvOk (Ew_addr_Right ) := Ev.envOk_with envOkd Ev.SpsOk.nil
theorem ro_addr_Right : Ev.SpecRl (Ew_addr_Right ) := Ev.specRl_with rfl Ev.SpsRl.nil
theorem g_addr_Right : Ev.SpOk Try.prog false 56 (s_addr_Right F_addr_Right) := by
  refine Ev.SpOk.mkF fun vs k r g0 => ?_
  unfold s_addr_Right at g0
  obtain ⟨a0, r0, rfl, g1⟩ := Ev.kU_ok g0
  obtain ⟨rfl, g2⟩ := Ev.kE_ok g1
  obtain ⟨x0, rfl, g3⟩ := d_api_Addr_ok g2
  obtain ⟨x, hx, h⟩ := Ev.bnd_get g3
  have h1 := pr_addr_Right  0 x0
  rw [show N_addr_Right  0 x0 = some x from hx] at h1
  exact ⟨_, h, Ev.good_of_inl ok_addr_Right (ro_addr_Right ) rfl rfl Ev.TabOk.nil 40 12 _ h1⟩
-- first.within$1
-- DEEP first_within_1 119 - Int → Int → Int → Option Bool
noncomputable def e_first_within_1 (x : Bool) : Value := .bool x
noncomputable def E_first_within_1 (x : Bool) : Value × Ev.AH := (e_first_within_1 x, ⟨[], 0, []⟩)
noncomputable def s_first_within_1 (F : Int → Int → Int → Option Bool) : Ev.Sp := fun vs k => Ev.kU vs fun a0 r0 => Ev.kU r0 fun a1 r1 => Ev.kU r1 fun a2 r2 => Ev.kE r2 <| Ev.gI .i64 a0 fun x0 => Ev.kP a1 fun c0 => Ev.kU c0 fun u1 q1 => Ev.kE q1 <| Ev.gI .i64 u1 fun y0 => Ev.kP a2 fun c2 => Ev.kU c2 fun u3 q3 => Ev.kE q3 <| Ev.gI .i64 u3 fun y1 => Ev.bnd (F x0 y0 y1) fun x => k (e_first_within_1 x)
theorem rs_first_within_1 (F : Int → Int → Int → Option Bool) : Ev.SpRl (s_first_within_1 F) := by
  intro S vs k k2 hk
  unfold s_first_within_1
  refine Ev.rl_kU fun _ _ => ?_
  refine Ev.rl_kU fun _ _ => ?_
  refine Ev.rl_kU fun _ _ => ?_
  refine Ev.rl_kE ?_
  refine Ev.rl_gI fun _ => ?_
  refine Ev.rl_kP fun _ => ?_
  refine Ev.rl_kU fun _ _ => ?_
  refine Ev.rl_kE ?_
  refine Ev.rl_gI fun _ => ?_
  refine Ev.rl_kP fun _ => ?_
  refine Ev.rl_kU fun _ _ => ?_
  refine Ev.rl_kE ?_
  refine Ev.rl_gI fun _ => ?_
  exact Ev.Rl.bnd fun x => hk _
noncomputable def Ew_first_within_1 : Ev.Env := Ev.Env.with Ed []
noncomputable def Es_first_within_1 : Ev.Env := Ev.Env.inl (Ew_first_within_1 ) MtCa [] 40 12
noncomputable def O_first_within_1 : Ev.Orc := fun _ _ _ => none
theorem run_first_within_1 (m : Nat) (x0 : Int) (y0 : Int) (y1 : Int) : Ev.evBodyD (Es_first_within_1 ) MtCa (O_first_within_1 ) m 119 [.int .i64 x0, Ev.dP 0 [.int .i64 y0], Ev.dP 0 [.int .i64 y1]] = bif Ev.ltI x0 y0 then Ev.ret2 (E_first_within_1 true) else Ev.ret2 (E_first_within_1 (Ev.ltI y1 x0)) := by kernel_rfl
noncomputable def N_first_within_1 (m : Nat) (x0 : Int) (y0 : Int) (y1 : Int) : Option Bool := bif Ev.ltI x0 y0 then some true else some (Ev.ltI y1 x0)
theorem pr_first_within_1 (m : Nat) (x0 : Int) (y0 : Int) (y1 : Int) : Ev.evBodyD (Es_first_within_1 ) MtCa (O_first_within_1 ) m 119 [.int .i64 x0, Ev.dP 0 [.int .i64 y0], Ev.dP 0 [.int .i64 y1]] = Ev.oE E_first_within_1 (N_first_within_1 m x0 y0 y1) := by
  rw [run_first_within_1 m x0 y0 y1]
  simp only [N_first_within_1, Ev.oE_some, Ev.oE_none, Ev.oE_cond, Ev.oE_bnd]
noncomputable def F_first_within_1 : Int → Int → Int → Option Bool := fun x0 y0 y1 => N_first_within_1 0 x0 y0 y1
theorem ok_first_within_1 : Ev.EnvOk (Ew_first_within_1 ) := Ev.envOk_with envOkd Ev.SpsOk.nil
theorem ro_first_within_1 : Ev.SpecRl (Ew_first_within_1 ) := Ev.specRl_with rfl Ev.SpsRl.nil
theorem g_first_within_1 : Ev.SpOk Try.prog false 119 (s_first_within_1 F_first_within_1) := by
  refine Ev.SpOk.mkF fun vs k r g0 => ?_
  unfold s_first_within_1 at g0
  obtain ⟨a0, r0, rfl, g1⟩ := Ev.kU_ok g0
  obtain ⟨a1, r1, rfl, g2⟩ := Ev.kU_ok g1
  obtain ⟨a2, r2, rfl, g3⟩ := Ev.kU_ok g2
  obtain ⟨rfl, g4⟩ := Ev.kE_ok g3
  obtain ⟨x0, rfl, g5⟩ := Ev.gI_ok g4
  obtain ⟨c0, rfl, g6⟩ := Ev.kP_ok g5
  obtain ⟨u1, q1, rfl, g7⟩ := Ev.kU_ok g6
  obtain ⟨rfl, g8⟩ := Ev.kE_ok g7
  obtain ⟨y0, rfl, g9⟩ := Ev.gI_ok g8
  obtain ⟨c2, rfl, g10⟩ := Ev.kP_ok g9
  obtain ⟨u3, q3, rfl, g11⟩ := Ev.kU_ok g10
  obtain ⟨rfl, g12⟩ := Ev.kE_ok g11
  obtain ⟨y1, rfl, g13⟩ := Ev.gI_ok g12
  obtain ⟨x, hx, h⟩ := Ev.bnd_get g13
  have h1 := pr_first_within_1  0 x0 y0 y1
  rw [show N_first_within_1  0 x0 y0 y1 = some x from hx] at h1
  exact ⟨_, h, Ev.good_of_inl ok_first_within_1 (ro_first_within_1 ) rfl rfl Ev.TabOk.nil 40 12 _ h1⟩
-- first.RightKey
-- DEEP first_RightKey 22 - T_api_Key → Option Bool
noncomputable def e_first_RightKey (x : Bool) : Value := .bool x
noncomputable def E_first_RightKey (x : Bool) : Value × Ev.AH := (e_first_RightKey x, ⟨[], 0, []⟩)
noncomputable def s_first_RightKey (F : T_api_Key → Option Bool) : Ev.Sp := fun vs k => Ev.kU vs fun a0 r0 => Ev.kE r0 <| d_api_Key a0 fun x0 => Ev.bnd (F x0) fun x => k (e_first_RightKey x)
theorem rs_first_RightKey (F : T_api_Key → Option Bool) : Ev.SpRl (s_first_RightKey F) := by
  intro S vs k k2 hk
  unfold s_first_RightKey
  refine Ev.rl_kU fun _ _ => ?_
  refine Ev.rl_kE ?_
  refine rl_d_api_Key fun _ => ?_
  exact Ev.Rl.bnd fun x => hk _
noncomputable def Ew_first_RightKey (F_first_within_1 : Int → Int → Int → Option Bool) (F_addr_Right : T_api_Addr → Option Bool) : Ev.Env := Ev.Env.with Ed [(119, s_first_within_1 F_first_within_1), (56, s_addr_Right F_addr_Right)]
noncomputable def Es_first_RightKey (F_first_within_1 : Int → Int → Int → Option Bool) (F_addr_Right : T_api_Addr → Option Bool) : Ev.Env := Ev.Env.inl (Ew_first_RightKey F_first_within_1 F_addr_Right) MtCa [] 40 12
noncomputable def O_first_RightKey (F_first_within_1 : Int → Int → Int → Option Bool) (F_addr_Right : T_api_Addr → Option Bool) : Ev.Orc := fun _ _ _ => none
theorem run_first_RightKey (F_first_within_1 : Int → Int → Int → Option Bool) (F_addr_Right : T_api_Addr → Option Bool) (m : Nat) (x0 : T_api_Key) : Ev.evBodyD (Es_first_RightKey F_first_within_1 F_addr_Right) MtCa (O_first_RightKey F_first_within_1 F_addr_Right) m 22 [v_api_Key x0] = Ev.bnd (F_first_within_1 (T_api_Key.From x0) 0 15) fun v0 => bif v0 then Ev.ret2 (E_first_RightKey false) else Ev.bnd (F_first_within_1 (T_api_Key.To x0) 0 15) fun v1 => bif v1 then Ev.ret2 (E_first_RightKey false) else Ev.bnd (F_first_within_1 (T_api_Key.Proto x0) 0 255) fun v2 => bif v2 then Ev.ret2 (E_first_RightKey false) else Ev.bnd (F_first_within_1 (T_api_Key.Sport x0) 0 65535) fun v3 => bif v3 then Ev.ret2 (E_first_RightKey false) else Ev.bnd (F_first_within_1 (T_api_Key.Dport x0) 0 65535) fun v4 => bif v4 then Ev.ret2 (E_first_RightKey false) else Ev.bnd (F_addr_Right { Fam := T_api_Key.Src_Fam x0, Hi := T_api_Key.Src_Hi x0, Lo := T_api_Key.Src_Lo x0 }) fun v5 => bif v5 then Ev.bnd (F_addr_Right { Fam := T_api_Key.Dst_Fam x0, Hi := T_api_Key.Dst_Hi x0, Lo := T_api_Key.Dst_Lo x0 }) fun v6 => bif v6 then Ev.ret2 (E_first_RightKey (T_api_Key.Src_Fam x0 == T_api_Key.Dst_Fam x0)) else Ev.ret2 (E_first_RightKey false) else Ev.ret2 (E_first_RightKey false) := by kernel_rfl
noncomputable def N_first_RightKey (F_first_within_1 : Int → Int → Int → Option Bool) (F_addr_Right : T_api_Addr → Option Bool) (m : Nat) (x0 : T_api_Key) : Option Bool := Ev.bnd (F_first_within_1 (T_api_Key.From x0) 0 15) fun v0 => bif v0 then some false else Ev.bnd (F_first_within_1 (T_api_Key.To x0) 0 15) fun v1 => bif v1 then some false else Ev.bnd (F_first_within_1 (T_api_Key.Proto x0) 0 255) fun v2 => bif v2 then some false else Ev.bnd (F_first_within_1 (T_api_Key.Sport x0) 0 65535) fun v3 => bif v3 then some false else Ev.bnd (F_first_within_1 (T_api_Key.Dport x0) 0 65535) fun v4 => bif v4 then some false else Ev.bnd (F_addr_Right { Fam := T_api_Key.Src_Fam x0, Hi := T_api_Key.Src_Hi x0, Lo := T_api_Key.Src_Lo x0 }) fun v5 => bif v5 then Ev.bnd (F_addr_Right { Fam := T_api_Key.Dst_Fam x0, Hi := T_api_Key.Dst_Hi x0, Lo := T_api_Key.Dst_Lo x0 }) fun v6 => bif v6 then some (T_api_Key.Src_Fam x0 == T_api_Key.Dst_Fam x0) else some false else some false
theorem pr_first_RightKey (F_first_within_1 : Int → Int → Int → Option Bool) (F_addr_Right : T_api_Addr → Option Bool) (m : Nat) (x0 : T_api_Key) : Ev.evBodyD (Es_first_RightKey F_first_within_1 F_addr_Right) MtCa (O_first_RightKey F_first_within_1 F_addr_Right) m 22 [v_api_Key x0] = Ev.oE E_first_RightKey (N_first_RightKey F_first_within_1 F_addr_Right m x0) := by
  rw [run_first_RightKey F_first_within_1 F_addr_Right m x0]
  simp only [N_first_RightKey, Ev.oE_some, Ev.oE_none, Ev.oE_cond, Ev.oE_bnd]
noncomputable def F_first_RightKey : T_api_Key → Option Bool := fun x0 => N_first_RightKey F_first_within_1 F_addr_Right 0 x0
theorem ok_first_RightKey : Ev.EnvOk (Ew_first_RightKey F_first_within_1 F_addr_Right) := Ev.envOk_with envOkd (Ev.SpsOk.add (b := false) g_first_within_1 (by kernel_rfl) (Ev.SpsOk.add (b := false) g_addr_Right (by kernel_rfl) Ev.SpsOk.nil))
theorem ro_first_RightKey (F_first_within_1 : Int → Int → Int → Option Bool) (F_addr_Right : T_api_Addr → Option Bool) : Ev.SpecRl (Ew_first_RightKey F_first_within_1 F_addr_Right) := Ev.specRl_with rfl (Ev.SpsRl.cons (rs_first_within_1 _) (Ev.SpsRl.cons (rs_addr_Right _) Ev.SpsRl.nil))
theorem g_first_RightKey : Ev.SpOk Try.prog false 22 (s_first_RightKey F_first_RightKey) := by
  refine Ev.SpOk.mkF fun vs k r g0 => ?_
  unfold s_first_RightKey at g0
  obtain ⟨a0, r0, rfl, g1⟩ := Ev.kU_ok g0
  obtain ⟨rfl, g2⟩ := Ev.kE_ok g1
  obtain ⟨x0, rfl, g3⟩ := d_api_Key_ok g2
  obtain ⟨x, hx, h⟩ := Ev.bnd_get g3
  have h1 := pr_first_RightKey F_first_within_1 F_addr_Right 0 x0
  rw [show N_first_RightKey F_first_within_1 F_addr_Right 0 x0 = some x from hx] at h1
  exact ⟨_, h, Ev.good_of_inl ok_first_RightKey (ro_first_RightKey F_first_within_1 F_addr_Right) rfl rfl Ev.TabOk.nil 40 12 _ h1⟩
-- chunk.number
-- DEEP chunk_number 98 - Int → Option T_api_Point
noncomputable def e_chunk_number (x : T_api_Point) : Value := v_api_Point x
noncomputable def E_chunk_number (x : T_api_Point) : Value × Ev.AH := (e_chunk_number x, ⟨[], 0, []⟩)
noncomputable def s_chunk_number (F : Int → Option T_api_Point) : Ev.Sp := fun vs k => Ev.kU vs fun a0 r0 => Ev.kE r0 <| Ev.gI .i64 a0 fun x0 => Ev.bnd (F x0) fun x => k (e_chunk_number x)
theorem rs_chunk_number (F : Int → Option T_api_Point) : Ev.SpRl (s_chunk_number F) := by
  intro S vs k k2 hk
  unfold s_chunk_number
  refine Ev.rl_kU fun _ _ => ?_
  refine Ev.rl_kE ?_
  refine Ev.rl_gI fun _ => ?_
  exact Ev.Rl.bnd fun x => hk _
noncomputable def Ew_chunk_number : Ev.Env := Ev.Env.with Ed []
noncomputable def Es_chunk_number : Ev.Env := Ev.Env.inl (Ew_chunk_number ) MtCa [] 40 12
noncomputable def O_chunk_number : Ev.Orc := fun _ _ _ => none
theorem run_chunk_number (m : Nat) (x0 : Int) : Ev.evBodyD (Es_chunk_number ) MtCa (O_chunk_number ) m 98 [.int .i64 x0] = Ev.ret2 (E_chunk_number { A := 0, B := 0, C := IntKind.wrap IntKind.u64 x0 }) := by kernel_rfl
noncomputable def N_chunk_number (m : Nat) (x0 : Int) : Option T_api_Point := some ({ A := 0, B := 0, C := IntKind.wrap IntKind.u64 x0 })
theorem pr_chunk_number (m : Nat) (x0 : Int) : Ev.evBodyD (Es_chunk_number ) MtCa (O_chunk_number ) m 98 [.int .i64 x0] = Ev.oE E_chunk_number (N_chunk_number m x0) := by
  rw [run_chunk_number m x0]
  simp only [N_chunk_number, Ev.oE_some, Ev.oE_none, Ev.oE_cond, Ev.oE_bnd]
noncomputable def F_chunk_number : Int → Option T_api_Point := fun x0 => N_chunk_number 0 x0
theorem ok_chunk_number : Ev.EnvOk (Ew_chunk_number ) := Ev.envOk_with envOkd Ev.SpsOk.nil
theorem ro_chunk_number : Ev.SpecRl (Ew_chunk_number ) := Ev.specRl_with rfl Ev.SpsRl.nil
theorem g_chunk_number : Ev.SpOk Try.prog false 98 (s_chunk_number F_chunk_number) := by
  refine Ev.SpOk.mkF fun vs k r g0 => ?_
  unfold s_chunk_number at g0
  obtain ⟨a0, r0, rfl, g1⟩ := Ev.kU_ok g0
  obtain ⟨rfl, g2⟩ := Ev.kE_ok g1
  obtain ⟨x0, rfl, g3⟩ := Ev.gI_ok g2
  obtain ⟨x, hx, h⟩ := Ev.bnd_get g3
  have h1 := pr_chunk_number  0 x0
  rw [show N_chunk_number  0 x0 = some x from hx] at h1
  exact ⟨_, h, Ev.good_of_inl ok_chunk_number (ro_chunk_number ) rfl rfl Ev.TabOk.nil 40 12 _ h1⟩
-- chunk.address
-- DEEP chunk_address 99 - T_api_Addr → Option T_api_Point
noncomputable def e_chunk_address (x : T_api_Point) : Value := v_api_Point x
noncomputable def E_chunk_address (x : T_api_Point) : Value × Ev.AH := (e_chunk_address x, ⟨[], 0, []⟩)
noncomputable def s_chunk_address (F : T_api_Addr → Option T_api_Point) : Ev.Sp := fun vs k => Ev.kU vs fun a0 r0 => Ev.kE r0 <| d_api_Addr a0 fun x0 => Ev.bnd (F x0) fun x => k (e_chunk_address x)
theorem rs_chunk_address (F : T_api_Addr → Option T_api_Point) : Ev.SpRl (s_chunk_address F) := by
  intro S vs k k2 hk
  unfold s_chunk_address
  refine Ev.rl_kU fun _ _ => ?_
  refine Ev.rl_kE ?_
  refine rl_d_api_Addr fun _ => ?_
  exact Ev.Rl.bnd fun x => hk _
noncomputable def Ew_chunk_address : Ev.Env := Ev.Env.with Ed []
noncomputable def Es_chunk_address : Ev.Env := Ev.Env.inl (Ew_chunk_address ) MtCa [] 40 12
noncomputable def O_chunk_address : Ev.Orc := fun _ _ _ => none
theorem run_chunk_address (m : Nat) (x0 : T_api_Addr) : Ev.evBodyD (Es_chunk_address ) MtCa (O_chunk_address ) m 99 [v_api_Addr x0] = Ev.ret2 (E_chunk_address { A := IntKind.wrap IntKind.u64 (T_api_Addr.Fam x0), B := T_api_Addr.Hi x0, C := T_api_Addr.Lo x0 }) := by kernel_rfl
noncomputable def N_chunk_address (m : Nat) (x0 : T_api_Addr) : Option T_api_Point := some ({ A := IntKind.wrap IntKind.u64 (T_api_Addr.Fam x0), B := T_api_Addr.Hi x0, C := T_api_Addr.Lo x0 })
theorem pr_chunk_address (m : Nat) (x0 : T_api_Addr) : Ev.evBodyD (Es_chunk_address ) MtCa (O_chunk_address ) m 99 [v_api_Addr x0] = Ev.oE E_chunk_address (N_chunk_address m x0) := by
  rw [run_chunk_address m x0]
  simp only [N_chunk_address, Ev.oE_some, Ev.oE_none, Ev.oE_cond, Ev.oE_bnd]
noncomputable def F_chunk_address : T_api_Addr → Option T_api_Point := fun x0 => N_chunk_address 0 x0
theorem ok_chunk_address : Ev.EnvOk (Ew_chunk_address ) := Ev.envOk_with envOkd Ev.SpsOk.nil
theorem ro_chunk_address : Ev.SpecRl (Ew_chunk_address ) := Ev.specRl_with rfl Ev.SpsRl.nil
theorem g_chunk_address : Ev.SpOk Try.prog false 99 (s_chunk_address F_chunk_address) := by
  refine Ev.SpOk.mkF fun vs k r g0 => ?_
  unfold s_chunk_address at g0
  obtain ⟨a0, r0, rfl, g1⟩ := Ev.kU_ok g0
  obtain ⟨rfl, g2⟩ := Ev.kE_ok g1
  obtain ⟨x0, rfl, g3⟩ := d_api_Addr_ok g2
  obtain ⟨x, hx, h⟩ := Ev.bnd_get g3
  have h1 := pr_chunk_address  0 x0
  rw [show N_chunk_address  0 x0 = some x from hx] at h1
  exact ⟨_, h, Ev.good_of_inl ok_chunk_address (ro_chunk_address ) rfl rfl Ev.TabOk.nil 40 12 _ h1⟩
-- chunk.Spot
-- DEEP chunk_Spot 40 - T_api_Key → Int → Option (T_api_Point × Bool)
noncomputable def e_chunk_Spot (x : T_api_Point × Bool) : Value := .tuple ⟨[v_api_Point (x.1), .bool (x.2)]⟩
noncomputable def E_chunk_Spot (x : T_api_Point × Bool) : Value × Ev.AH := (e_chunk_Spot x, ⟨[], 0, []⟩)
noncomputable def s_chunk_Spot (F : T_api_Key → Int → Option (T_api_Point × Bool)) : Ev.Sp := fun vs k => Ev.kU vs fun a0 r0 => Ev.kU r0 fun a1 r1 => Ev.kE r1 <| d_api_Key a0 fun x0 => Ev.gI .i64 a1 fun x1 => Ev.bnd (F x0 x1) fun x => k (e_chunk_Spot x)
theorem rs_chunk_Spot (F : T_api_Key → Int → Option (T_api_Point × Bool)) : Ev.SpRl (s_chunk_Spot F) := by
  intro S vs k k2 hk
  unfold s_chunk_Spot
  refine Ev.rl_kU fun _ _ => ?_
  refine Ev.rl_kU fun _ _ => ?_
  refine Ev.rl_kE ?_
  refine rl_d_api_Key fun _ => ?_
  refine Ev.rl_gI fun _ => ?_
  exact Ev.Rl.bnd fun x => hk _
noncomputable def Ew_chunk_Spot (F_first_RightKey : T_api_Key → Option Bool) (F_chunk_number : Int → Option T_api_Point) (F_chunk_address : T_api_Addr → Option T_api_Point) : Ev.Env := Ev.Env.with Ed [(22, s_first_RightKey F_first_RightKey), (98, s_chunk_number F_chunk_number), (99, s_chunk_address F_chunk_address)]
noncomputable def Es_chunk_Spot (F_first_RightKey : T_api_Key → Option Bool) (F_chunk_number : Int → Option T_api_Point) (F_chunk_address : T_api_Addr → Option T_api_Point) : Ev.Env := Ev.Env.inl (Ew_chunk_Spot F_first_RightKey F_chunk_number F_chunk_address) MtCa [] 40 12
noncomputable def O_chunk_Spot (F_first_RightKey : T_api_Key → Option Bool) (F_chunk_number : Int → Option T_api_Point) (F_chunk_address : T_api_Addr → Option T_api_Point) : Ev.Orc := fun _ _ _ => none
theorem run_chunk_Spot (F_first_RightKey : T_api_Key → Option Bool) (F_chunk_number : Int → Option T_api_Point) (F_chunk_address : T_api_Addr → Option T_api_Point) (m : Nat) (x0 : T_api_Key) (x1 : Int) : Ev.evBodyD (Es_chunk_Spot F_first_RightKey F_chunk_number F_chunk_address) MtCa (O_chunk_Spot F_first_RightKey F_chunk_number F_chunk_address) m 40 [v_api_Key x0, .int .i64 x1] = Ev.bnd (F_first_RightKey { From := T_api_Key.From x0, To := T_api_Key.To x0, Src_Fam := T_api_Key.Src_Fam x0, Src_Hi := T_api_Key.Src_Hi x0, Src_Lo := T_api_Key.Src_Lo x0, Dst_Fam := T_api_Key.Dst_Fam x0, Dst_Hi := T_api_Key.Dst_Hi x0, Dst_Lo := T_api_Key.Dst_Lo x0, Proto := T_api_Key.Proto x0, Sport := T_api_Key.Sport x0, Dport := T_api_Key.Dport x0 }) fun v0 => bif !v0 then Ev.ret2 (E_chunk_Spot ({ A := 0, B := 0, C := 0 }, false)) else bif Ev.ltI x1 0 then Ev.ret2 (E_chunk_Spot ({ A := 0, B := 0, C := 0 }, false)) else bif Ev.leI 7 x1 then Ev.ret2 (E_chunk_Spot ({ A := 0, B := 0, C := 0 }, false)) else Ev.bnd (F_chunk_number (T_api_Key.From x0)) fun v1 => Ev.bnd (F_chunk_number (T_api_Key.To x0)) fun v2 => Ev.bnd (F_chunk_address { Fam := T_api_Key.Src_Fam x0, Hi := T_api_Key.Src_Hi x0, Lo := T_api_Key.Src_Lo x0 }) fun v3 => Ev.bnd (F_chunk_address { Fam := T_api_Key.Dst_Fam x0, Hi := T_api_Key.Dst_Hi x0, Lo := T_api_Key.Dst_Lo x0 }) fun v4 => Ev.bnd (F_chunk_number (T_api_Key.Proto x0)) fun v5 => Ev.bnd (F_chunk_number (T_api_Key.Sport x0)) fun v6 => Ev.bnd (F_chunk_number (T_api_Key.Dport x0)) fun v7 => bif true && (decide (0 ≤ x1) && decide (x1 < 7)) then bif true && Ev.okD [(Ev.Kd.int IntKind.u64, 0), (Ev.Kd.int IntKind.u64, 0), (Ev.Kd.int IntKind.u64, 0)] [Value.int IntKind.u64 (T_api_Point.A v1), Value.int IntKind.u64 (T_api_Point.B v1), Value.int IntKind.u64 (T_api_Point.C v1), Value.int IntKind.u64 (T_api_Point.A v2), Value.int IntKind.u64 (T_api_Point.B v2), Value.int IntKind.u64 (T_api_Point.C v2), Value.int IntKind.u64 (T_api_Point.A v3), Value.int IntKind.u64 (T_api_Point.B v3), Value.int IntKind.u64 (T_api_Point.C v3), Value.int IntKind.u64 (T_api_Point.A v4), Value.int IntKind.u64 (T_api_Point.B v4), Value.int IntKind.u64 (T_api_Point.C v4), Value.int IntKind.u64 (T_api_Point.A v5), Value.int IntKind.u64 (T_api_Point.B v5), Value.int IntKind.u64 (T_api_Point.C v5), Value.int IntKind.u64 (T_api_Point.A v6), Value.int IntKind.u64 (T_api_Point.B v6), Value.int IntKind.u64 (T_api_Point.C v6), Value.int IntKind.u64 (T_api_Point.A v7), Value.int IntKind.u64 (T_api_Point.B v7), Value.int IntKind.u64 (T_api_Point.C v7)] (Int.toNat x1 * 3) then Ev.ret2 (E_chunk_Spot ({ A := Ev.uI (Ev.nthC [Value.int IntKind.u64 (T_api_Point.A v1), Value.int IntKind.u64 (T_api_Point.B v1), Value.int IntKind.u64 (T_api_Point.C v1), Value.int IntKind.u64 (T_api_Point.A v2), Value.int IntKind.u64 (T_api_Point.B v2), Value.int IntKind.u64 (T_api_Point.C v2), Value.int IntKind.u64 (T_api_Point.A v3), Value.int IntKind.u64 (T_api_Point.B v3), Value.int IntKind.u64 (T_api_Point.C v3), Value.int IntKind.u64 (T_api_Point.A v4), Value.int IntKind.u64 (T_api_Point.B v4), Value.int IntKind.u64 (T_api_Point.C v4), Value.int IntKind.u64 (T_api_Point.A v5), Value.int IntKind.u64 (T_api_Point.B v5), Value.int IntKind.u64 (T_api_Point.C v5), Value.int IntKind.u64 (T_api_Point.A v6), Value.int IntKind.u64 (T_api_Point.B v6), Value.int IntKind.u64 (T_api_Point.C v6), Value.int IntKind.u64 (T_api_Point.A v7), Value.int IntKind.u64 (T_api_Point.B v7), Value.int IntKind.u64 (T_api_Point.C v7)] (Int.toNat x1 * 3)), B := Ev.uI (Ev.nthC [Value.int IntKind.u64 (T_api_Point.A v1), Value.int IntKind.u64 (T_api_Point.B v1), Value.int IntKind.u64 (T_api_Point.C v1), Value.int IntKind.u64 (T_api_Point.A v2), Value.int IntKind.u64 (T_api_Point.B v2), Value.int IntKind.u64 (T_api_Point.C v2), Value.int IntKind.u64 (T_api_Point.A v3), Value.int IntKind.u64 (T_api_Point.B v3), Value.int IntKind.u64 (T_api_Point.C v3), Value.int IntKind.u64 (T_api_Point.A v4), Value.int IntKind.u64 (T_api_Point.B v4), Value.int IntKind.u64 (T_api_Point.C v4), Value.int IntKind.u64 (T_api_Point.A v5), Value.int IntKind.u64 (T_api_Point.B v5), Value.int IntKind.u64 (T_api_Point.C v5), Value.int IntKind.u64 (T_api_Point.A v6), Value.int IntKind.u64 (T_api_Point.B v6), Value.int IntKind.u64 (T_api_Point.C v6), Value.int IntKind.u64 (T_api_Point.A v7), Value.int IntKind.u64 (T_api_Point.B v7), Value.int IntKind.u64 (T_api_Point.C v7)] (Int.toNat x1 * 3 + 1)), C := Ev.uI (Ev.nthC [Value.int IntKind.u64 (T_api_Point.A v1), Value.int IntKind.u64 (T_api_Point.B v1), Value.int IntKind.u64 (T_api_Point.C v1), Value.int IntKind.u64 (T_api_Point.A v2), Value.int IntKind.u64 (T_api_Point.B v2), Value.int IntKind.u64 (T_api_Point.C v2), Value.int IntKind.u64 (T_api_Point.A v3), Value.int IntKind.u64 (T_api_Point.B v3), Value.int IntKind.u64 (T_api_Point.C v3), Value.int IntKind.u64 (T_api_Point.A v4), Value.int IntKind.u64 (T_api_Point.B v4), Value.int IntKind.u64 (T_api_Point.C v4), Value.int IntKind.u64 (T_api_Point.A v5), Value.int IntKind.u64 (T_api_Point.B v5), Value.int IntKind.u64 (T_api_Point.C v5), Value.int IntKind.u64 (T_api_Point.A v6), Value.int IntKind.u64 (T_api_Point.B v6), Value.int IntKind.u64 (T_api_Point.C v6), Value.int IntKind.u64 (T_api_Point.A v7), Value.int IntKind.u64 (T_api_Point.B v7), Value.int IntKind.u64 (T_api_Point.C v7)] (Int.toNat x1 * 3 + 1 + 1)) }, true)) else none else none := by kernel_rfl
noncomputable def N_chunk_Spot (F_first_RightKey : T_api_Key → Option Bool) (F_chunk_number : Int → Option T_api_Point) (F_chunk_address : T_api_Addr → Option T_api_Point) (m : Nat) (x0 : T_api_Key) (x1 : Int) : Option (T_api_Point × Bool) := Ev.bnd (F_first_RightKey { From := T_api_Key.From x0, To := T_api_Key.To x0, Src_Fam := T_api_Key.Src_Fam x0, Src_Hi := T_api_Key.Src_Hi x0, Src_Lo := T_api_Key.Src_Lo x0, Dst_Fam := T_api_Key.Dst_Fam x0, Dst_Hi := T_api_Key.Dst_Hi x0, Dst_Lo := T_api_Key.Dst_Lo x0, Proto := T_api_Key.Proto x0, Sport := T_api_Key.Sport x0, Dport := T_api_Key.Dport x0 }) fun v0 => bif !v0 then some ({ A := 0, B := 0, C := 0 }, false) else bif Ev.ltI x1 0 then some ({ A := 0, B := 0, C := 0 }, false) else bif Ev.leI 7 x1 then some ({ A := 0, B := 0, C := 0 }, false) else Ev.bnd (F_chunk_number (T_api_Key.From x0)) fun v1 => Ev.bnd (F_chunk_number (T_api_Key.To x0)) fun v2 => Ev.bnd (F_chunk_address { Fam := T_api_Key.Src_Fam x0, Hi := T_api_Key.Src_Hi x0, Lo := T_api_Key.Src_Lo x0 }) fun v3 => Ev.bnd (F_chunk_address { Fam := T_api_Key.Dst_Fam x0, Hi := T_api_Key.Dst_Hi x0, Lo := T_api_Key.Dst_Lo x0 }) fun v4 => Ev.bnd (F_chunk_number (T_api_Key.Proto x0)) fun v5 => Ev.bnd (F_chunk_number (T_api_Key.Sport x0)) fun v6 => Ev.bnd (F_chunk_number (T_api_Key.Dport x0)) fun v7 => bif true && (decide (0 ≤ x1) && decide (x1 < 7)) then bif true && Ev.okD [(Ev.Kd.int IntKind.u64, 0), (Ev.Kd.int IntKind.u64, 0), (Ev.Kd.int IntKind.u64, 0)] [Value.int IntKind.u64 (T_api_Point.A v1), Value.int IntKind.u64 (T_api_Point.B v1), Value.int IntKind.u64 (T_api_Point.C v1), Value.int IntKind.u64 (T_api_Point.A v2), Value.int IntKind.u64 (T_api_Point.B v2), Value.int IntKind.u64 (T_api_Point.C v2), Value.int IntKind.u64 (T_api_Point.A v3), Value.int IntKind.u64 (T_api_Point.B v3), Value.int IntKind.u64 (T_api_Point.C v3), Value.int IntKind.u64 (T_api_Point.A v4), Value.int IntKind.u64 (T_api_Point.B v4), Value.int IntKind.u64 (T_api_Point.C v4), Value.int IntKind.u64 (T_api_Point.A v5), Value.int IntKind.u64 (T_api_Point.B v5), Value.int IntKind.u64 (T_api_Point.C v5), Value.int IntKind.u64 (T_api_Point.A v6), Value.int IntKind.u64 (T_api_Point.B v6), Value.int IntKind.u64 (T_api_Point.C v6), Value.int IntKind.u64 (T_api_Point.A v7), Value.int IntKind.u64 (T_api_Point.B v7), Value.int IntKind.u64 (T_api_Point.C v7)] (Int.toNat x1 * 3) then some ({ A := Ev.uI (Ev.nthC [Value.int IntKind.u64 (T_api_Point.A v1), Value.int IntKind.u64 (T_api_Point.B v1), Value.int IntKind.u64 (T_api_Point.C v1), Value.int IntKind.u64 (T_api_Point.A v2), Value.int IntKind.u64 (T_api_Point.B v2), Value.int IntKind.u64 (T_api_Point.C v2), Value.int IntKind.u64 (T_api_Point.A v3), Value.int IntKind.u64 (T_api_Point.B v3), Value.int IntKind.u64 (T_api_Point.C v3), Value.int IntKind.u64 (T_api_Point.A v4), Value.int IntKind.u64 (T_api_Point.B v4), Value.int IntKind.u64 (T_api_Point.C v4), Value.int IntKind.u64 (T_api_Point.A v5), Value.int IntKind.u64 (T_api_Point.B v5), Value.int IntKind.u64 (T_api_Point.C v5), Value.int IntKind.u64 (T_api_Point.A v6), Value.int IntKind.u64 (T_api_Point.B v6), Value.int IntKind.u64 (T_api_Point.C v6), Value.int IntKind.u64 (T_api_Point.A v7), Value.int IntKind.u64 (T_api_Point.B v7), Value.int IntKind.u64 (T_api_Point.C v7)] (Int.toNat x1 * 3)), B := Ev.uI (Ev.nthC [Value.int IntKind.u64 (T_api_Point.A v1), Value.int IntKind.u64 (T_api_Point.B v1), Value.int IntKind.u64 (T_api_Point.C v1), Value.int IntKind.u64 (T_api_Point.A v2), Value.int IntKind.u64 (T_api_Point.B v2), Value.int IntKind.u64 (T_api_Point.C v2), Value.int IntKind.u64 (T_api_Point.A v3), Value.int IntKind.u64 (T_api_Point.B v3), Value.int IntKind.u64 (T_api_Point.C v3), Value.int IntKind.u64 (T_api_Point.A v4), Value.int IntKind.u64 (T_api_Point.B v4), Value.int IntKind.u64 (T_api_Point.C v4), Value.int IntKind.u64 (T_api_Point.A v5), Value.int IntKind.u64 (T_api_Point.B v5), Value.int IntKind.u64 (T_api_Point.C v5), Value.int IntKind.u64 (T_api_Point.A v6), Value.int IntKind.u64 (T_api_Point.B v6), Value.int IntKind.u64 (T_api_Point.C v6), Value.int IntKind.u64 (T_api_Point.A v7), Value.int IntKind.u64 (T_api_Point.B v7), Value.int IntKind.u64 (T_api_Point.C v7)] (Int.toNat x1 * 3 + 1)), C := Ev.uI (Ev.nthC [Value.int IntKind.u64 (T_api_Point.A v1), Value.int IntKind.u64 (T_api_Point.B v1), Value.int IntKind.u64 (T_api_Point.C v1), Value.int IntKind.u64 (T_api_Point.A v2), Value.int IntKind.u64 (T_api_Point.B v2), Value.int IntKind.u64 (T_api_Point.C v2), Value.int IntKind.u64 (T_api_Point.A v3), Value.int IntKind.u64 (T_api_Point.B v3), Value.int IntKind.u64 (T_api_Point.C v3), Value.int IntKind.u64 (T_api_Point.A v4), Value.int IntKind.u64 (T_api_Point.B v4), Value.int IntKind.u64 (T_api_Point.C v4), Value.int IntKind.u64 (T_api_Point.A v5), Value.int IntKind.u64 (T_api_Point.B v5), Value.int IntKind.u64 (T_api_Point.C v5), Value.int IntKind.u64 (T_api_Point.A v6), Value.int IntKind.u64 (T_api_Point.B v6), Value.int IntKind.u64 (T_api_Point.C v6), Value.int IntKind.u64 (T_api_Point.A v7), Value.int IntKind.u64 (T_api_Point.B v7), Value.int IntKind.u64 (T_api_Point.C v7)] (Int.toNat x1 * 3 + 1 + 1)) }, true) else none else none
theorem pr_chunk_Spot (F_first_RightKey : T_api_Key → Option Bool) (F_chunk_number : Int → Option T_api_Point) (F_chunk_address : T_api_Addr → Option T_api_Point) (m : Nat) (x0 : T_api_Key) (x1 : Int) : Ev.evBodyD (Es_chunk_Spot F_first_RightKey F_chunk_number F_chunk_address) MtCa (O_chunk_Spot F_first_RightKey F_chunk_number F_chunk_address) m 40 [v_api_Key x0, .int .i64 x1] = Ev.oE E_chunk_Spot (N_chunk_Spot F_first_RightKey F_chunk_number F_chunk_address m x0 x1) := by
  rw [run_chunk_Spot F_first_RightKey F_chunk_number F_chunk_address m x0 x1]
  simp only [N_chunk_Spot, Ev.oE_some, Ev.oE_none, Ev.oE_cond, Ev.oE_bnd]
noncomputable def F_chunk_Spot : T_api_Key → Int → Option (T_api_Point × Bool) := fun x0 x1 => N_chunk_Spot F_first_RightKey F_chunk_number F_chunk_address 0 x0 x1
theorem ok_chunk_Spot : Ev.EnvOk (Ew_chunk_Spot F_first_RightKey F_chunk_number F_chunk_address) := Ev.envOk_with envOkd (Ev.SpsOk.add (b := false) g_first_RightKey (by kernel_rfl) (Ev.SpsOk.add (b := false) g_chunk_number (by kernel_rfl) (Ev.SpsOk.add (b := false) g_chunk_address (by kernel_rfl) Ev.SpsOk.nil)))
theorem ro_chunk_Spot (F_first_RightKey : T_api_Key → Option Bool) (F_chunk_number : Int → Option T_api_Point) (F_chunk_address : T_api_Addr → Option T_api_Point) : Ev.SpecRl (Ew_chunk_Spot F_first_RightKey F_chunk_number F_chunk_address) := Ev.specRl_with rfl (Ev.SpsRl.cons (rs_first_RightKey _) (Ev.SpsRl.cons (rs_chunk_number _) (Ev.SpsRl.cons (rs_chunk_address _) Ev.SpsRl.nil)))
theorem g_chunk_Spot : Ev.SpOk Try.prog false 40 (s_chunk_Spot F_chunk_Spot) := by
  refine Ev.SpOk.mkF fun vs k r g0 => ?_
  unfold s_chunk_Spot at g0
  obtain ⟨a0, r0, rfl, g1⟩ := Ev.kU_ok g0
  obtain ⟨a1, r1, rfl, g2⟩ := Ev.kU_ok g1
  obtain ⟨rfl, g3⟩ := Ev.kE_ok g2
  obtain ⟨x0, rfl, g4⟩ := d_api_Key_ok g3
  obtain ⟨x1, rfl, g5⟩ := Ev.gI_ok g4
  obtain ⟨x, hx, h⟩ := Ev.bnd_get g5
  have h1 := pr_chunk_Spot F_first_RightKey F_chunk_number F_chunk_address 0 x0 x1
  rw [show N_chunk_Spot F_first_RightKey F_chunk_number F_chunk_address 0 x0 x1 = some x from hx] at h1
  exact ⟨_, h, Ev.good_of_inl ok_chunk_Spot (ro_chunk_Spot F_first_RightKey F_chunk_number F_chunk_address) rfl rfl Ev.TabOk.nil 40 12 _ h1⟩
-- stockaderef02.Right
-- DEEP r02_Right 58 - T_api_Addr → Option Bool
noncomputable def e_r02_Right (x : Bool) : Value := .bool x
noncomputable def E_r02_Right (x : Bool) : Value × Ev.AH := (e_r02_Right x, ⟨[], 0, []⟩)
noncomputable def s_r02_Right (F : T_api_Addr → Option Bool) : Ev.Sp := fun vs k => Ev.kU vs fun a0 r0 => Ev.kE r0 <| d_api_Addr a0 fun x0 => Ev.bnd (F x0) fun x => k (e_r02_Right x)
theorem rs_r02_Right (F : T_api_Addr → Option Bool) : Ev.SpRl (s_r02_Right F) := by
  intro S vs k k2 hk
  unfold s_r02_Right
  refine Ev.rl_kU fun _ _ => ?_
  refine Ev.rl_kE ?_
  refine rl_d_api_Addr fun _ => ?_
  exact Ev.Rl.bnd fun x => hk _
noncomputable def Ew_r02_Right : Ev.Env := Ev.Env.with Ed []
noncomputable def Es_r02_Right : Ev.Env := Ev.Env.inl (Ew_r02_Right ) MtCa [] 40 12
noncomputable def O_r02_Right : Ev.Orc := fun _ _ _ => none
theorem run_r02_Right (m : Nat) (x0 : T_api_Addr) : Ev.evBodyD (Es_r02_Right ) MtCa (O_r02_Right ) m 58 [v_api_Addr x0] = bif T_api_Addr.Fam x0 == 6 then Ev.ret2 (E_r02_Right true) else bif T_api_Addr.Fam x0 == 4 then bif T_api_Addr.Hi x0 == 0 then Ev.ret2 (E_r02_Right (Ev.ltI (T_api_Addr.Lo x0) 4294967296)) else Ev.ret2 (E_r02_Right false) else Ev.ret2 (E_r02_Right false) := by kernel_rfl
noncomputable def N_r02_Right (m : Nat) (x0 : T_api_Addr) : Option Bool := bif T_api_Addr.Fam x0 == 6 then some true else bif T_api_Addr.Fam x0 == 4 then bif T_api_Addr.Hi x0 == 0 then some (Ev.ltI (T_api_Addr.Lo x0) 4294967296) else some false else some false
theorem pr_r02_Right (m : Nat) (x0 : T_api_Addr) : Ev.evBodyD (Es_r02_Right ) MtCa (O_r02_Right ) m 58 [v_api_Addr x0] = Ev.oE E_r02_Right (N_r02_Right m x0) := by
  rw [run_r02_Right m x0]
  simp only [N_r02_Right, Ev.oE_some, Ev.oE_none, Ev.oE_cond, Ev.oE_bnd]
noncomputable def F_r02_Right : T_api_Addr → Option Bool := fun x0 => N_r02_Right 0 x0
theorem ok_r02_Right : Ev.EnvOk (Ew_r02_Right ) := Ev.envOk_with envOkd Ev.SpsOk.nil
theorem ro_r02_Right : Ev.SpecRl (Ew_r02_Right ) := Ev.specRl_with rfl Ev.SpsRl.nil
theorem g_r02_Right : Ev.SpOk Try.prog false 58 (s_r02_Right F_r02_Right) := by
  refine Ev.SpOk.mkF fun vs k r g0 => ?_
  unfold s_r02_Right at g0
  obtain ⟨a0, r0, rfl, g1⟩ := Ev.kU_ok g0
  obtain ⟨rfl, g2⟩ := Ev.kE_ok g1
  obtain ⟨x0, rfl, g3⟩ := d_api_Addr_ok g2
  obtain ⟨x, hx, h⟩ := Ev.bnd_get g3
  have h1 := pr_r02_Right  0 x0
  rw [show N_r02_Right  0 x0 = some x from hx] at h1
  exact ⟨_, h, Ev.good_of_inl ok_r02_Right (ro_r02_Right ) rfl rfl Ev.TabOk.nil 40 12 _ h1⟩
-- stockaderef10.in
-- DEEP r10_in 57 - Int → Int → Int → Option Bool
noncomputable def e_r10_in (x : Bool) : Value := .bool x
noncomputable def E_r10_in (x : Bool) : Value × Ev.AH := (e_r10_in x, ⟨[], 0, []⟩)
noncomputable def s_r10_in (F : Int → Int → Int → Option Bool) : Ev.Sp := fun vs k => Ev.kU vs fun a0 r0 => Ev.kU r0 fun a1 r1 => Ev.kU r1 fun a2 r2 => Ev.kE r2 <| Ev.gI .i64 a0 fun x0 => Ev.gI .i64 a1 fun x1 => Ev.gI .i64 a2 fun x2 => Ev.bnd (F x0 x1 x2) fun x => k (e_r10_in x)
theorem rs_r10_in (F : Int → Int → Int → Option Bool) : Ev.SpRl (s_r10_in F) := by
  intro S vs k k2 hk
  unfold s_r10_in
  refine Ev.rl_kU fun _ _ => ?_
  refine Ev.rl_kU fun _ _ => ?_
  refine Ev.rl_kU fun _ _ => ?_
  refine Ev.rl_kE ?_
  refine Ev.rl_gI fun _ => ?_
  refine Ev.rl_gI fun _ => ?_
  refine Ev.rl_gI fun _ => ?_
  exact Ev.Rl.bnd fun x => hk _
noncomputable def Ew_r10_in : Ev.Env := Ev.Env.with Ed []
noncomputable def Es_r10_in : Ev.Env := Ev.Env.inl (Ew_r10_in ) MtCa [] 40 12
noncomputable def O_r10_in : Ev.Orc := fun _ _ _ => none
theorem run_r10_in (m : Nat) (x0 : Int) (x1 : Int) (x2 : Int) : Ev.evBodyD (Es_r10_in ) MtCa (O_r10_in ) m 57 [.int .i64 x0, .int .i64 x1, .int .i64 x2] = bif Ev.leI x1 x0 then Ev.ret2 (E_r10_in (Ev.leI x0 x2)) else Ev.ret2 (E_r10_in false) := by kernel_rfl
noncomputable def N_r10_in (m : Nat) (x0 : Int) (x1 : Int) (x2 : Int) : Option Bool := bif Ev.leI x1 x0 then some (Ev.leI x0 x2) else some false
theorem pr_r10_in (m : Nat) (x0 : Int) (x1 : Int) (x2 : Int) : Ev.evBodyD (Es_r10_in ) MtCa (O_r10_in ) m 57 [.int .i64 x0, .int .i64 x1, .int .i64 x2] = Ev.oE E_r10_in (N_r10_in m x0 x1 x2) := by
  rw [run_r10_in m x0 x1 x2]
  simp only [N_r10_in, Ev.oE_some, Ev.oE_none, Ev.oE_cond, Ev.oE_bnd]
noncomputable def F_r10_in : Int → Int → Int → Option Bool := fun x0 x1 x2 => N_r10_in 0 x0 x1 x2
theorem ok_r10_in : Ev.EnvOk (Ew_r10_in ) := Ev.envOk_with envOkd Ev.SpsOk.nil
theorem ro_r10_in : Ev.SpecRl (Ew_r10_in ) := Ev.specRl_with rfl Ev.SpsRl.nil
theorem g_r10_in : Ev.SpOk Try.prog false 57 (s_r10_in F_r10_in) := by
  refine Ev.SpOk.mkF fun vs k r g0 => ?_
  unfold s_r10_in at g0
  obtain ⟨a0, r0, rfl, g1⟩ := Ev.kU_ok g0
  obtain ⟨a1, r1, rfl, g2⟩ := Ev.kU_ok g1
  obtain ⟨a2, r2, rfl, g3⟩ := Ev.kU_ok g2
  obtain ⟨rfl, g4⟩ := Ev.kE_ok g3
  obtain ⟨x0, rfl, g5⟩ := Ev.gI_ok g4
  obtain ⟨x1, rfl, g6⟩ := Ev.gI_ok g5
  obtain ⟨x2, rfl, g7⟩ := Ev.gI_ok g6
  obtain ⟨x, hx, h⟩ := Ev.bnd_get g7
  have h1 := pr_r10_in  0 x0 x1 x2
  rw [show N_r10_in  0 x0 x1 x2 = some x from hx] at h1
  exact ⟨_, h, Ev.good_of_inl ok_r10_in (ro_r10_in ) rfl rfl Ev.TabOk.nil 40 12 _ h1⟩
-- stockaderef10.RightKey
-- DEEP r10_RightKey 23 - T_api_Key → Option Bool
noncomputable def e_r10_RightKey (x : Bool) : Value := .bool x
noncomputable def E_r10_RightKey (x : Bool) : Value × Ev.AH := (e_r10_RightKey x, ⟨[], 0, []⟩)
noncomputable def s_r10_RightKey (F : T_api_Key → Option Bool) : Ev.Sp := fun vs k => Ev.kU vs fun a0 r0 => Ev.kE r0 <| d_api_Key a0 fun x0 => Ev.bnd (F x0) fun x => k (e_r10_RightKey x)
theorem rs_r10_RightKey (F : T_api_Key → Option Bool) : Ev.SpRl (s_r10_RightKey F) := by
  intro S vs k k2 hk
  unfold s_r10_RightKey
  refine Ev.rl_kU fun _ _ => ?_
  refine Ev.rl_kE ?_
  refine rl_d_api_Key fun _ => ?_
  exact Ev.Rl.bnd fun x => hk _
noncomputable def Ew_r10_RightKey (F_r10_in : Int → Int → Int → Option Bool) (F_r02_Right : T_api_Addr → Option Bool) : Ev.Env := Ev.Env.with Ed [(57, s_r10_in F_r10_in), (58, s_r02_Right F_r02_Right)]
noncomputable def Es_r10_RightKey (F_r10_in : Int → Int → Int → Option Bool) (F_r02_Right : T_api_Addr → Option Bool) : Ev.Env := Ev.Env.inl (Ew_r10_RightKey F_r10_in F_r02_Right) MtCa [] 40 12
noncomputable def O_r10_RightKey (F_r10_in : Int → Int → Int → Option Bool) (F_r02_Right : T_api_Addr → Option Bool) : Ev.Orc := fun _ _ _ => none
theorem run_r10_RightKey (F_r10_in : Int → Int → Int → Option Bool) (F_r02_Right : T_api_Addr → Option Bool) (m : Nat) (x0 : T_api_Key) : Ev.evBodyD (Es_r10_RightKey F_r10_in F_r02_Right) MtCa (O_r10_RightKey F_r10_in F_r02_Right) m 23 [v_api_Key x0] = Ev.bnd (F_r10_in (T_api_Key.From x0) 0 15) fun v0 => bif v0 then Ev.bnd (F_r10_in (T_api_Key.To x0) 0 15) fun v1 => bif v1 then Ev.bnd (F_r02_Right { Fam := T_api_Key.Src_Fam x0, Hi := T_api_Key.Src_Hi x0, Lo := T_api_Key.Src_Lo x0 }) fun v2 => bif v2 then Ev.bnd (F_r02_Right { Fam := T_api_Key.Dst_Fam x0, Hi := T_api_Key.Dst_Hi x0, Lo := T_api_Key.Dst_Lo x0 }) fun v3 => bif v3 then bif T_api_Key.Src_Fam x0 == T_api_Key.Dst_Fam x0 then Ev.bnd (F_r10_in (T_api_Key.Proto x0) 0 255) fun v4 => bif v4 then Ev.bnd (F_r10_in (T_api_Key.Sport x0) 0 65535) fun v5 => bif v5 then Ev.bnd (F_r10_in (T_api_Key.Dport x0) 0 65535) fun v6 => Ev.ret2 (E_r10_RightKey v6) else Ev.ret2 (E_r10_RightKey false) else Ev.ret2 (E_r10_RightKey false) else Ev.ret2 (E_r10_RightKey false) else Ev.ret2 (E_r10_RightKey false) else Ev.ret2 (E_r10_RightKey false) else Ev.ret2 (E_r10_RightKey false) else Ev.ret2 (E_r10_RightKey false) := by kernel_rfl
noncomputable def N_r10_RightKey (F_r10_in : Int → Int → Int → Option Bool) (F_r02_Right : T_api_Addr → Option Bool) (m : Nat) (x0 : T_api_Key) : Option Bool := Ev.bnd (F_r10_in (T_api_Key.From x0) 0 15) fun v0 => bif v0 then Ev.bnd (F_r10_in (T_api_Key.To x0) 0 15) fun v1 => bif v1 then Ev.bnd (F_r02_Right { Fam := T_api_Key.Src_Fam x0, Hi := T_api_Key.Src_Hi x0, Lo := T_api_Key.Src_Lo x0 }) fun v2 => bif v2 then Ev.bnd (F_r02_Right { Fam := T_api_Key.Dst_Fam x0, Hi := T_api_Key.Dst_Hi x0, Lo := T_api_Key.Dst_Lo x0 }) fun v3 => bif v3 then bif T_api_Key.Src_Fam x0 == T_api_Key.Dst_Fam x0 then Ev.bnd (F_r10_in (T_api_Key.Proto x0) 0 255) fun v4 => bif v4 then Ev.bnd (F_r10_in (T_api_Key.Sport x0) 0 65535) fun v5 => bif v5 then Ev.bnd (F_r10_in (T_api_Key.Dport x0) 0 65535) fun v6 => some v6 else some false else some false else some false else some false else some false else some false else some false
theorem pr_r10_RightKey (F_r10_in : Int → Int → Int → Option Bool) (F_r02_Right : T_api_Addr → Option Bool) (m : Nat) (x0 : T_api_Key) : Ev.evBodyD (Es_r10_RightKey F_r10_in F_r02_Right) MtCa (O_r10_RightKey F_r10_in F_r02_Right) m 23 [v_api_Key x0] = Ev.oE E_r10_RightKey (N_r10_RightKey F_r10_in F_r02_Right m x0) := by
  rw [run_r10_RightKey F_r10_in F_r02_Right m x0]
  simp only [N_r10_RightKey, Ev.oE_some, Ev.oE_none, Ev.oE_cond, Ev.oE_bnd]
noncomputable def F_r10_RightKey : T_api_Key → Option Bool := fun x0 => N_r10_RightKey F_r10_in F_r02_Right 0 x0
theorem ok_r10_RightKey : Ev.EnvOk (Ew_r10_RightKey F_r10_in F_r02_Right) := Ev.envOk_with envOkd (Ev.SpsOk.add (b := false) g_r10_in (by kernel_rfl) (Ev.SpsOk.add (b := false) g_r02_Right (by kernel_rfl) Ev.SpsOk.nil))
theorem ro_r10_RightKey (F_r10_in : Int → Int → Int → Option Bool) (F_r02_Right : T_api_Addr → Option Bool) : Ev.SpecRl (Ew_r10_RightKey F_r10_in F_r02_Right) := Ev.specRl_with rfl (Ev.SpsRl.cons (rs_r10_in _) (Ev.SpsRl.cons (rs_r02_Right _) Ev.SpsRl.nil))
theorem g_r10_RightKey : Ev.SpOk Try.prog false 23 (s_r10_RightKey F_r10_RightKey) := by
  refine Ev.SpOk.mkF fun vs k r g0 => ?_
  unfold s_r10_RightKey at g0
  obtain ⟨a0, r0, rfl, g1⟩ := Ev.kU_ok g0
  obtain ⟨rfl, g2⟩ := Ev.kE_ok g1
  obtain ⟨x0, rfl, g3⟩ := d_api_Key_ok g2
  obtain ⟨x, hx, h⟩ := Ev.bnd_get g3
  have h1 := pr_r10_RightKey F_r10_in F_r02_Right 0 x0
  rw [show N_r10_RightKey F_r10_in F_r02_Right 0 x0 = some x from hx] at h1
  exact ⟨_, h, Ev.good_of_inl ok_r10_RightKey (ro_r10_RightKey F_r10_in F_r02_Right) rfl rfl Ev.TabOk.nil 40 12 _ h1⟩
-- stockaderef11.number
-- DEEP r11_number 100 - Int → Option T_api_Point
noncomputable def e_r11_number (x : T_api_Point) : Value := v_api_Point x
noncomputable def E_r11_number (x : T_api_Point) : Value × Ev.AH := (e_r11_number x, ⟨[], 0, []⟩)
noncomputable def s_r11_number (F : Int → Option T_api_Point) : Ev.Sp := fun vs k => Ev.kU vs fun a0 r0 => Ev.kE r0 <| Ev.gI .i64 a0 fun x0 => Ev.bnd (F x0) fun x => k (e_r11_number x)
theorem rs_r11_number (F : Int → Option T_api_Point) : Ev.SpRl (s_r11_number F) := by
  intro S vs k k2 hk
  unfold s_r11_number
  refine Ev.rl_kU fun _ _ => ?_
  refine Ev.rl_kE ?_
  refine Ev.rl_gI fun _ => ?_
  exact Ev.Rl.bnd fun x => hk _
noncomputable def Ew_r11_number : Ev.Env := Ev.Env.with Ed []
noncomputable def Es_r11_number : Ev.Env := Ev.Env.inl (Ew_r11_number ) MtCa [] 40 12
noncomputable def O_r11_number : Ev.Orc := fun _ _ _ => none
theorem run_r11_number (m : Nat) (x0 : Int) : Ev.evBodyD (Es_r11_number ) MtCa (O_r11_number ) m 100 [.int .i64 x0] = Ev.ret2 (E_r11_number { A := 0, B := 0, C := IntKind.wrap IntKind.u64 x0 }) := by kernel_rfl
noncomputable def N_r11_number (m : Nat) (x0 : Int) : Option T_api_Point := some ({ A := 0, B := 0, C := IntKind.wrap IntKind.u64 x0 })
theorem pr_r11_number (m : Nat) (x0 : Int) : Ev.evBodyD (Es_r11_number ) MtCa (O_r11_number ) m 100 [.int .i64 x0] = Ev.oE E_r11_number (N_r11_number m x0) := by
  rw [run_r11_number m x0]
  simp only [N_r11_number, Ev.oE_some, Ev.oE_none, Ev.oE_cond, Ev.oE_bnd]
noncomputable def F_r11_number : Int → Option T_api_Point := fun x0 => N_r11_number 0 x0
theorem ok_r11_number : Ev.EnvOk (Ew_r11_number ) := Ev.envOk_with envOkd Ev.SpsOk.nil
theorem ro_r11_number : Ev.SpecRl (Ew_r11_number ) := Ev.specRl_with rfl Ev.SpsRl.nil
theorem g_r11_number : Ev.SpOk Try.prog false 100 (s_r11_number F_r11_number) := by
  refine Ev.SpOk.mkF fun vs k r g0 => ?_
  unfold s_r11_number at g0
  obtain ⟨a0, r0, rfl, g1⟩ := Ev.kU_ok g0
  obtain ⟨rfl, g2⟩ := Ev.kE_ok g1
  obtain ⟨x0, rfl, g3⟩ := Ev.gI_ok g2
  obtain ⟨x, hx, h⟩ := Ev.bnd_get g3
  have h1 := pr_r11_number  0 x0
  rw [show N_r11_number  0 x0 = some x from hx] at h1
  exact ⟨_, h, Ev.good_of_inl ok_r11_number (ro_r11_number ) rfl rfl Ev.TabOk.nil 40 12 _ h1⟩
-- stockaderef11.address
-- DEEP r11_address 101 - T_api_Addr → Option T_api_Point
noncomputable def e_r11_address (x : T_api_Point) : Value := v_api_Point x
noncomputable def E_r11_address (x : T_api_Point) : Value × Ev.AH := (e_r11_address x, ⟨[], 0, []⟩)
noncomputable def s_r11_address (F : T_api_Addr → Option T_api_Point) : Ev.Sp := fun vs k => Ev.kU vs fun a0 r0 => Ev.kE r0 <| d_api_Addr a0 fun x0 => Ev.bnd (F x0) fun x => k (e_r11_address x)
theorem rs_r11_address (F : T_api_Addr → Option T_api_Point) : Ev.SpRl (s_r11_address F) := by
  intro S vs k k2 hk
  unfold s_r11_address
  refine Ev.rl_kU fun _ _ => ?_
  refine Ev.rl_kE ?_
  refine rl_d_api_Addr fun _ => ?_
  exact Ev.Rl.bnd fun x => hk _
noncomputable def Ew_r11_address : Ev.Env := Ev.Env.with Ed []
noncomputable def Es_r11_address : Ev.Env := Ev.Env.inl (Ew_r11_address ) MtCa [] 40 12
noncomputable def O_r11_address : Ev.Orc := fun _ _ _ => none
theorem run_r11_address (m : Nat) (x0 : T_api_Addr) : Ev.evBodyD (Es_r11_address ) MtCa (O_r11_address ) m 101 [v_api_Addr x0] = Ev.ret2 (E_r11_address { A := IntKind.wrap IntKind.u64 (T_api_Addr.Fam x0), B := T_api_Addr.Hi x0, C := T_api_Addr.Lo x0 }) := by kernel_rfl
noncomputable def N_r11_address (m : Nat) (x0 : T_api_Addr) : Option T_api_Point := some ({ A := IntKind.wrap IntKind.u64 (T_api_Addr.Fam x0), B := T_api_Addr.Hi x0, C := T_api_Addr.Lo x0 })
theorem pr_r11_address (m : Nat) (x0 : T_api_Addr) : Ev.evBodyD (Es_r11_address ) MtCa (O_r11_address ) m 101 [v_api_Addr x0] = Ev.oE E_r11_address (N_r11_address m x0) := by
  rw [run_r11_address m x0]
  simp only [N_r11_address, Ev.oE_some, Ev.oE_none, Ev.oE_cond, Ev.oE_bnd]
noncomputable def F_r11_address : T_api_Addr → Option T_api_Point := fun x0 => N_r11_address 0 x0
theorem ok_r11_address : Ev.EnvOk (Ew_r11_address ) := Ev.envOk_with envOkd Ev.SpsOk.nil
theorem ro_r11_address : Ev.SpecRl (Ew_r11_address ) := Ev.specRl_with rfl Ev.SpsRl.nil
theorem g_r11_address : Ev.SpOk Try.prog false 101 (s_r11_address F_r11_address) := by
  refine Ev.SpOk.mkF fun vs k r g0 => ?_
  unfold s_r11_address at g0
  obtain ⟨a0, r0, rfl, g1⟩ := Ev.kU_ok g0
  obtain ⟨rfl, g2⟩ := Ev.kE_ok g1
  obtain ⟨x0, rfl, g3⟩ := d_api_Addr_ok g2
  obtain ⟨x, hx, h⟩ := Ev.bnd_get g3
  have h1 := pr_r11_address  0 x0
  rw [show N_r11_address  0 x0 = some x from hx] at h1
  exact ⟨_, h, Ev.good_of_inl ok_r11_address (ro_r11_address ) rfl rfl Ev.TabOk.nil 40 12 _ h1⟩
-- stockaderef11.Spot
-- DEEP r11_Spot 41 - T_api_Key → Int → Option (T_api_Point × Bool)
noncomputable def e_r11_Spot (x : T_api_Point × Bool) : Value := .tuple ⟨[v_api_Point (x.1), .bool (x.2)]⟩
noncomputable def E_r11_Spot (x : T_api_Point × Bool) : Value × Ev.AH := (e_r11_Spot x, ⟨[], 0, []⟩)
noncomputable def s_r11_Spot (F : T_api_Key → Int → Option (T_api_Point × Bool)) : Ev.Sp := fun vs k => Ev.kU vs fun a0 r0 => Ev.kU r0 fun a1 r1 => Ev.kE r1 <| d_api_Key a0 fun x0 => Ev.gI .i64 a1 fun x1 => Ev.bnd (F x0 x1) fun x => k (e_r11_Spot x)
theorem rs_r11_Spot (F : T_api_Key → Int → Option (T_api_Point × Bool)) : Ev.SpRl (s_r11_Spot F) := by
  intro S vs k k2 hk
  unfold s_r11_Spot
  refine Ev.rl_kU fun _ _ => ?_
  refine Ev.rl_kU fun _ _ => ?_
  refine Ev.rl_kE ?_
  refine rl_d_api_Key fun _ => ?_
  refine Ev.rl_gI fun _ => ?_
  exact Ev.Rl.bnd fun x => hk _
noncomputable def Ew_r11_Spot (F_r10_RightKey : T_api_Key → Option Bool) (F_r11_number : Int → Option T_api_Point) (F_r11_address : T_api_Addr → Option T_api_Point) : Ev.Env := Ev.Env.with Ed [(23, s_r10_RightKey F_r10_RightKey), (100, s_r11_number F_r11_number), (101, s_r11_address F_r11_address)]
noncomputable def Es_r11_Spot (F_r10_RightKey : T_api_Key → Option Bool) (F_r11_number : Int → Option T_api_Point) (F_r11_address : T_api_Addr → Option T_api_Point) : Ev.Env := Ev.Env.inl (Ew_r11_Spot F_r10_RightKey F_r11_number F_r11_address) MtCa [] 40 12
noncomputable def O_r11_Spot (F_r10_RightKey : T_api_Key → Option Bool) (F_r11_number : Int → Option T_api_Point) (F_r11_address : T_api_Addr → Option T_api_Point) : Ev.Orc := fun _ _ _ => none
theorem run_r11_Spot (F_r10_RightKey : T_api_Key → Option Bool) (F_r11_number : Int → Option T_api_Point) (F_r11_address : T_api_Addr → Option T_api_Point) (m : Nat) (x0 : T_api_Key) (x1 : Int) : Ev.evBodyD (Es_r11_Spot F_r10_RightKey F_r11_number F_r11_address) MtCa (O_r11_Spot F_r10_RightKey F_r11_number F_r11_address) m 41 [v_api_Key x0, .int .i64 x1] = Ev.bnd (F_r10_RightKey { From := T_api_Key.From x0, To := T_api_Key.To x0, Src_Fam := T_api_Key.Src_Fam x0, Src_Hi := T_api_Key.Src_Hi x0, Src_Lo := T_api_Key.Src_Lo x0, Dst_Fam := T_api_Key.Dst_Fam x0, Dst_Hi := T_api_Key.Dst_Hi x0, Dst_Lo := T_api_Key.Dst_Lo x0, Proto := T_api_Key.Proto x0, Sport := T_api_Key.Sport x0, Dport := T_api_Key.Dport x0 }) fun v0 => bif !v0 then Ev.ret2 (E_r11_Spot ({ A := 0, B := 0, C := 0 }, false)) else bif x1 == 0 then Ev.bnd (F_r11_number (T_api_Key.From x0)) fun v1 => Ev.ret2 (E_r11_Spot ({ A := T_api_Point.A v1, B := T_api_Point.B v1, C := T_api_Point.C v1 }, true)) else bif x1 == 1 then Ev.bnd (F_r11_number (T_api_Key.To x0)) fun v2 => Ev.ret2 (E_r11_Spot ({ A := T_api_Point.A v2, B := T_api_Point.B v2, C := T_api_Point.C v2 }, true)) else bif x1 == 2 then Ev.bnd (F_r11_address { Fam := T_api_Key.Src_Fam x0, Hi := T_api_Key.Src_Hi x0, Lo := T_api_Key.Src_Lo x0 }) fun v3 => Ev.ret2 (E_r11_Spot ({ A := T_api_Point.A v3, B := T_api_Point.B v3, C := T_api_Point.C v3 }, true)) else bif x1 == 3 then Ev.bnd (F_r11_address { Fam := T_api_Key.Dst_Fam x0, Hi := T_api_Key.Dst_Hi x0, Lo := T_api_Key.Dst_Lo x0 }) fun v4 => Ev.ret2 (E_r11_Spot ({ A := T_api_Point.A v4, B := T_api_Point.B v4, C := T_api_Point.C v4 }, true)) else bif x1 == 4 then Ev.bnd (F_r11_number (T_api_Key.Proto x0)) fun v5 => Ev.ret2 (E_r11_Spot ({ A := T_api_Point.A v5, B := T_api_Point.B v5, C := T_api_Point.C v5 }, true)) else bif x1 == 5 then Ev.bnd (F_r11_number (T_api_Key.Sport x0)) fun v6 => Ev.ret2 (E_r11_Spot ({ A := T_api_Point.A v6, B := T_api_Point.B v6, C := T_api_Point.C v6 }, true)) else bif x1 == 6 then Ev.bnd (F_r11_number (T_api_Key.Dport x0)) fun v7 => Ev.ret2 (E_r11_Spot ({ A := T_api_Point.A v7, B := T_api_Point.B v7, C := T_api_Point.C v7 }, true)) else Ev.ret2 (E_r11_Spot ({ A := 0, B := 0, C := 0 }, false)) := by kernel_rfl
noncomputable def N_r11_Spot (F_r10_RightKey : T_api_Key → Option Bool) (F_r11_number : Int → Option T_api_Point) (F_r11_address : T_api_Addr → Option T_api_Point) (m : Nat) (x0 : T_api_Key) (x1 : Int) : Option (T_api_Point × Bool) := Ev.bnd (F_r10_RightKey { From := T_api_Key.From x0, To := T_api_Key.To x0, Src_Fam := T_api_Key.Src_Fam x0, Src_Hi := T_api_Key.Src_Hi x0, Src_Lo := T_api_Key.Src_Lo x0, Dst_Fam := T_api_Key.Dst_Fam x0, Dst_Hi := T_api_Key.Dst_Hi x0, Dst_Lo := T_api_Key.Dst_Lo x0, Proto := T_api_Key.Proto x0, Sport := T_api_Key.Sport x0, Dport := T_api_Key.Dport x0 }) fun v0 => bif !v0 then some ({ A := 0, B := 0, C := 0 }, false) else bif x1 == 0 then Ev.bnd (F_r11_number (T_api_Key.From x0)) fun v1 => some ({ A := T_api_Point.A v1, B := T_api_Point.B v1, C := T_api_Point.C v1 }, true) else bif x1 == 1 then Ev.bnd (F_r11_number (T_api_Key.To x0)) fun v2 => some ({ A := T_api_Point.A v2, B := T_api_Point.B v2, C := T_api_Point.C v2 }, true) else bif x1 == 2 then Ev.bnd (F_r11_address { Fam := T_api_Key.Src_Fam x0, Hi := T_api_Key.Src_Hi x0, Lo := T_api_Key.Src_Lo x0 }) fun v3 => some ({ A := T_api_Point.A v3, B := T_api_Point.B v3, C := T_api_Point.C v3 }, true) else bif x1 == 3 then Ev.bnd (F_r11_address { Fam := T_api_Key.Dst_Fam x0, Hi := T_api_Key.Dst_Hi x0, Lo := T_api_Key.Dst_Lo x0 }) fun v4 => some ({ A := T_api_Point.A v4, B := T_api_Point.B v4, C := T_api_Point.C v4 }, true) else bif x1 == 4 then Ev.bnd (F_r11_number (T_api_Key.Proto x0)) fun v5 => some ({ A := T_api_Point.A v5, B := T_api_Point.B v5, C := T_api_Point.C v5 }, true) else bif x1 == 5 then Ev.bnd (F_r11_number (T_api_Key.Sport x0)) fun v6 => some ({ A := T_api_Point.A v6, B := T_api_Point.B v6, C := T_api_Point.C v6 }, true) else bif x1 == 6 then Ev.bnd (F_r11_number (T_api_Key.Dport x0)) fun v7 => some ({ A := T_api_Point.A v7, B := T_api_Point.B v7, C := T_api_Point.C v7 }, true) else some ({ A := 0, B := 0, C := 0 }, false)
theorem pr_r11_Spot (F_r10_RightKey : T_api_Key → Option Bool) (F_r11_number : Int → Option T_api_Point) (F_r11_address : T_api_Addr → Option T_api_Point) (m : Nat) (x0 : T_api_Key) (x1 : Int) : Ev.evBodyD (Es_r11_Spot F_r10_RightKey F_r11_number F_r11_address) MtCa (O_r11_Spot F_r10_RightKey F_r11_number F_r11_address) m 41 [v_api_Key x0, .int .i64 x1] = Ev.oE E_r11_Spot (N_r11_Spot F_r10_RightKey F_r11_number F_r11_address m x0 x1) := by
  rw [run_r11_Spot F_r10_RightKey F_r11_number F_r11_address m x0 x1]
  simp only [N_r11_Spot, Ev.oE_some, Ev.oE_none, Ev.oE_cond, Ev.oE_bnd]
noncomputable def F_r11_Spot : T_api_Key → Int → Option (T_api_Point × Bool) := fun x0 x1 => N_r11_Spot F_r10_RightKey F_r11_number F_r11_address 0 x0 x1
theorem ok_r11_Spot : Ev.EnvOk (Ew_r11_Spot F_r10_RightKey F_r11_number F_r11_address) := Ev.envOk_with envOkd (Ev.SpsOk.add (b := false) g_r10_RightKey (by kernel_rfl) (Ev.SpsOk.add (b := false) g_r11_number (by kernel_rfl) (Ev.SpsOk.add (b := false) g_r11_address (by kernel_rfl) Ev.SpsOk.nil)))
theorem ro_r11_Spot (F_r10_RightKey : T_api_Key → Option Bool) (F_r11_number : Int → Option T_api_Point) (F_r11_address : T_api_Addr → Option T_api_Point) : Ev.SpecRl (Ew_r11_Spot F_r10_RightKey F_r11_number F_r11_address) := Ev.specRl_with rfl (Ev.SpsRl.cons (rs_r10_RightKey _) (Ev.SpsRl.cons (rs_r11_number _) (Ev.SpsRl.cons (rs_r11_address _) Ev.SpsRl.nil)))
theorem g_r11_Spot : Ev.SpOk Try.prog false 41 (s_r11_Spot F_r11_Spot) := by
  refine Ev.SpOk.mkF fun vs k r g0 => ?_
  unfold s_r11_Spot at g0
  obtain ⟨a0, r0, rfl, g1⟩ := Ev.kU_ok g0
  obtain ⟨a1, r1, rfl, g2⟩ := Ev.kU_ok g1
  obtain ⟨rfl, g3⟩ := Ev.kE_ok g2
  obtain ⟨x0, rfl, g4⟩ := d_api_Key_ok g3
  obtain ⟨x1, rfl, g5⟩ := Ev.gI_ok g4
  obtain ⟨x, hx, h⟩ := Ev.bnd_get g5
  have h1 := pr_r11_Spot F_r10_RightKey F_r11_number F_r11_address 0 x0 x1
  rw [show N_r11_Spot F_r10_RightKey F_r11_number F_r11_address 0 x0 x1 = some x from hx] at h1
  exact ⟨_, h, Ev.good_of_inl ok_r11_Spot (ro_r11_Spot F_r10_RightKey F_r11_number F_r11_address) rfl rfl Ev.TabOk.nil 40 12 _ h1⟩
end Go.Proofs.Ytnkmdjngnmenbaa
