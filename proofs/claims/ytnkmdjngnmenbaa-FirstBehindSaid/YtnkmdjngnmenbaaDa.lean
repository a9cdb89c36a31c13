/-
  Functions of the seat's program, printed by a program of ours: what each comes to, and that it is so. No conditions.
-/
import Derived.Test.YtnkmdjngnmenbaaEnv
namespace Go.Proofs.Ytnkmdjngnmenbaa
open Go
set_option linter.unusedVariables false
set_option linter.unusedSimpArgs false
@[ext] structure T_api_Addr where
  Fam : Int
  Hi : Int
  Lo : Int
noncomputable def c_api_Addr (x : T_api_Addr) : List Value := [.int .i64 x.Fam, .int .u64 x.Hi, .int .u64 x.Lo]
noncomputable def v_api_Addr (x : T_api_Addr) : Value := .agg ⟨[.int .i64 x.Fam, .int .u64 x.Hi, .int .u64 x.Lo]⟩
noncomputable def u_api_Addr (v : Value) : T_api_Addr := match v with | .agg ⟨[a0, a1, a2]⟩ => ⟨Ev.uI a0, Ev.uI a1, Ev.uI a2⟩ | _ => ⟨0, 0, 0⟩
noncomputable def d_api_Addr (v : Value) (c : T_api_Addr → Ev.Res) : Ev.Res := match v with | .agg ⟨[a0, a1, a2]⟩ => Ev.gI .i64 a0 fun b0 => Ev.gI .u64 a1 fun b1 => Ev.gI .u64 a2 fun b2 => c ⟨b0, b1, b2⟩ | _ => none
theorem d_api_Addr_ok {v : Value} {c : T_api_Addr → Ev.Res} {r : Value × Ev.AH} (h : d_api_Addr v c = some r) : ∃ x, v = v_api_Addr x ∧ c x = some r := by
  unfold d_api_Addr at h
  split at h
  · obtain ⟨b0, rfl, h0⟩ := Ev.gI_ok h
    obtain ⟨b1, rfl, h1⟩ := Ev.gI_ok h0
    obtain ⟨b2, rfl, h2⟩ := Ev.gI_ok h1
    exact ⟨⟨b0, b1, b2⟩, rfl, h2⟩
  · cases h
@[ext] structure T_api_Prefix where
  Addr_Fam : Int
  Addr_Hi : Int
  Addr_Lo : Int
  Bits : Int
noncomputable def c_api_Prefix (x : T_api_Prefix) : List Value := [.int .i64 x.Addr_Fam, .int .u64 x.Addr_Hi, .int .u64 x.Addr_Lo, .int .i64 x.Bits]
noncomputable def v_api_Prefix (x : T_api_Prefix) : Value := .agg ⟨[.int .i64 x.Addr_Fam, .int .u64 x.Addr_Hi, .int .u64 x.Addr_Lo, .int .i64 x.Bits]⟩
noncomputable def u_api_Prefix (v : Value) : T_api_Prefix := match v with | .agg ⟨[a0, a1, a2, a3]⟩ => ⟨Ev.uI a0, Ev.uI a1, Ev.uI a2, Ev.uI a3⟩ | _ => ⟨0, 0, 0, 0⟩
noncomputable def d_api_Prefix (v : Value) (c : T_api_Prefix → Ev.Res) : Ev.Res := match v with | .agg ⟨[a0, a1, a2, a3]⟩ => Ev.gI .i64 a0 fun b0 => Ev.gI .u64 a1 fun b1 => Ev.gI .u64 a2 fun b2 => Ev.gI .i64 a3 fun b3 => c ⟨b0, b1, b2, b3⟩ | _ => none
theorem d_api_Prefix_ok {v : Value} {c : T_api_Prefix → Ev.Res} {r : Value × Ev.AH} (h : d_api_Prefix v c = some r) : ∃ x, v = v_api_Prefix x ∧ c x = some r := by
  unfold d_api_Prefix at h
  split at h
  · obtain ⟨b0, rfl, h0⟩ := Ev.gI_ok h
    obtain ⟨b1, rfl, h1⟩ := Ev.gI_ok h0
    obtain ⟨b2, rfl, h2⟩ := Ev.gI_ok h1
    obtain ⟨b3, rfl, h3⟩ := Ev.gI_ok h2
    exact ⟨⟨b0, b1, b2, b3⟩, rfl, h3⟩
  · cases h
@[ext] structure T_api_Ports where
  Lo : Int
  Hi : Int
noncomputable def c_api_Ports (x : T_api_Ports) : List Value := [.int .i64 x.Lo, .int .i64 x.Hi]
noncomputable def v_api_Ports (x : T_api_Ports) : Value := .agg ⟨[.int .i64 x.Lo, .int .i64 x.Hi]⟩
noncomputable def u_api_Ports (v : Value) : T_api_Ports := match v with | .agg ⟨[a0, a1]⟩ => ⟨Ev.uI a0, Ev.uI a1⟩ | _ => ⟨0, 0⟩
noncomputable def d_api_Ports (v : Value) (c : T_api_Ports → Ev.Res) : Ev.Res := match v with | .agg ⟨[a0, a1]⟩ => Ev.gI .i64 a0 fun b0 => Ev.gI .i64 a1 fun b1 => c ⟨b0, b1⟩ | _ => none
theorem d_api_Ports_ok {v : Value} {c : T_api_Ports → Ev.Res} {r : Value × Ev.AH} (h : d_api_Ports v c = some r) : ∃ x, v = v_api_Ports x ∧ c x = some r := by
  unfold d_api_Ports at h
  split at h
  · obtain ⟨b0, rfl, h0⟩ := Ev.gI_ok h
    obtain ⟨b1, rfl, h1⟩ := Ev.gI_ok h0
    exact ⟨⟨b0, b1⟩, rfl, h1⟩
  · cases h
@[ext] structure T_api_Rule where
  From : Int
  To : Int
  Src_Addr_Fam : Int
  Src_Addr_Hi : Int
  Src_Addr_Lo : Int
  Src_Bits : Int
  Dst_Addr_Fam : Int
  Dst_Addr_Hi : Int
  Dst_Addr_Lo : Int
  Dst_Bits : Int
  Proto : Int
  Sport_Lo : Int
  Sport_Hi : Int
  Dport_Lo : Int
  Dport_Hi : Int
  Action : Int
  Help : Int
noncomputable def c_api_Rule (x : T_api_Rule) : List Value := [.int .i64 x.From, .int .i64 x.To, .int .i64 x.Src_Addr_Fam, .int .u64 x.Src_Addr_Hi, .int .u64 x.Src_Addr_Lo, .int .i64 x.Src_Bits, .int .i64 x.Dst_Addr_Fam, .int .u64 x.Dst_Addr_Hi, .int .u64 x.Dst_Addr_Lo, .int .i64 x.Dst_Bits, .int .i64 x.Proto, .int .i64 x.Sport_Lo, .int .i64 x.Sport_Hi, .int .i64 x.Dport_Lo, .int .i64 x.Dport_Hi, .int .i64 x.Action, .int .i64 x.Help]
noncomputable def v_api_Rule (x : T_api_Rule) : Value := .agg ⟨[.int .i64 x.From, .int .i64 x.To, .int .i64 x.Src_Addr_Fam, .int .u64 x.Src_Addr_Hi, .int .u64 x.Src_Addr_Lo, .int .i64 x.Src_Bits, .int .i64 x.Dst_Addr_Fam, .int .u64 x.Dst_Addr_Hi, .int .u64 x.Dst_Addr_Lo, .int .i64 x.Dst_Bits, .int .i64 x.Proto, .int .i64 x.Sport_Lo, .int .i64 x.Sport_Hi, .int .i64 x.Dport_Lo, .int .i64 x.Dport_Hi, .int .i64 x.Action, .int .i64 x.Help]⟩
noncomputable def u_api_Rule (v : Value) : T_api_Rule := match v with | .agg ⟨[a0, a1, a2, a3, a4, a5, a6, a7, a8, a9, a10, a11, a12, a13, a14, a15, a16]⟩ => ⟨Ev.uI a0, Ev.uI a1, Ev.uI a2, Ev.uI a3, Ev.uI a4, Ev.uI a5, Ev.uI a6, Ev.uI a7, Ev.uI a8, Ev.uI a9, Ev.uI a10, Ev.uI a11, Ev.uI a12, Ev.uI a13, Ev.uI a14, Ev.uI a15, Ev.uI a16⟩ | _ => ⟨0, 0, 0, 0, 0, 0, 0, 0, 0, 0, 0, 0, 0, 0, 0, 0, 0⟩
noncomputable def d_api_Rule (v : Value) (c : T_api_Rule → Ev.Res) : Ev.Res := match v with | .agg ⟨[a0, a1, a2, a3, a4, a5, a6, a7, a8, a9, a10, a11, a12, a13, a14, a15, a16]⟩ => Ev.gI .i64 a0 fun b0 => Ev.gI .i64 a1 fun b1 => Ev.gI .i64 a2 fun b2 => Ev.gI .u64 a3 fun b3 => Ev.gI .u64 a4 fun b4 => Ev.gI .i64 a5 fun b5 => Ev.gI .i64 a6 fun b6 => Ev.gI .u64 a7 fun b7 => Ev.gI .u64 a8 fun b8 => Ev.gI .i64 a9 fun b9 => Ev.gI .i64 a10 fun b10 => Ev.gI .i64 a11 fun b11 => Ev.gI .i64 a12 fun b12 => Ev.gI .i64 a13 fun b13 => Ev.gI .i64 a14 fun b14 => Ev.gI .i64 a15 fun b15 => Ev.gI .i64 a16 fun b16 => c ⟨b0, b1, b2, b3, b4, b5, b6, b7, b8, b9, b10, b11, b12, b13, b14, b15, b16⟩ | _ => none
theorem d_api_Rule_ok {v : Value} {c : T_api_Rule → Ev.Res} {r : Value × Ev.AH} (h : d_api_Rule v c = some r) : ∃ x, v = v_api_Rule x ∧ c x = some r := by
  unfold d_api_Rule at h
  split at h
  · obtain ⟨b0, rfl, h0⟩ := Ev.gI_ok h
    obtain ⟨b1, rfl, h1⟩ := Ev.gI_ok h0
    obtain ⟨b2, rfl, h2⟩ := Ev.gI_ok h1
    obtain ⟨b3, rfl, h3⟩ := Ev.gI_ok h2
    obtain ⟨b4, rfl, h4⟩ := Ev.gI_ok h3
    obtain ⟨b5, rfl, h5⟩ := Ev.gI_ok h4
    obtain ⟨b6, rfl, h6⟩ := Ev.gI_ok h5
    obtain ⟨b7, rfl, h7⟩ := Ev.gI_ok h6
    obtain ⟨b8, rfl, h8⟩ := Ev.gI_ok h7
    obtain ⟨b9, rfl, h9⟩ := Ev.gI_ok h8
    obtain ⟨b10, rfl, h10⟩ := Ev.gI_ok h9
    obtain ⟨b11, rfl, h11⟩ := Ev.gI_ok h10
    obtain ⟨b12, rfl, h12⟩ := Ev.gI_ok h11
    obtain ⟨b13, rfl, h13⟩ := Ev.gI_ok h12
    obtain ⟨b14, rfl, h14⟩ := Ev.gI_ok h13
    obtain ⟨b15, rfl, h15⟩ := Ev.gI_ok h14
    obtain ⟨b16, rfl, h16⟩ := Ev.gI_ok h15
    exact ⟨⟨b0, b1, b2, b3, b4, b5, b6, b7, b8, b9, b10, b11, b12, b13, b14, b15, b16⟩, rfl, h16⟩
  · cases h
@[ext] structure T_api_Key where
  From : Int
  To : Int
  Src_Fam : Int
  Src_Hi : Int
  Src_Lo : Int
  Dst_Fam : Int
  Dst_Hi : Int
  Dst_Lo : Int
  Proto : Int
  Sport : Int
  Dport : Int
noncomputable def c_api_Key (x : T_api_Key) : List Value := [.int .i64 x.From, .int .i64 x.To, .int .i64 x.Src_Fam, .int .u64 x.Src_Hi, .int .u64 x.Src_Lo, .int .i64 x.Dst_Fam, .int .u64 x.Dst_Hi, .int .u64 x.Dst_Lo, .int .i64 x.Proto, .int .i64 x.Sport, .int .i64 x.Dport]
noncomputable def v_api_Key (x : T_api_Key) : Value := .agg ⟨[.int .i64 x.From, .int .i64 x.To, .int .i64 x.Src_Fam, .int .u64 x.Src_Hi, .int .u64 x.Src_Lo, .int .i64 x.Dst_Fam, .int .u64 x.Dst_Hi, .int .u64 x.Dst_Lo, .int .i64 x.Proto, .int .i64 x.Sport, .int .i64 x.Dport]⟩
noncomputable def u_api_Key (v : Value) : T_api_Key := match v with | .agg ⟨[a0, a1, a2, a3, a4, a5, a6, a7, a8, a9, a10]⟩ => ⟨Ev.uI a0, Ev.uI a1, Ev.uI a2, Ev.uI a3, Ev.uI a4, Ev.uI a5, Ev.uI a6, Ev.uI a7, Ev.uI a8, Ev.uI a9, Ev.uI a10⟩ | _ => ⟨0, 0, 0, 0, 0, 0, 0, 0, 0, 0, 0⟩
noncomputable def d_api_Key (v : Value) (c : T_api_Key → Ev.Res) : Ev.Res := match v with | .agg ⟨[a0, a1, a2, a3, a4, a5, a6, a7, a8, a9, a10]⟩ => Ev.gI .i64 a0 fun b0 => Ev.gI .i64 a1 fun b1 => Ev.gI .i64 a2 fun b2 => Ev.gI .u64 a3 fun b3 => Ev.gI .u64 a4 fun b4 => Ev.gI .i64 a5 fun b5 => Ev.gI .u64 a6 fun b6 => Ev.gI .u64 a7 fun b7 => Ev.gI .i64 a8 fun b8 => Ev.gI .i64 a9 fun b9 => Ev.gI .i64 a10 fun b10 => c ⟨b0, b1, b2, b3, b4, b5, b6, b7, b8, b9, b10⟩ | _ => none
theorem d_api_Key_ok {v : Value} {c : T_api_Key → Ev.Res} {r : Value × Ev.AH} (h : d_api_Key v c = some r) : ∃ x, v = v_api_Key x ∧ c x = some r := by
  unfold d_api_Key at h
  split at h
  · obtain ⟨b0, rfl, h0⟩ := Ev.gI_ok h
    obtain ⟨b1, rfl, h1⟩ := Ev.gI_ok h0
    obtain ⟨b2, rfl, h2⟩ := Ev.gI_ok h1
    obtain ⟨b3, rfl, h3⟩ := Ev.gI_ok h2
    obtain ⟨b4, rfl, h4⟩ := Ev.gI_ok h3
    obtain ⟨b5, rfl, h5⟩ := Ev.gI_ok h4
    obtain ⟨b6, rfl, h6⟩ := Ev.gI_ok h5
    obtain ⟨b7, rfl, h7⟩ := Ev.gI_ok h6
    obtain ⟨b8, rfl, h8⟩ := Ev.gI_ok h7
    obtain ⟨b9, rfl, h9⟩ := Ev.gI_ok h8
    obtain ⟨b10, rfl, h10⟩ := Ev.gI_ok h9
    exact ⟨⟨b0, b1, b2, b3, b4, b5, b6, b7, b8, b9, b10⟩, rfl, h10⟩
  · cases h
theorem rl_d_api_Addr {S : (Value × Ev.AH) → Ev.Res → Prop} {v : Value} {c c2 : T_api_Addr → Ev.Res} (h : ∀ a, Ev.Rl S (c a) (c2 a)) : Ev.Rl S (d_api_Addr v c) (d_api_Addr v c2) := by
  unfold d_api_Addr
  split
  · refine Ev.rl_gI fun _ => ?_
    refine Ev.rl_gI fun _ => ?_
    refine Ev.rl_gI fun _ => ?_
    exact h _
  · exact Ev.Rl.none
theorem rl_d_api_Prefix {S : (Value × Ev.AH) → Ev.Res → Prop} {v : Value} {c c2 : T_api_Prefix → Ev.Res} (h : ∀ a, Ev.Rl S (c a) (c2 a)) : Ev.Rl S (d_api_Prefix v c) (d_api_Prefix v c2) := by
  unfold d_api_Prefix
  split
  · refine Ev.rl_gI fun _ => ?_
    refine Ev.rl_gI fun _ => ?_
    refine Ev.rl_gI fun _ => ?_
    refine Ev.rl_gI fun _ => ?_
    exact h _
  · exact Ev.Rl.none
theorem rl_d_api_Ports {S : (Value × Ev.AH) → Ev.Res → Prop} {v : Value} {c c2 : T_api_Ports → Ev.Res} (h : ∀ a, Ev.Rl S (c a) (c2 a)) : Ev.Rl S (d_api_Ports v c) (d_api_Ports v c2) := by
  unfold d_api_Ports
  split
  · refine Ev.rl_gI fun _ => ?_
    refine Ev.rl_gI fun _ => ?_
    exact h _
  · exact Ev.Rl.none
theorem rl_d_api_Rule {S : (Value × Ev.AH) → Ev.Res → Prop} {v : Value} {c c2 : T_api_Rule → Ev.Res} (h : ∀ a, Ev.Rl S (c a) (c2 a)) : Ev.Rl S (d_api_Rule v c) (d_api_Rule v c2) := by
  unfold d_api_Rule
  split
  · refine Ev.rl_gI fun _ => ?_
    refine Ev.rl_gI fun _ => ?_
    refine Ev.rl_gI fun _ => ?_
    refine Ev.rl_gI fun _ => ?_
    refine Ev.rl_gI fun _ => ?_
    refine Ev.rl_gI fun _ => ?_
    refine Ev.rl_gI fun _ => ?_
    refine Ev.rl_gI fun _ => ?_
    refine Ev.rl_gI fun _ => ?_
    refine Ev.rl_gI fun _ => ?_
    refine Ev.rl_gI fun _ => ?_
    refine Ev.rl_gI fun _ => ?_
    refine Ev.rl_gI fun _ => ?_
    refine Ev.rl_gI fun _ => ?_
    refine Ev.rl_gI fun _ => ?_
    refine Ev.rl_gI fun _ => ?_
    refine Ev.rl_gI fun _ => ?_
    exact h _
  · exact Ev.Rl.none
theorem rl_d_api_Key {S : (Value × Ev.AH) → Ev.Res → Prop} {v : Value} {c c2 : T_api_Key → Ev.Res} (h : ∀ a, Ev.Rl S (c a) (c2 a)) : Ev.Rl S (d_api_Key v c) (d_api_Key v c2) := by
  unfold d_api_Key
  split
  · refine Ev.rl_gI fun _ => ?_
    refine Ev.rl_gI fun _ => ?_
    refine Ev.rl_gI fun _ => ?_
    refine Ev.rl_gI fun _ => ?_
    refine Ev.rl_gI fun _ => ?_
    refine Ev.rl_gI fun _ => ?_
    refine Ev.rl_gI fun _ => ?_
    refine Ev.rl_gI fun _ => ?_
    refine Ev.rl_gI fun _ => ?_
    refine Ev.rl_gI fun _ => ?_
    refine Ev.rl_gI fun _ => ?_
    exact h _
  · exact Ev.Rl.none
noncomputable def MtDa : Ev.Mats := { slots := fun f i => [], cells := fun f i => [], own := fun f => false }
-- addr.Right
-- DEEP addr_Right 56 - T_api_Addr → Option Bool
noncomputable def e_addr_Right (x : Bool) : Value := .bool x
noncomputable def E_addr_Right (x : Bool) : Value × Ev.AH := (e_addr_Right x, ⟨[], 0, []⟩)
noncomputable def s_addr_Right (F : T_api_Addr → Option Bool) : Ev.Sp := fun vs k => Ev.kU vs fun a0 r0 => Ev.kE r0 <| d_api_Addr a0 fun x0 => Ev.bnd (F x0) fun x => k (e_addr_Right x)
theorem rs_addr_Right (F : T_api_Addr → Option Bool) : Ev.SpRl (s_addr_Right F) := by
  intro S vs k k2 hk
  unfold s_addr_Right
  refine Ev.rl_kU fun _ _ => ?_
  refine Ev.rl_kE ?_
  refine rl_d_api_Addr fun _ => ?_
  exact Ev.Rl.bnd fun x => hk _
noncomputable def Ew_addr_Right : Ev.Env := Ev.Env.with Ed []
noncomputable def Es_addr_Right : Ev.Env := Ev.Env.inl (Ew_addr_Right ) MtDa [] 40 12
noncomputable def O_addr_Right : Ev.Orc := fun _ _ _ => none
theorem run_addr_Right (m : Nat) (x0 : T_api_Addr) : Ev.evBodyD (Es_addr_Right ) MtDa (O_addr_Right ) m 56 [v_api_Addr x0] = bif T_api_Addr.Fam x0 == 4 then bif T_api_Addr.Hi x0 == 0 then Ev.ret2 (E_addr_Right (Int.fdiv (T_api_Addr.Lo x0) 4294967296 == 0)) else Ev.ret2 (E_addr_Right false) else bif T_api_Addr.Fam x0 == 6 then Ev.ret2 (E_addr_Right true) else Ev.ret2 (E_addr_Right false) := by kernel_rfl
noncomputable def N_addr_Right (m : Nat) (x0 : T_api_Addr) : Option Bool := bif T_api_Addr.Fam x0 == 4 then bif T_api_Addr.Hi x0 == 0 then some (Int.fdiv (T_api_Addr.Lo x0) 4294967296 == 0) else some false else bif T_api_Addr.Fam x0 == 6 then some true else some false
theorem pr_addr_Right (m : Nat) (x0 : T_api_Addr) : Ev.evBodyD (Es_addr_Right ) MtDa (O_addr_Right ) m 56 [v_api_Addr x0] = Ev.oE E_addr_Right (N_addr_Right m x0) := by
  rw [run_addr_Right]
  simp only [N_addr_Right, Ev.oE_some, Ev.oE_none, Ev.oE_cond, Ev.oE_bnd]
noncomputable def F_addr_Right : T_api_Addr → Option Bool := fun x0 => N_addr_Right 0 x0
theorem ok_addr_Right : Ev.EnvOk (Ew_addr_Right ) := Ev.envOk_with envOkd Ev.SpsOk.nil
theorem ro_addr_Right : Ev.SpecRl (Ew_addr_Right ) := Ev.specRl_with rfl Ev.SpsRl.nil
theorem g_addr_Right : Ev.SpOk Try.prog false 56 (s_addr_Right F_addr_Right) := by
  refine Ev.SpOk.mkF fun vs k r g0 => ?_
  unfold s_addr_Right at g0
  obtain ⟨a0, r0, rfl, g1⟩ := Ev.kU_ok g0
  obtain ⟨rfl, g2⟩ := Ev.kE_ok g1
  obtain ⟨x0, rfl, g3⟩ := d_api_Addr_ok g2
  obtain ⟨x, hx, h⟩ := Ev.bnd_get g3
  have h1 := pr_addr_Right  0 x0
  rw [show N_addr_Right  0 x0 = some x from hx] at h1
  exact ⟨_, h, Ev.good_of_inl ok_addr_Right (ro_addr_Right ) rfl rfl Ev.TabOk.nil 40 12 _ h1⟩
-- addr.bits
-- DEEP addr_bits 139 - T_api_Addr → Option Int
noncomputable def e_addr_bits (x : Int) : Value := .int .i64 x
noncomputable def E_addr_bits (x : Int) : Value × Ev.AH := (e_addr_bits x, ⟨[], 0, []⟩)
noncomputable def s_addr_bits (F : T_api_Addr → Option Int) : Ev.Sp := fun vs k => Ev.kU vs fun a0 r0 => Ev.kE r0 <| d_api_Addr a0 fun x0 => Ev.bnd (F x0) fun x => k (e_addr_bits x)
theorem rs_addr_bits (F : T_api_Addr → Option Int) : Ev.SpRl (s_addr_bits F) := by
  intro S vs k k2 hk
  unfold s_addr_bits
  refine Ev.rl_kU fun _ _ => ?_
  refine Ev.rl_kE ?_
  refine rl_d_api_Addr fun _ => ?_
  exact Ev.Rl.bnd fun x => hk _
noncomputable def Ew_addr_bits : Ev.Env := Ev.Env.with Ed []
noncomputable def Es_addr_bits : Ev.Env := Ev.Env.inl (Ew_addr_bits ) MtDa [] 40 12
noncomputable def O_addr_bits : Ev.Orc := fun _ _ _ => none
theorem run_addr_bits (m : Nat) (x0 : T_api_Addr) : Ev.evBodyD (Es_addr_bits ) MtDa (O_addr_bits ) m 139 [v_api_Addr x0] = bif T_api_Addr.Fam x0 == 4 then Ev.ret2 (E_addr_bits 32) else Ev.ret2 (E_addr_bits 128) := by kernel_rfl
noncomputable def N_addr_bits (m : Nat) (x0 : T_api_Addr) : Option Int := bif T_api_Addr.Fam x0 == 4 then some 32 else some 128
theorem pr_addr_bits (m : Nat) (x0 : T_api_Addr) : Ev.evBodyD (Es_addr_bits ) MtDa (O_addr_bits ) m 139 [v_api_Addr x0] = Ev.oE E_addr_bits (N_addr_bits m x0) := by
  rw [run_addr_bits]
  simp only [N_addr_bits, Ev.oE_some, Ev.oE_none, Ev.oE_cond, Ev.oE_bnd]
noncomputable def F_addr_bits : T_api_Addr → Option Int := fun x0 => N_addr_bits 0 x0
theorem ok_addr_bits : Ev.EnvOk (Ew_addr_bits ) := Ev.envOk_with envOkd Ev.SpsOk.nil
theorem ro_addr_bits : Ev.SpecRl (Ew_addr_bits ) := Ev.specRl_with rfl Ev.SpsRl.nil
theorem g_addr_bits : Ev.SpOk Try.prog false 139 (s_addr_bits F_addr_bits) := by
  refine Ev.SpOk.mkF fun vs k r g0 => ?_
  unfold s_addr_bits at g0
  obtain ⟨a0, r0, rfl, g1⟩ := Ev.kU_ok g0
  obtain ⟨rfl, g2⟩ := Ev.kE_ok g1
  obtain ⟨x0, rfl, g3⟩ := d_api_Addr_ok g2
  obtain ⟨x, hx, h⟩ := Ev.bnd_get g3
  have h1 := pr_addr_bits  0 x0
  rw [show N_addr_bits  0 x0 = some x from hx] at h1
  exact ⟨_, h, Ev.good_of_inl ok_addr_bits (ro_addr_bits ) rfl rfl Ev.TabOk.nil 40 12 _ h1⟩
-- addr.high
-- DEEP addr_high 140 - Int → Option Int
noncomputable def e_addr_high (x : Int) : Value := .int .u64 x
noncomputable def E_addr_high (x : Int) : Value × Ev.AH := (e_addr_high x, ⟨[], 0, []⟩)
noncomputable def s_addr_high (F : Int → Option Int) : Ev.Sp := fun vs k => Ev.kU vs fun a0 r0 => Ev.kE r0 <| Ev.gI .i64 a0 fun x0 => Ev.bnd (F x0) fun x => k (e_addr_high x)
theorem rs_addr_high (F : Int → Option Int) : Ev.SpRl (s_addr_high F) := by
  intro S vs k k2 hk
  unfold s_addr_high
  refine Ev.rl_kU fun _ _ => ?_
  refine Ev.rl_kE ?_
  refine Ev.rl_gI fun _ => ?_
  exact Ev.Rl.bnd fun x => hk _
noncomputable def Ew_addr_high : Ev.Env := Ev.Env.with Ed []
noncomputable def Es_addr_high : Ev.Env := Ev.Env.inl (Ew_addr_high ) MtDa [] 40 12
noncomputable def O_addr_high : Ev.Orc := fun _ _ _ => none
theorem run_addr_high (m : Nat) (x0 : Int) : Ev.evBodyD (Es_addr_high ) MtDa (O_addr_high ) m 140 [.int .i64 x0] = bif decide (Min.min (Max.max x0 0) 64 < 0) then none else Ev.ret2 (E_addr_high (Ev.bitsOp BinOp.xor IntKind.u64 18446744073709551615 (Int.fdiv 18446744073709551615 (2 ^ Min.min (Int.toNat (Min.min (Max.max x0 0) 64)) 64)))) := by kernel_rfl
noncomputable def N_addr_high (m : Nat) (x0 : Int) : Option Int := bif decide (Min.min (Max.max x0 0) 64 < 0) then none else some (Ev.bitsOp BinOp.xor IntKind.u64 18446744073709551615 (Int.fdiv 18446744073709551615 (2 ^ Min.min (Int.toNat (Min.min (Max.max x0 0) 64)) 64)))
theorem pr_addr_high (m : Nat) (x0 : Int) : Ev.evBodyD (Es_addr_high ) MtDa (O_addr_high ) m 140 [.int .i64 x0] = Ev.oE E_addr_high (N_addr_high m x0) := by
  rw [run_addr_high]
  simp only [N_addr_high, Ev.oE_some, Ev.oE_none, Ev.oE_cond, Ev.oE_bnd]
noncomputable def F_addr_high : Int → Option Int := fun x0 => N_addr_high 0 x0
theorem ok_addr_high : Ev.EnvOk (Ew_addr_high ) := Ev.envOk_with envOkd Ev.SpsOk.nil
theorem ro_addr_high : Ev.SpecRl (Ew_addr_high ) := Ev.specRl_with rfl Ev.SpsRl.nil
theorem g_addr_high : Ev.SpOk Try.prog false 140 (s_addr_high F_addr_high) := by
  refine Ev.SpOk.mkF fun vs k r g0 => ?_
  unfold s_addr_high at g0
  obtain ⟨a0, r0, rfl, g1⟩ := Ev.kU_ok g0
  obtain ⟨rfl, g2⟩ := Ev.kE_ok g1
  obtain ⟨x0, rfl, g3⟩ := Ev.gI_ok g2
  obtain ⟨x, hx, h⟩ := Ev.bnd_get g3
  have h1 := pr_addr_high  0 x0
  rw [show N_addr_high  0 x0 = some x from hx] at h1
  exact ⟨_, h, Ev.good_of_inl ok_addr_high (ro_addr_high ) rfl rfl Ev.TabOk.nil 40 12 _ h1⟩
-- addr.Mask
-- DEEP addr_Mask 120 - T_api_Addr → Int → Option (T_api_Addr × Int)
noncomputable def e_addr_Mask (x : T_api_Addr × Int) : Value := .tuple ⟨[v_api_Addr (x.1), .int .i64 (x.2)]⟩
noncomputable def E_addr_Mask (x : T_api_Addr × Int) : Value × Ev.AH := (e_addr_Mask x, ⟨[], 0, []⟩)
noncomputable def s_addr_Mask (F : T_api_Addr → Int → Option (T_api_Addr × Int)) : Ev.Sp := fun vs k => Ev.kU vs fun a0 r0 => Ev.kU r0 fun a1 r1 => Ev.kE r1 <| d_api_Addr a0 fun x0 => Ev.gI .i64 a1 fun x1 => Ev.bnd (F x0 x1) fun x => k (e_addr_Mask x)
theorem rs_addr_Mask (F : T_api_Addr → Int → Option (T_api_Addr × Int)) : Ev.SpRl (s_addr_Mask F) := by
  intro S vs k k2 hk
  unfold s_addr_Mask
  refine Ev.rl_kU fun _ _ => ?_
  refine Ev.rl_kU fun _ _ => ?_
  refine Ev.rl_kE ?_
  refine rl_d_api_Addr fun _ => ?_
  refine Ev.rl_gI fun _ => ?_
  exact Ev.Rl.bnd fun x => hk _
noncomputable def Ew_addr_Mask (F_addr_Right : T_api_Addr → Option Bool) (F_addr_bits : T_api_Addr → Option Int) (F_addr_high : Int → Option Int) : Ev.Env := Ev.Env.with Ed [(56, s_addr_Right F_addr_Right), (139, s_addr_bits F_addr_bits), (140, s_addr_high F_addr_high)]
noncomputable def Es_addr_Mask (F_addr_Right : T_api_Addr → Option Bool) (F_addr_bits : T_api_Addr → Option Int) (F_addr_high : Int → Option Int) : Ev.Env := Ev.Env.inl (Ew_addr_Mask F_addr_Right F_addr_bits F_addr_high) MtDa [] 40 12
noncomputable def O_addr_Mask (F_addr_Right : T_api_Addr → Option Bool) (F_addr_bits : T_api_Addr → Option Int) (F_addr_high : Int → Option Int) : Ev.Orc := fun _ _ _ => none
theorem run_addr_Mask (F_addr_Right : T_api_Addr → Option Bool) (F_addr_bits : T_api_Addr → Option Int) (F_addr_high : Int → Option Int) (m : Nat) (x0 : T_api_Addr) (x1 : Int) : Ev.evBodyD (Es_addr_Mask F_addr_Right F_addr_bits F_addr_high) MtDa (O_addr_Mask F_addr_Right F_addr_bits F_addr_high) m 120 [v_api_Addr x0, .int .i64 x1] = Ev.bnd (F_addr_Right { Fam := T_api_Addr.Fam x0, Hi := T_api_Addr.Hi x0, Lo := T_api_Addr.Lo x0 }) fun v0 => bif !v0 then Ev.ret2 (E_addr_Mask ({ Fam := 0, Hi := 0, Lo := 0 }, 1)) else bif Ev.ltI x1 0 then Ev.ret2 (E_addr_Mask ({ Fam := 0, Hi := 0, Lo := 0 }, 1)) else Ev.bnd (F_addr_bits { Fam := T_api_Addr.Fam x0, Hi := T_api_Addr.Hi x0, Lo := T_api_Addr.Lo x0 }) fun v1 => bif Ev.ltI v1 x1 then Ev.ret2 (E_addr_Mask ({ Fam := 0, Hi := 0, Lo := 0 }, 1)) else bif T_api_Addr.Fam x0 == 4 then Ev.bnd (F_addr_high (IntKind.wrap IntKind.i64 (x1 + 32))) fun v2 => Ev.ret2 (E_addr_Mask ({ Fam := T_api_Addr.Fam x0, Hi := T_api_Addr.Hi x0, Lo := Ev.bitsOp BinOp.and IntKind.u64 (T_api_Addr.Lo x0) v2 }, 0)) else Ev.bnd (F_addr_high x1) fun v3 => Ev.bnd (F_addr_high (IntKind.wrap IntKind.i64 (x1 - 64))) fun v4 => Ev.ret2 (E_addr_Mask ({ Fam := T_api_Addr.Fam x0, Hi := Ev.bitsOp BinOp.and IntKind.u64 (T_api_Addr.Hi x0) v3, Lo := Ev.bitsOp BinOp.and IntKind.u64 (T_api_Addr.Lo x0) v4 }, 0)) := by kernel_rfl
noncomputable def N_addr_Mask (F_addr_Right : T_api_Addr → Option Bool) (F_addr_bits : T_api_Addr → Option Int) (F_addr_high : Int → Option Int) (m : Nat) (x0 : T_api_Addr) (x1 : Int) : Option (T_api_Addr × Int) := Ev.bnd (F_addr_Right { Fam := T_api_Addr.Fam x0, Hi := T_api_Addr.Hi x0, Lo := T_api_Addr.Lo x0 }) fun v0 => bif !v0 then some ({ Fam := 0, Hi := 0, Lo := 0 }, 1) else bif Ev.ltI x1 0 then some ({ Fam := 0, Hi := 0, Lo := 0 }, 1) else Ev.bnd (F_addr_bits { Fam := T_api_Addr.Fam x0, Hi := T_api_Addr.Hi x0, Lo := T_api_Addr.Lo x0 }) fun v1 => bif Ev.ltI v1 x1 then some ({ Fam := 0, Hi := 0, Lo := 0 }, 1) else bif T_api_Addr.Fam x0 == 4 then Ev.bnd (F_addr_high (IntKind.wrap IntKind.i64 (x1 + 32))) fun v2 => some ({ Fam := T_api_Addr.Fam x0, Hi := T_api_Addr.Hi x0, Lo := Ev.bitsOp BinOp.and IntKind.u64 (T_api_Addr.Lo x0) v2 }, 0) else Ev.bnd (F_addr_high x1) fun v3 => Ev.bnd (F_addr_high (IntKind.wrap IntKind.i64 (x1 - 64))) fun v4 => some ({ Fam := T_api_Addr.Fam x0, Hi := Ev.bitsOp BinOp.and IntKind.u64 (T_api_Addr.Hi x0) v3, Lo := Ev.bitsOp BinOp.and IntKind.u64 (T_api_Addr.Lo x0) v4 }, 0)
theorem pr_addr_Mask (F_addr_Right : T_api_Addr → Option Bool) (F_addr_bits : T_api_Addr → Option Int) (F_addr_high : Int → Option Int) (m : Nat) (x0 : T_api_Addr) (x1 : Int) : Ev.evBodyD (Es_addr_Mask F_addr_Right F_addr_bits F_addr_high) MtDa (O_addr_Mask F_addr_Right F_addr_bits F_addr_high) m 120 [v_api_Addr x0, .int .i64 x1] = Ev.oE E_addr_Mask (N_addr_Mask F_addr_Right F_addr_bits F_addr_high m x0 x1) := by
  rw [run_addr_Mask]
  simp only [N_addr_Mask, Ev.oE_some, Ev.oE_none, Ev.oE_cond, Ev.oE_bnd]
noncomputable def F_addr_Mask : T_api_Addr → Int → Option (T_api_Addr × Int) := fun x0 x1 => N_addr_Mask F_addr_Right F_addr_bits F_addr_high 0 x0 x1
theorem ok_addr_Mask : Ev.EnvOk (Ew_addr_Mask F_addr_Right F_addr_bits F_addr_high) := Ev.envOk_with envOkd (Ev.SpsOk.add (b := false) g_addr_Right (by kernel_rfl) (Ev.SpsOk.add (b := false) g_addr_bits (by kernel_rfl) (Ev.SpsOk.add (b := false) g_addr_high (by kernel_rfl) Ev.SpsOk.nil)))
theorem ro_addr_Mask (F_addr_Right : T_api_Addr → Option Bool) (F_addr_bits : T_api_Addr → Option Int) (F_addr_high : Int → Option Int) : Ev.SpecRl (Ew_addr_Mask F_addr_Right F_addr_bits F_addr_high) := Ev.specRl_with rfl (Ev.SpsRl.cons (rs_addr_Right _) (Ev.SpsRl.cons (rs_addr_bits _) (Ev.SpsRl.cons (rs_addr_high _) Ev.SpsRl.nil)))
theorem g_addr_Mask : Ev.SpOk Try.prog false 120 (s_addr_Mask F_addr_Mask) := by
  refine Ev.SpOk.mkF fun vs k r g0 => ?_
  unfold s_addr_Mask at g0
  obtain ⟨a0, r0, rfl, g1⟩ := Ev.kU_ok g0
  obtain ⟨a1, r1, rfl, g2⟩ := Ev.kU_ok g1
  obtain ⟨rfl, g3⟩ := Ev.kE_ok g2
  obtain ⟨x0, rfl, g4⟩ := d_api_Addr_ok g3
  obtain ⟨x1, rfl, g5⟩ := Ev.gI_ok g4
  obtain ⟨x, hx, h⟩ := Ev.bnd_get g5
  have h1 := pr_addr_Mask F_addr_Right F_addr_bits F_addr_high 0 x0 x1
  rw [show N_addr_Mask F_addr_Right F_addr_bits F_addr_high 0 x0 x1 = some x from hx] at h1
  exact ⟨_, h, Ev.good_of_inl ok_addr_Mask (ro_addr_Mask F_addr_Right F_addr_bits F_addr_high) rfl rfl Ev.TabOk.nil 40 12 _ h1⟩
-- addr.RightPrefix
-- DEEP addr_RightPrefix 60 - T_api_Prefix → Option Bool
noncomputable def e_addr_RightPrefix (x : Bool) : Value := .bool x
noncomputable def E_addr_RightPrefix (x : Bool) : Value × Ev.AH := (e_addr_RightPrefix x, ⟨[], 0, []⟩)
noncomputable def s_addr_RightPrefix (F : T_api_Prefix → Option Bool) : Ev.Sp := fun vs k => Ev.kU vs fun a0 r0 => Ev.kE r0 <| d_api_Prefix a0 fun x0 => Ev.bnd (F x0) fun x => k (e_addr_RightPrefix x)
theorem rs_addr_RightPrefix (F : T_api_Prefix → Option Bool) : Ev.SpRl (s_addr_RightPrefix F) := by
  intro S vs k k2 hk
  unfold s_addr_RightPrefix
  refine Ev.rl_kU fun _ _ => ?_
  refine Ev.rl_kE ?_
  refine rl_d_api_Prefix fun _ => ?_
  exact Ev.Rl.bnd fun x => hk _
noncomputable def Ew_addr_RightPrefix (F_addr_Mask : T_api_Addr → Int → Option (T_api_Addr × Int)) : Ev.Env := Ev.Env.with Ed [(120, s_addr_Mask F_addr_Mask)]
noncomputable def Es_addr_RightPrefix (F_addr_Mask : T_api_Addr → Int → Option (T_api_Addr × Int)) : Ev.Env := Ev.Env.inl (Ew_addr_RightPrefix F_addr_Mask) MtDa [] 40 12
noncomputable def O_addr_RightPrefix (F_addr_Mask : T_api_Addr → Int → Option (T_api_Addr × Int)) : Ev.Orc := fun _ _ _ => none
theorem run_addr_RightPrefix (F_addr_Mask : T_api_Addr → Int → Option (T_api_Addr × Int)) (m : Nat) (x0 : T_api_Prefix) : Ev.evBodyD (Es_addr_RightPrefix F_addr_Mask) MtDa (O_addr_RightPrefix F_addr_Mask) m 60 [v_api_Prefix x0] = Ev.bnd (F_addr_Mask { Fam := T_api_Prefix.Addr_Fam x0, Hi := T_api_Prefix.Addr_Hi x0, Lo := T_api_Prefix.Addr_Lo x0 } (T_api_Prefix.Bits x0)) fun v0 => bif Prod.snd v0 == 0 then Ev.ret2 (E_addr_RightPrefix (T_api_Addr.Fam (Prod.fst v0) == T_api_Prefix.Addr_Fam x0 && (T_api_Addr.Hi (Prod.fst v0) == T_api_Prefix.Addr_Hi x0 && (T_api_Addr.Lo (Prod.fst v0) == T_api_Prefix.Addr_Lo x0 && true)))) else Ev.ret2 (E_addr_RightPrefix false) := by kernel_rfl
noncomputable def N_addr_RightPrefix (F_addr_Mask : T_api_Addr → Int → Option (T_api_Addr × Int)) (m : Nat) (x0 : T_api_Prefix) : Option Bool := Ev.bnd (F_addr_Mask { Fam := T_api_Prefix.Addr_Fam x0, Hi := T_api_Prefix.Addr_Hi x0, Lo := T_api_Prefix.Addr_Lo x0 } (T_api_Prefix.Bits x0)) fun v0 => bif Prod.snd v0 == 0 then some (T_api_Addr.Fam (Prod.fst v0) == T_api_Prefix.Addr_Fam x0 && (T_api_Addr.Hi (Prod.fst v0) == T_api_Prefix.Addr_Hi x0 && (T_api_Addr.Lo (Prod.fst v0) == T_api_Prefix.Addr_Lo x0 && true))) else some false
theorem pr_addr_RightPrefix (F_addr_Mask : T_api_Addr → Int → Option (T_api_Addr × Int)) (m : Nat) (x0 : T_api_Prefix) : Ev.evBodyD (Es_addr_RightPrefix F_addr_Mask) MtDa (O_addr_RightPrefix F_addr_Mask) m 60 [v_api_Prefix x0] = Ev.oE E_addr_RightPrefix (N_addr_RightPrefix F_addr_Mask m x0) := by
  rw [run_addr_RightPrefix]
  simp only [N_addr_RightPrefix, Ev.oE_some, Ev.oE_none, Ev.oE_cond, Ev.oE_bnd]
noncomputable def F_addr_RightPrefix : T_api_Prefix → Option Bool := fun x0 => N_addr_RightPrefix F_addr_Mask 0 x0
theorem ok_addr_RightPrefix : Ev.EnvOk (Ew_addr_RightPrefix F_addr_Mask) := Ev.envOk_with envOkd (Ev.SpsOk.add (b := false) g_addr_Mask (by kernel_rfl) Ev.SpsOk.nil)
theorem ro_addr_RightPrefix (F_addr_Mask : T_api_Addr → Int → Option (T_api_Addr × Int)) : Ev.SpecRl (Ew_addr_RightPrefix F_addr_Mask) := Ev.specRl_with rfl (Ev.SpsRl.cons (rs_addr_Mask _) Ev.SpsRl.nil)
theorem g_addr_RightPrefix : Ev.SpOk Try.prog false 60 (s_addr_RightPrefix F_addr_RightPrefix) := by
  refine Ev.SpOk.mkF fun vs k r g0 => ?_
  unfold s_addr_RightPrefix at g0
  obtain ⟨a0, r0, rfl, g1⟩ := Ev.kU_ok g0
  obtain ⟨rfl, g2⟩ := Ev.kE_ok g1
  obtain ⟨x0, rfl, g3⟩ := d_api_Prefix_ok g2
  obtain ⟨x, hx, h⟩ := Ev.bnd_get g3
  have h1 := pr_addr_RightPrefix F_addr_Mask 0 x0
  rw [show N_addr_RightPrefix F_addr_Mask 0 x0 = some x from hx] at h1
  exact ⟨_, h, Ev.good_of_inl ok_addr_RightPrefix (ro_addr_RightPrefix F_addr_Mask) rfl rfl Ev.TabOk.nil 40 12 _ h1⟩
-- addr.Has
-- DEEP addr_Has 67 - T_api_Prefix → T_api_Addr → Option Bool
noncomputable def e_addr_Has (x : Bool) : Value := .bool x
noncomputable def E_addr_Has (x : Bool) : Value × Ev.AH := (e_addr_Has x, ⟨[], 0, []⟩)
noncomputable def s_addr_Has (F : T_api_Prefix → T_api_Addr → Option Bool) : Ev.Sp := fun vs k => Ev.kU vs fun a0 r0 => Ev.kU r0 fun a1 r1 => Ev.kE r1 <| d_api_Prefix a0 fun x0 => d_api_Addr a1 fun x1 => Ev.bnd (F x0 x1) fun x => k (e_addr_Has x)
theorem rs_addr_Has (F : T_api_Prefix → T_api_Addr → Option Bool) : Ev.SpRl (s_addr_Has F) := by
  intro S vs k k2 hk
  unfold s_addr_Has
  refine Ev.rl_kU fun _ _ => ?_
  refine Ev.rl_kU fun _ _ => ?_
  refine Ev.rl_kE ?_
  refine rl_d_api_Prefix fun _ => ?_
  refine rl_d_api_Addr fun _ => ?_
  exact Ev.Rl.bnd fun x => hk _
noncomputable def Ew_addr_Has (F_addr_Mask : T_api_Addr → Int → Option (T_api_Addr × Int)) (F_addr_RightPrefix : T_api_Prefix → Option Bool) : Ev.Env := Ev.Env.with Ed [(120, s_addr_Mask F_addr_Mask), (60, s_addr_RightPrefix F_addr_RightPrefix)]
noncomputable def Es_addr_Has (F_addr_Mask : T_api_Addr → Int → Option (T_api_Addr × Int)) (F_addr_RightPrefix : T_api_Prefix → Option Bool) : Ev.Env := Ev.Env.inl (Ew_addr_Has F_addr_Mask F_addr_RightPrefix) MtDa [] 40 12
noncomputable def O_addr_Has (F_addr_Mask : T_api_Addr → Int → Option (T_api_Addr × Int)) (F_addr_RightPrefix : T_api_Prefix → Option Bool) : Ev.Orc := fun _ _ _ => none
theorem run_addr_Has (F_addr_Mask : T_api_Addr → Int → Option (T_api_Addr × Int)) (F_addr_RightPrefix : T_api_Prefix → Option Bool) (m : Nat) (x0 : T_api_Prefix) (x1 : T_api_Addr) : Ev.evBodyD (Es_addr_Has F_addr_Mask F_addr_RightPrefix) MtDa (O_addr_Has F_addr_Mask F_addr_RightPrefix) m 67 [v_api_Prefix x0, v_api_Addr x1] = Ev.bnd (F_addr_Mask { Fam := T_api_Addr.Fam x1, Hi := T_api_Addr.Hi x1, Lo := T_api_Addr.Lo x1 } (T_api_Prefix.Bits x0)) fun v0 => bif Prod.snd v0 == 0 then bif T_api_Addr.Fam x1 == T_api_Prefix.Addr_Fam x0 then Ev.bnd (F_addr_RightPrefix { Addr_Fam := T_api_Prefix.Addr_Fam x0, Addr_Hi := T_api_Prefix.Addr_Hi x0, Addr_Lo := T_api_Prefix.Addr_Lo x0, Bits := T_api_Prefix.Bits x0 }) fun v1 => bif v1 then Ev.ret2 (E_addr_Has (T_api_Addr.Fam (Prod.fst v0) == T_api_Prefix.Addr_Fam x0 && (T_api_Addr.Hi (Prod.fst v0) == T_api_Prefix.Addr_Hi x0 && (T_api_Addr.Lo (Prod.fst v0) == T_api_Prefix.Addr_Lo x0 && true)))) else Ev.ret2 (E_addr_Has false) else Ev.ret2 (E_addr_Has false) else Ev.ret2 (E_addr_Has false) := by kernel_rfl
noncomputable def N_addr_Has (F_addr_Mask : T_api_Addr → Int → Option (T_api_Addr × Int)) (F_addr_RightPrefix : T_api_Prefix → Option Bool) (m : Nat) (x0 : T_api_Prefix) (x1 : T_api_Addr) : Option Bool := Ev.bnd (F_addr_Mask { Fam := T_api_Addr.Fam x1, Hi := T_api_Addr.Hi x1, Lo := T_api_Addr.Lo x1 } (T_api_Prefix.Bits x0)) fun v0 => bif Prod.snd v0 == 0 then bif T_api_Addr.Fam x1 == T_api_Prefix.Addr_Fam x0 then Ev.bnd (F_addr_RightPrefix { Addr_Fam := T_api_Prefix.Addr_Fam x0, Addr_Hi := T_api_Prefix.Addr_Hi x0, Addr_Lo := T_api_Prefix.Addr_Lo x0, Bits := T_api_Prefix.Bits x0 }) fun v1 => bif v1 then some (T_api_Addr.Fam (Prod.fst v0) == T_api_Prefix.Addr_Fam x0 && (T_api_Addr.Hi (Prod.fst v0) == T_api_Prefix.Addr_Hi x0 && (T_api_Addr.Lo (Prod.fst v0) == T_api_Prefix.Addr_Lo x0 && true))) else some false else some false else some false
theorem pr_addr_Has (F_addr_Mask : T_api_Addr → Int → Option (T_api_Addr × Int)) (F_addr_RightPrefix : T_api_Prefix → Option Bool) (m : Nat) (x0 : T_api_Prefix) (x1 : T_api_Addr) : Ev.evBodyD (Es_addr_Has F_addr_Mask F_addr_RightPrefix) MtDa (O_addr_Has F_addr_Mask F_addr_RightPrefix) m 67 [v_api_Prefix x0, v_api_Addr x1] = Ev.oE E_addr_Has (N_addr_Has F_addr_Mask F_addr_RightPrefix m x0 x1) := by
  rw [run_addr_Has]
  simp only [N_addr_Has, Ev.oE_some, Ev.oE_none, Ev.oE_cond, Ev.oE_bnd]
noncomputable def F_addr_Has : T_api_Prefix → T_api_Addr → Option Bool := fun x0 x1 => N_addr_Has F_addr_Mask F_addr_RightPrefix 0 x0 x1
theorem ok_addr_Has : Ev.EnvOk (Ew_addr_Has F_addr_Mask F_addr_RightPrefix) := Ev.envOk_with envOkd (Ev.SpsOk.add (b := false) g_addr_Mask (by kernel_rfl) (Ev.SpsOk.add (b := false) g_addr_RightPrefix (by kernel_rfl) Ev.SpsOk.nil))
theorem ro_addr_Has (F_addr_Mask : T_api_Addr → Int → Option (T_api_Addr × Int)) (F_addr_RightPrefix : T_api_Prefix → Option Bool) : Ev.SpecRl (Ew_addr_Has F_addr_Mask F_addr_RightPrefix) := Ev.specRl_with rfl (Ev.SpsRl.cons (rs_addr_Mask _) (Ev.SpsRl.cons (rs_addr_RightPrefix _) Ev.SpsRl.nil))
theorem g_addr_Has : Ev.SpOk Try.prog false 67 (s_addr_Has F_addr_Has) := by
  refine Ev.SpOk.mkF fun vs k r g0 => ?_
  unfold s_addr_Has at g0
  obtain ⟨a0, r0, rfl, g1⟩ := Ev.kU_ok g0
  obtain ⟨a1, r1, rfl, g2⟩ := Ev.kU_ok g1
  obtain ⟨rfl, g3⟩ := Ev.kE_ok g2
  obtain ⟨x0, rfl, g4⟩ := d_api_Prefix_ok g3
  obtain ⟨x1, rfl, g5⟩ := d_api_Addr_ok g4
  obtain ⟨x, hx, h⟩ := Ev.bnd_get g5
  have h1 := pr_addr_Has F_addr_Mask F_addr_RightPrefix 0 x0 x1
  rw [show N_addr_Has F_addr_Mask F_addr_RightPrefix 0 x0 x1 = some x from hx] at h1
  exact ⟨_, h, Ev.good_of_inl ok_addr_Has (ro_addr_Has F_addr_Mask F_addr_RightPrefix) rfl rfl Ev.TabOk.nil 40 12 _ h1⟩
-- first.anywhere
-- DEEP first_anywhere 59 - T_api_Prefix → Option Bool
noncomputable def e_first_anywhere (x : Bool) : Value := .bool x
noncomputable def E_first_anywhere (x : Bool) : Value × Ev.AH := (e_first_anywhere x, ⟨[], 0, []⟩)
noncomputable def s_first_anywhere (F : T_api_Prefix → Option Bool) : Ev.Sp := fun vs k => Ev.kU vs fun a0 r0 => Ev.kE r0 <| d_api_Prefix a0 fun x0 => Ev.bnd (F x0) fun x => k (e_first_anywhere x)
theorem rs_first_anywhere (F : T_api_Prefix → Option Bool) : Ev.SpRl (s_first_anywhere F) := by
  intro S vs k k2 hk
  unfold s_first_anywhere
  refine Ev.rl_kU fun _ _ => ?_
  refine Ev.rl_kE ?_
  refine rl_d_api_Prefix fun _ => ?_
  exact Ev.Rl.bnd fun x => hk _
noncomputable def Ew_first_anywhere : Ev.Env := Ev.Env.with Ed []
noncomputable def Es_first_anywhere : Ev.Env := Ev.Env.inl (Ew_first_anywhere ) MtDa [] 40 12
noncomputable def O_first_anywhere : Ev.Orc := fun _ _ _ => none
theorem run_first_anywhere (m : Nat) (x0 : T_api_Prefix) : Ev.evBodyD (Es_first_anywhere ) MtDa (O_first_anywhere ) m 59 [v_api_Prefix x0] = Ev.ret2 (E_first_anywhere (T_api_Prefix.Addr_Fam x0 == 0 && (T_api_Prefix.Addr_Hi x0 == 0 && (T_api_Prefix.Addr_Lo x0 == 0 && (T_api_Prefix.Bits x0 == 0 && true))))) := by kernel_rfl
noncomputable def N_first_anywhere (m : Nat) (x0 : T_api_Prefix) : Option Bool := some (T_api_Prefix.Addr_Fam x0 == 0 && (T_api_Prefix.Addr_Hi x0 == 0 && (T_api_Prefix.Addr_Lo x0 == 0 && (T_api_Prefix.Bits x0 == 0 && true))))
theorem pr_first_anywhere (m : Nat) (x0 : T_api_Prefix) : Ev.evBodyD (Es_first_anywhere ) MtDa (O_first_anywhere ) m 59 [v_api_Prefix x0] = Ev.oE E_first_anywhere (N_first_anywhere m x0) := by
  rw [run_first_anywhere]
  simp only [N_first_anywhere, Ev.oE_some, Ev.oE_none, Ev.oE_cond, Ev.oE_bnd]
noncomputable def F_first_anywhere : T_api_Prefix → Option Bool := fun x0 => N_first_anywhere 0 x0
theorem ok_first_anywhere : Ev.EnvOk (Ew_first_anywhere ) := Ev.envOk_with envOkd Ev.SpsOk.nil
theorem ro_first_anywhere : Ev.SpecRl (Ew_first_anywhere ) := Ev.specRl_with rfl Ev.SpsRl.nil
theorem g_first_anywhere : Ev.SpOk Try.prog false 59 (s_first_anywhere F_first_anywhere) := by
  refine Ev.SpOk.mkF fun vs k r g0 => ?_
  unfold s_first_anywhere at g0
  obtain ⟨a0, r0, rfl, g1⟩ := Ev.kU_ok g0
  obtain ⟨rfl, g2⟩ := Ev.kE_ok g1
  obtain ⟨x0, rfl, g3⟩ := d_api_Prefix_ok g2
  obtain ⟨x, hx, h⟩ := Ev.bnd_get g3
  have h1 := pr_first_anywhere  0 x0
  rw [show N_first_anywhere  0 x0 = some x from hx] at h1
  exact ⟨_, h, Ev.good_of_inl ok_first_anywhere (ro_first_anywhere ) rfl rfl Ev.TabOk.nil 40 12 _ h1⟩
-- first.within$1
-- DEEP first_within_1 119 - Int → Int → Int → Option Bool
noncomputable def e_first_within_1 (x : Bool) : Value := .bool x
noncomputable def E_first_within_1 (x : Bool) : Value × Ev.AH := (e_first_within_1 x, ⟨[], 0, []⟩)
noncomputable def s_first_within_1 (F : Int → Int → Int → Option Bool) : Ev.Sp := fun vs k => Ev.kU vs fun a0 r0 => Ev.kU r0 fun a1 r1 => Ev.kU r1 fun a2 r2 => Ev.kE r2 <| Ev.gI .i64 a0 fun x0 => Ev.kP a1 fun c0 => Ev.kU c0 fun u1 q1 => Ev.kE q1 <| Ev.gI .i64 u1 fun y0 => Ev.kP a2 fun c2 => Ev.kU c2 fun u3 q3 => Ev.kE q3 <| Ev.gI .i64 u3 fun y1 => Ev.bnd (F x0 y0 y1) fun x => k (e_first_within_1 x)
theorem rs_first_within_1 (F : Int → Int → Int → Option Bool) : Ev.SpRl (s_first_within_1 F) := by
  intro S vs k k2 hk
  unfold s_first_within_1
  refine Ev.rl_kU fun _ _ => ?_
  refine Ev.rl_kU fun _ _ => ?_
  refine Ev.rl_kU fun _ _ => ?_
  refine Ev.rl_kE ?_
  refine Ev.rl_gI fun _ => ?_
  refine Ev.rl_kP fun _ => ?_
  refine Ev.rl_kU fun _ _ => ?_
  refine Ev.rl_kE ?_
  refine Ev.rl_gI fun _ => ?_
  refine Ev.rl_kP fun _ => ?_
  refine Ev.rl_kU fun _ _ => ?_
  refine Ev.rl_kE ?_
  refine Ev.rl_gI fun _ => ?_
  exact Ev.Rl.bnd fun x => hk _
noncomputable def Ew_first_within_1 : Ev.Env := Ev.Env.with Ed []
noncomputable def Es_first_within_1 : Ev.Env := Ev.Env.inl (Ew_first_within_1 ) MtDa [] 40 12
noncomputable def O_first_within_1 : Ev.Orc := fun _ _ _ => none
theorem run_first_within_1 (m : Nat) (x0 : Int) (y0 : Int) (y1 : Int) : Ev.evBodyD (Es_first_within_1 ) MtDa (O_first_within_1 ) m 119 [.int .i64 x0, Ev.dP 0 [.int .i64 y0], Ev.dP 0 [.int .i64 y1]] = bif Ev.ltI x0 y0 then Ev.ret2 (E_first_within_1 true) else Ev.ret2 (E_first_within_1 (Ev.ltI y1 x0)) := by kernel_rfl
noncomputable def N_first_within_1 (m : Nat) (x0 : Int) (y0 : Int) (y1 : Int) : Option Bool := bif Ev.ltI x0 y0 then some true else some (Ev.ltI y1 x0)
theorem pr_first_within_1 (m : Nat) (x0 : Int) (y0 : Int) (y1 : Int) : Ev.evBodyD (Es_first_within_1 ) MtDa (O_first_within_1 ) m 119 [.int .i64 x0, Ev.dP 0 [.int .i64 y0], Ev.dP 0 [.int .i64 y1]] = Ev.oE E_first_within_1 (N_first_within_1 m x0 y0 y1) := by
  rw [run_first_within_1]
  simp only [N_first_within_1, Ev.oE_some, Ev.oE_none, Ev.oE_cond, Ev.oE_bnd]
noncomputable def F_first_within_1 : Int → Int → Int → Option Bool := fun x0 y0 y1 => N_first_within_1 0 x0 y0 y1
theorem ok_first_within_1 : Ev.EnvOk (Ew_first_within_1 ) := Ev.envOk_with envOkd Ev.SpsOk.nil
theorem ro_first_within_1 : Ev.SpecRl (Ew_first_within_1 ) := Ev.specRl_with rfl Ev.SpsRl.nil
theorem g_first_within_1 : Ev.SpOk Try.prog false 119 (s_first_within_1 F_first_within_1) := by
  refine Ev.SpOk.mkF fun vs k r g0 => ?_
  unfold s_first_within_1 at g0
  obtain ⟨a0, r0, rfl, g1⟩ := Ev.kU_ok g0
  obtain ⟨a1, r1, rfl, g2⟩ := Ev.kU_ok g1
  obtain ⟨a2, r2, rfl, g3⟩ := Ev.kU_ok g2
  obtain ⟨rfl, g4⟩ := Ev.kE_ok g3
  obtain ⟨x0, rfl, g5⟩ := Ev.gI_ok g4
  obtain ⟨c0, rfl, g6⟩ := Ev.kP_ok g5
  obtain ⟨u1, q1, rfl, g7⟩ := Ev.kU_ok g6
  obtain ⟨rfl, g8⟩ := Ev.kE_ok g7
  obtain ⟨y0, rfl, g9⟩ := Ev.gI_ok g8
  obtain ⟨c2, rfl, g10⟩ := Ev.kP_ok g9
  obtain ⟨u3, q3, rfl, g11⟩ := Ev.kU_ok g10
  obtain ⟨rfl, g12⟩ := Ev.kE_ok g11
  obtain ⟨y1, rfl, g13⟩ := Ev.gI_ok g12
  obtain ⟨x, hx, h⟩ := Ev.bnd_get g13
  have h1 := pr_first_within_1  0 x0 y0 y1
  rw [show N_first_within_1  0 x0 y0 y1 = some x from hx] at h1
  exact ⟨_, h, Ev.good_of_inl ok_first_within_1 (ro_first_within_1 ) rfl rfl Ev.TabOk.nil 40 12 _ h1⟩
-- first.RightKey
-- DEEP first_RightKey 22 - T_api_Key → Option Bool
noncomputable def e_first_RightKey (x : Bool) : Value := .bool x
noncomputable def E_first_RightKey (x : Bool) : Value × Ev.AH := (e_first_RightKey x, ⟨[], 0, []⟩)
noncomputable def s_first_RightKey (F : T_api_Key → Option Bool) : Ev.Sp := fun vs k => Ev.kU vs fun a0 r0 => Ev.kE r0 <| d_api_Key a0 fun x0 => Ev.bnd (F x0) fun x => k (e_first_RightKey x)
theorem rs_first_RightKey (F : T_api_Key → Option Bool) : Ev.SpRl (s_first_RightKey F) := by
  intro S vs k k2 hk
  unfold s_first_RightKey
  refine Ev.rl_kU fun _ _ => ?_
  refine Ev.rl_kE ?_
  refine rl_d_api_Key fun _ => ?_
  exact Ev.Rl.bnd fun x => hk _
noncomputable def Ew_first_RightKey (F_first_within_1 : Int → Int → Int → Option Bool) (F_addr_Right : T_api_Addr → Option Bool) : Ev.Env := Ev.Env.with Ed [(119, s_first_within_1 F_first_within_1), (56, s_addr_Right F_addr_Right)]
noncomputable def Es_first_RightKey (F_first_within_1 : Int → Int → Int → Option Bool) (F_addr_Right : T_api_Addr → Option Bool) : Ev.Env := Ev.Env.inl (Ew_first_RightKey F_first_within_1 F_addr_Right) MtDa [] 40 12
noncomputable def O_first_RightKey (F_first_within_1 : Int → Int → Int → Option Bool) (F_addr_Right : T_api_Addr → Option Bool) : Ev.Orc := fun _ _ _ => none
theorem run_first_RightKey (F_first_within_1 : Int → Int → Int → Option Bool) (F_addr_Right : T_api_Addr → Option Bool) (m : Nat) (x0 : T_api_Key) : Ev.evBodyD (Es_first_RightKey F_first_within_1 F_addr_Right) MtDa (O_first_RightKey F_first_within_1 F_addr_Right) m 22 [v_api_Key x0] = Ev.bnd (F_first_within_1 (T_api_Key.From x0) 0 15) fun v0 => bif v0 then Ev.ret2 (E_first_RightKey false) else Ev.bnd (F_first_within_1 (T_api_Key.To x0) 0 15) fun v1 => bif v1 then Ev.ret2 (E_first_RightKey false) else Ev.bnd (F_first_within_1 (T_api_Key.Proto x0) 0 255) fun v2 => bif v2 then Ev.ret2 (E_first_RightKey false) else Ev.bnd (F_first_within_1 (T_api_Key.Sport x0) 0 65535) fun v3 => bif v3 then Ev.ret2 (E_first_RightKey false) else Ev.bnd (F_first_within_1 (T_api_Key.Dport x0) 0 65535) fun v4 => bif v4 then Ev.ret2 (E_first_RightKey false) else Ev.bnd (F_addr_Right { Fam := T_api_Key.Src_Fam x0, Hi := T_api_Key.Src_Hi x0, Lo := T_api_Key.Src_Lo x0 }) fun v5 => bif v5 then Ev.bnd (F_addr_Right { Fam := T_api_Key.Dst_Fam x0, Hi := T_api_Key.Dst_Hi x0, Lo := T_api_Key.Dst_Lo x0 }) fun v6 => bif v6 then Ev.ret2 (E_first_RightKey (T_api_Key.Src_Fam x0 == T_api_Key.Dst_Fam x0)) else Ev.ret2 (E_first_RightKey false) else Ev.ret2 (E_first_RightKey false) := by kernel_rfl
noncomputable def N_first_RightKey (F_first_within_1 : Int → Int → Int → Option Bool) (F_addr_Right : T_api_Addr → Option Bool) (m : Nat) (x0 : T_api_Key) : Option Bool := Ev.bnd (F_first_within_1 (T_api_Key.From x0) 0 15) fun v0 => bif v0 then some false else Ev.bnd (F_first_within_1 (T_api_Key.To x0) 0 15) fun v1 => bif v1 then some false else Ev.bnd (F_first_within_1 (T_api_Key.Proto x0) 0 255) fun v2 => bif v2 then some false else Ev.bnd (F_first_within_1 (T_api_Key.Sport x0) 0 65535) fun v3 => bif v3 then some false else Ev.bnd (F_first_within_1 (T_api_Key.Dport x0) 0 65535) fun v4 => bif v4 then some false else Ev.bnd (F_addr_Right { Fam := T_api_Key.Src_Fam x0, Hi := T_api_Key.Src_Hi x0, Lo := T_api_Key.Src_Lo x0 }) fun v5 => bif v5 then Ev.bnd (F_addr_Right { Fam := T_api_Key.Dst_Fam x0, Hi := T_api_Key.Dst_Hi x0, Lo := T_api_Key.Dst_Lo x0 }) fun v6 => bif v6 then some (T_api_Key.Src_Fam x0 == T_api_Key.Dst_Fam x0) else some false else some false
theorem pr_first_RightKey (F_first_within_1 : Int → Int → Int → Option Bool) (F_addr_Right : T_api_Addr → Option Bool) (m : Nat) (x0 : T_api_Key) : Ev.evBodyD (Es_first_RightKey F_first_within_1 F_addr_Right) MtDa (O_first_RightKey F_first_within_1 F_addr_Right) m 22 [v_api_Key x0] = Ev.oE E_first_RightKey (N_first_RightKey F_first_within_1 F_addr_Right m x0) := by
  rw [run_first_RightKey]
  simp only [N_first_RightKey, Ev.oE_some, Ev.oE_none, Ev.oE_cond, Ev.oE_bnd]
noncomputable def F_first_RightKey : T_api_Key → Option Bool := fun x0 => N_first_RightKey F_first_within_1 F_addr_Right 0 x0
theorem ok_first_RightKey : Ev.EnvOk (Ew_first_RightKey F_first_within_1 F_addr_Right) := Ev.envOk_with envOkd (Ev.SpsOk.add (b := false) g_first_within_1 (by kernel_rfl) (Ev.SpsOk.add (b := false) g_addr_Right (by kernel_rfl) Ev.SpsOk.nil))
theorem ro_first_RightKey (F_first_within_1 : Int → Int → Int → Option Bool) (F_addr_Right : T_api_Addr → Option Bool) : Ev.SpecRl (Ew_first_RightKey F_first_within_1 F_addr_Right) := Ev.specRl_with rfl (Ev.SpsRl.cons (rs_first_within_1 _) (Ev.SpsRl.cons (rs_addr_Right _) Ev.SpsRl.nil))
theorem g_first_RightKey : Ev.SpOk Try.prog false 22 (s_first_RightKey F_first_RightKey) := by
  refine Ev.SpOk.mkF fun vs k r g0 => ?_
  unfold s_first_RightKey at g0
  obtain ⟨a0, r0, rfl, g1⟩ := Ev.kU_ok g0
  obtain ⟨rfl, g2⟩ := Ev.kE_ok g1
  obtain ⟨x0, rfl, g3⟩ := d_api_Key_ok g2
  obtain ⟨x, hx, h⟩ := Ev.bnd_get g3
  have h1 := pr_first_RightKey F_first_within_1 F_addr_Right 0 x0
  rw [show N_first_RightKey F_first_within_1 F_addr_Right 0 x0 = some x from hx] at h1
  exact ⟨_, h, Ev.good_of_inl ok_first_RightKey (ro_first_RightKey F_first_within_1 F_addr_Right) rfl rfl Ev.TabOk.nil 40 12 _ h1⟩
-- first.RightRule
-- DEEP first_RightRule 24 - T_api_Rule → Option Bool
noncomputable def e_first_RightRule (x : Bool) : Value := .bool x
noncomputable def E_first_RightRule (x : Bool) : Value × Ev.AH := (e_first_RightRule x, ⟨[], 0, []⟩)
noncomputable def s_first_RightRule (F : T_api_Rule → Option Bool) : Ev.Sp := fun vs k => Ev.kU vs fun a0 r0 => Ev.kE r0 <| d_api_Rule a0 fun x0 => Ev.bnd (F x0) fun x => k (e_first_RightRule x)
theorem rs_first_RightRule (F : T_api_Rule → Option Bool) : Ev.SpRl (s_first_RightRule F) := by
  intro S vs k k2 hk
  unfold s_first_RightRule
  refine Ev.rl_kU fun _ _ => ?_
  refine Ev.rl_kE ?_
  refine rl_d_api_Rule fun _ => ?_
  exact Ev.Rl.bnd fun x => hk _
noncomputable def Ew_first_RightRule (F_first_anywhere : T_api_Prefix → Option Bool) (F_addr_RightPrefix : T_api_Prefix → Option Bool) (F_first_within_1 : Int → Int → Int → Option Bool) : Ev.Env := Ev.Env.with Ed [(59, s_first_anywhere F_first_anywhere), (60, s_addr_RightPrefix F_addr_RightPrefix), (119, s_first_within_1 F_first_within_1)]
noncomputable def Es_first_RightRule (F_first_anywhere : T_api_Prefix → Option Bool) (F_addr_RightPrefix : T_api_Prefix → Option Bool) (F_first_within_1 : Int → Int → Int → Option Bool) : Ev.Env := Ev.Env.inl (Ew_first_RightRule F_first_anywhere F_addr_RightPrefix F_first_within_1) MtDa [] 40 12
noncomputable def O_first_RightRule (F_first_anywhere : T_api_Prefix → Option Bool) (F_addr_RightPrefix : T_api_Prefix → Option Bool) (F_first_within_1 : Int → Int → Int → Option Bool) : Ev.Orc := fun _ _ _ => none
theorem run_first_RightRule (F_first_anywhere : T_api_Prefix → Option Bool) (F_addr_RightPrefix : T_api_Prefix → Option Bool) (F_first_within_1 : Int → Int → Int → Option Bool) (m : Nat) (x0 : T_api_Rule) : Ev.evBodyD (Es_first_RightRule F_first_anywhere F_addr_RightPrefix F_first_within_1) MtDa (O_first_RightRule F_first_anywhere F_addr_RightPrefix F_first_within_1) 40 24 [v_api_Rule x0] = Ev.bnd (F_first_anywhere { Addr_Fam := T_api_Rule.Src_Addr_Fam x0, Addr_Hi := T_api_Rule.Src_Addr_Hi x0, Addr_Lo := T_api_Rule.Src_Addr_Lo x0, Bits := T_api_Rule.Src_Bits x0 }) fun v0 => bif !v0 then Ev.bnd (F_addr_RightPrefix { Addr_Fam := T_api_Rule.Src_Addr_Fam x0, Addr_Hi := T_api_Rule.Src_Addr_Hi x0, Addr_Lo := T_api_Rule.Src_Addr_Lo x0, Bits := T_api_Rule.Src_Bits x0 }) fun v1 => bif !v1 then Ev.ret2 (E_first_RightRule false) else Ev.bnd (F_first_anywhere { Addr_Fam := T_api_Rule.Dst_Addr_Fam x0, Addr_Hi := T_api_Rule.Dst_Addr_Hi x0, Addr_Lo := T_api_Rule.Dst_Addr_Lo x0, Bits := T_api_Rule.Dst_Bits x0 }) fun v2 => bif !v2 then Ev.bnd (F_addr_RightPrefix { Addr_Fam := T_api_Rule.Dst_Addr_Fam x0, Addr_Hi := T_api_Rule.Dst_Addr_Hi x0, Addr_Lo := T_api_Rule.Dst_Addr_Lo x0, Bits := T_api_Rule.Dst_Bits x0 }) fun v3 => bif !v3 then Ev.ret2 (E_first_RightRule false) else Ev.bnd (F_first_within_1 (T_api_Rule.From x0) (-1) 15) fun v4 => bif v4 then Ev.ret2 (E_first_RightRule false) else Ev.bnd (F_first_within_1 (T_api_Rule.To x0) (-1) 15) fun v5 => bif v5 then Ev.ret2 (E_first_RightRule false) else Ev.bnd (F_first_within_1 (T_api_Rule.Proto x0) 0 255) fun v6 => bif v6 then Ev.ret2 (E_first_RightRule false) else Ev.bnd (F_first_within_1 (T_api_Rule.Sport_Lo x0) 0 65535) fun v7 => bif v7 then Ev.ret2 (E_first_RightRule false) else Ev.bnd (F_first_within_1 (T_api_Rule.Sport_Hi x0) 0 65535) fun v8 => bif v8 then Ev.ret2 (E_first_RightRule false) else Ev.bnd (F_first_within_1 (T_api_Rule.Dport_Lo x0) 0 65535) fun v9 => bif v9 then Ev.ret2 (E_first_RightRule false) else Ev.bnd (F_first_within_1 (T_api_Rule.Dport_Hi x0) 0 65535) fun v10 => bif v10 then Ev.ret2 (E_first_RightRule false) else bif Ev.leI (T_api_Rule.Sport_Lo x0) (T_api_Rule.Sport_Hi x0) then bif Ev.leI (T_api_Rule.Dport_Lo x0) (T_api_Rule.Dport_Hi x0) then Ev.bnd (F_first_within_1 (T_api_Rule.Action x0) 0 1) fun v11 => bif v11 then Ev.ret2 (E_first_RightRule false) else Ev.bnd (F_first_within_1 (T_api_Rule.Help x0) 0 3) fun v12 => bif v12 then Ev.ret2 (E_first_RightRule false) else Ev.ret2 (E_first_RightRule true) else Ev.ret2 (E_first_RightRule false) else Ev.ret2 (E_first_RightRule false) else Ev.bnd (F_first_within_1 (T_api_Rule.From x0) (-1) 15) fun v13 => bif v13 then Ev.ret2 (E_first_RightRule false) else Ev.bnd (F_first_within_1 (T_api_Rule.To x0) (-1) 15) fun v14 => bif v14 then Ev.ret2 (E_first_RightRule false) else Ev.bnd (F_first_within_1 (T_api_Rule.Proto x0) 0 255) fun v15 => bif v15 then Ev.ret2 (E_first_RightRule false) else Ev.bnd (F_first_within_1 (T_api_Rule.Sport_Lo x0) 0 65535) fun v16 => bif v16 then Ev.ret2 (E_first_RightRule false) else Ev.bnd (F_first_within_1 (T_api_Rule.Sport_Hi x0) 0 65535) fun v17 => bif v17 then Ev.ret2 (E_first_RightRule false) else Ev.bnd (F_first_within_1 (T_api_Rule.Dport_Lo x0) 0 65535) fun v18 => bif v18 then Ev.ret2 (E_first_RightRule false) else Ev.bnd (F_first_within_1 (T_api_Rule.Dport_Hi x0) 0 65535) fun v19 => bif v19 then Ev.ret2 (E_first_RightRule false) else bif Ev.leI (T_api_Rule.Sport_Lo x0) (T_api_Rule.Sport_Hi x0) then bif Ev.leI (T_api_Rule.Dport_Lo x0) (T_api_Rule.Dport_Hi x0) then Ev.bnd (F_first_within_1 (T_api_Rule.Action x0) 0 1) fun v20 => bif v20 then Ev.ret2 (E_first_RightRule false) else Ev.bnd (F_first_within_1 (T_api_Rule.Help x0) 0 3) fun v21 => bif v21 then Ev.ret2 (E_first_RightRule false) else Ev.ret2 (E_first_RightRule true) else Ev.ret2 (E_first_RightRule false) else Ev.ret2 (E_first_RightRule false) else Ev.bnd (F_first_anywhere { Addr_Fam := T_api_Rule.Dst_Addr_Fam x0, Addr_Hi := T_api_Rule.Dst_Addr_Hi x0, Addr_Lo := T_api_Rule.Dst_Addr_Lo x0, Bits := T_api_Rule.Dst_Bits x0 }) fun v22 => bif !v22 then Ev.bnd (F_addr_RightPrefix { Addr_Fam := T_api_Rule.Dst_Addr_Fam x0, Addr_Hi := T_api_Rule.Dst_Addr_Hi x0, Addr_Lo := T_api_Rule.Dst_Addr_Lo x0, Bits := T_api_Rule.Dst_Bits x0 }) fun v23 => bif !v23 then Ev.ret2 (E_first_RightRule false) else Ev.bnd (F_first_within_1 (T_api_Rule.From x0) (-1) 15) fun v24 => bif v24 then Ev.ret2 (E_first_RightRule false) else Ev.bnd (F_first_within_1 (T_api_Rule.To x0) (-1) 15) fun v25 => bif v25 then Ev.ret2 (E_first_RightRule false) else Ev.bnd (F_first_within_1 (T_api_Rule.Proto x0) 0 255) fun v26 => bif v26 then Ev.ret2 (E_first_RightRule false) else Ev.bnd (F_first_within_1 (T_api_Rule.Sport_Lo x0) 0 65535) fun v27 => bif v27 then Ev.ret2 (E_first_RightRule false) else Ev.bnd (F_first_within_1 (T_api_Rule.Sport_Hi x0) 0 65535) fun v28 => bif v28 then Ev.ret2 (E_first_RightRule false) else Ev.bnd (F_first_within_1 (T_api_Rule.Dport_Lo x0) 0 65535) fun v29 => bif v29 then Ev.ret2 (E_first_RightRule false) else Ev.bnd (F_first_within_1 (T_api_Rule.Dport_Hi x0) 0 65535) fun v30 => bif v30 then Ev.ret2 (E_first_RightRule false) else bif Ev.leI (T_api_Rule.Sport_Lo x0) (T_api_Rule.Sport_Hi x0) then bif Ev.leI (T_api_Rule.Dport_Lo x0) (T_api_Rule.Dport_Hi x0) then Ev.bnd (F_first_within_1 (T_api_Rule.Action x0) 0 1) fun v31 => bif v31 then Ev.ret2 (E_first_RightRule false) else Ev.bnd (F_first_within_1 (T_api_Rule.Help x0) 0 3) fun v32 => bif v32 then Ev.ret2 (E_first_RightRule false) else Ev.ret2 (E_first_RightRule true) else Ev.ret2 (E_first_RightRule false) else Ev.ret2 (E_first_RightRule false) else Ev.bnd (F_first_within_1 (T_api_Rule.From x0) (-1) 15) fun v33 => bif v33 then Ev.ret2 (E_first_RightRule false) else Ev.bnd (F_first_within_1 (T_api_Rule.To x0) (-1) 15) fun v34 => bif v34 then Ev.ret2 (E_first_RightRule false) else Ev.bnd (F_first_within_1 (T_api_Rule.Proto x0) 0 255) fun v35 => bif v35 then Ev.ret2 (E_first_RightRule false) else Ev.bnd (F_first_within_1 (T_api_Rule.Sport_Lo x0) 0 65535) fun v36 => bif v36 then Ev.ret2 (E_first_RightRule false) else Ev.bnd (F_first_within_1 (T_api_Rule.Sport_Hi x0) 0 65535) fun v37 => bif v37 then Ev.ret2 (E_first_RightRule false) else Ev.bnd (F_first_within_1 (T_api_Rule.Dport_Lo x0) 0 65535) fun v38 => bif v38 then Ev.ret2 (E_first_RightRule false) else Ev.bnd (F_first_within_1 (T_api_Rule.Dport_Hi x0) 0 65535) fun v39 => bif v39 then Ev.ret2 (E_first_RightRule false) else bif Ev.leI (T_api_Rule.Sport_Lo x0) (T_api_Rule.Sport_Hi x0) then bif Ev.leI (T_api_Rule.Dport_Lo x0) (T_api_Rule.Dport_Hi x0) then Ev.bnd (F_first_within_1 (T_api_Rule.Action x0) 0 1) fun v40 => bif v40 then Ev.ret2 (E_first_RightRule false) else Ev.bnd (F_first_within_1 (T_api_Rule.Help x0) 0 3) fun v41 => bif v41 then Ev.ret2 (E_first_RightRule false) else Ev.ret2 (E_first_RightRule true) else Ev.ret2 (E_first_RightRule false) else Ev.ret2 (E_first_RightRule false) := by kernel_rfl
noncomputable def N_first_RightRule (F_first_anywhere : T_api_Prefix → Option Bool) (F_addr_RightPrefix : T_api_Prefix → Option Bool) (F_first_within_1 : Int → Int → Int → Option Bool) (m : Nat) (x0 : T_api_Rule) : Option Bool := Ev.bnd (F_first_anywhere { Addr_Fam := T_api_Rule.Src_Addr_Fam x0, Addr_Hi := T_api_Rule.Src_Addr_Hi x0, Addr_Lo := T_api_Rule.Src_Addr_Lo x0, Bits := T_api_Rule.Src_Bits x0 }) fun v0 => bif !v0 then Ev.bnd (F_addr_RightPrefix { Addr_Fam := T_api_Rule.Src_Addr_Fam x0, Addr_Hi := T_api_Rule.Src_Addr_Hi x0, Addr_Lo := T_api_Rule.Src_Addr_Lo x0, Bits := T_api_Rule.Src_Bits x0 }) fun v1 => bif !v1 then some false else Ev.bnd (F_first_anywhere { Addr_Fam := T_api_Rule.Dst_Addr_Fam x0, Addr_Hi := T_api_Rule.Dst_Addr_Hi x0, Addr_Lo := T_api_Rule.Dst_Addr_Lo x0, Bits := T_api_Rule.Dst_Bits x0 }) fun v2 => bif !v2 then Ev.bnd (F_addr_RightPrefix { Addr_Fam := T_api_Rule.Dst_Addr_Fam x0, Addr_Hi := T_api_Rule.Dst_Addr_Hi x0, Addr_Lo := T_api_Rule.Dst_Addr_Lo x0, Bits := T_api_Rule.Dst_Bits x0 }) fun v3 => bif !v3 then some false else Ev.bnd (F_first_within_1 (T_api_Rule.From x0) (-1) 15) fun v4 => bif v4 then some false else Ev.bnd (F_first_within_1 (T_api_Rule.To x0) (-1) 15) fun v5 => bif v5 then some false else Ev.bnd (F_first_within_1 (T_api_Rule.Proto x0) 0 255) fun v6 => bif v6 then some false else Ev.bnd (F_first_within_1 (T_api_Rule.Sport_Lo x0) 0 65535) fun v7 => bif v7 then some false else Ev.bnd (F_first_within_1 (T_api_Rule.Sport_Hi x0) 0 65535) fun v8 => bif v8 then some false else Ev.bnd (F_first_within_1 (T_api_Rule.Dport_Lo x0) 0 65535) fun v9 => bif v9 then some false else Ev.bnd (F_first_within_1 (T_api_Rule.Dport_Hi x0) 0 65535) fun v10 => bif v10 then some false else bif Ev.leI (T_api_Rule.Sport_Lo x0) (T_api_Rule.Sport_Hi x0) then bif Ev.leI (T_api_Rule.Dport_Lo x0) (T_api_Rule.Dport_Hi x0) then Ev.bnd (F_first_within_1 (T_api_Rule.Action x0) 0 1) fun v11 => bif v11 then some false else Ev.bnd (F_first_within_1 (T_api_Rule.Help x0) 0 3) fun v12 => bif v12 then some false else some true else some false else some false else Ev.bnd (F_first_within_1 (T_api_Rule.From x0) (-1) 15) fun v13 => bif v13 then some false else Ev.bnd (F_first_within_1 (T_api_Rule.To x0) (-1) 15) fun v14 => bif v14 then some false else Ev.bnd (F_first_within_1 (T_api_Rule.Proto x0) 0 255) fun v15 => bif v15 then some false else Ev.bnd (F_first_within_1 (T_api_Rule.Sport_Lo x0) 0 65535) fun v16 => bif v16 then some false else Ev.bnd (F_first_within_1 (T_api_Rule.Sport_Hi x0) 0 65535) fun v17 => bif v17 then some false else Ev.bnd (F_first_within_1 (T_api_Rule.Dport_Lo x0) 0 65535) fun v18 => bif v18 then some false else Ev.bnd (F_first_within_1 (T_api_Rule.Dport_Hi x0) 0 65535) fun v19 => bif v19 then some false else bif Ev.leI (T_api_Rule.Sport_Lo x0) (T_api_Rule.Sport_Hi x0) then bif Ev.leI (T_api_Rule.Dport_Lo x0) (T_api_Rule.Dport_Hi x0) then Ev.bnd (F_first_within_1 (T_api_Rule.Action x0) 0 1) fun v20 => bif v20 then some false else Ev.bnd (F_first_within_1 (T_api_Rule.Help x0) 0 3) fun v21 => bif v21 then some false else some true else some false else some false else Ev.bnd (F_first_anywhere { Addr_Fam := T_api_Rule.Dst_Addr_Fam x0, Addr_Hi := T_api_Rule.Dst_Addr_Hi x0, Addr_Lo := T_api_Rule.Dst_Addr_Lo x0, Bits := T_api_Rule.Dst_Bits x0 }) fun v22 => bif !v22 then Ev.bnd (F_addr_RightPrefix { Addr_Fam := T_api_Rule.Dst_Addr_Fam x0, Addr_Hi := T_api_Rule.Dst_Addr_Hi x0, Addr_Lo := T_api_Rule.Dst_Addr_Lo x0, Bits := T_api_Rule.Dst_Bits x0 }) fun v23 => bif !v23 then some false else Ev.bnd (F_first_within_1 (T_api_Rule.From x0) (-1) 15) fun v24 => bif v24 then some false else Ev.bnd (F_first_within_1 (T_api_Rule.To x0) (-1) 15) fun v25 => bif v25 then some false else Ev.bnd (F_first_within_1 (T_api_Rule.Proto x0) 0 255) fun v26 => bif v26 then some false else Ev.bnd (F_first_within_1 (T_api_Rule.Sport_Lo x0) 0 65535) fun v27 => bif v27 then some false else Ev.bnd (F_first_within_1 (T_api_Rule.Sport_Hi x0) 0 65535) fun v28 => bif v28 then some false else Ev.bnd (F_first_within_1 (T_api_Rule.Dport_Lo x0) 0 65535) fun v29 => bif v29 then some false else Ev.bnd (F_first_within_1 (T_api_Rule.Dport_Hi x0) 0 65535) fun v30 => bif v30 then some false else bif Ev.leI (T_api_Rule.Sport_Lo x0) (T_api_Rule.Sport_Hi x0) then bif Ev.leI (T_api_Rule.Dport_Lo x0) (T_api_Rule.Dport_Hi x0) then Ev.bnd (F_first_within_1 (T_api_Rule.Action x0) 0 1) fun v31 => bif v31 then some false else Ev.bnd (F_first_within_1 (T_api_Rule.Help x0) 0 3) fun v32 => bif v32 then some false else some true else some false else some false else Ev.bnd (F_first_within_1 (T_api_Rule.From x0) (-1) 15) fun v33 => bif v33 then some false else Ev.bnd (F_first_within_1 (T_api_Rule.To x0) (-1) 15) fun v34 => bif v34 then some false else Ev.bnd (F_first_within_1 (T_api_Rule.Proto x0) 0 255) fun v35 => bif v35 then some false else Ev.bnd (F_first_within_1 (T_api_Rule.Sport_Lo x0) 0 65535) fun v36 => bif v36 then some false else Ev.bnd (F_first_within_1 (T_api_Rule.Sport_Hi x0) 0 65535) fun v37 => bif v37 then some false else Ev.bnd (F_first_within_1 (T_api_Rule.Dport_Lo x0) 0 65535) fun v38 => bif v38 then some false else Ev.bnd (F_first_within_1 (T_api_Rule.Dport_Hi x0) 0 65535) fun v39 => bif v39 then some false else bif Ev.leI (T_api_Rule.Sport_Lo x0) (T_api_Rule.Sport_Hi x0) then bif Ev.leI (T_api_Rule.Dport_Lo x0) (T_api_Rule.Dport_Hi x0) then Ev.bnd (F_first_within_1 (T_api_Rule.Action x0) 0 1) fun v40 => bif v40 then some false else Ev.bnd (F_first_within_1 (T_api_Rule.Help x0) 0 3) fun v41 => bif v41 then some false else some true else some false else some false
theorem pr_first_RightRule (F_first_anywhere : T_api_Prefix → Option Bool) (F_addr_RightPrefix : T_api_Prefix → Option Bool) (F_first_within_1 : Int → Int → Int → Option Bool) (m : Nat) (x0 : T_api_Rule) : Ev.evBodyD (Es_first_RightRule F_first_anywhere F_addr_RightPrefix F_first_within_1) MtDa (O_first_RightRule F_first_anywhere F_addr_RightPrefix F_first_within_1) 40 24 [v_api_Rule x0] = Ev.oE E_first_RightRule (N_first_RightRule F_first_anywhere F_addr_RightPrefix F_first_within_1 m x0) := by
  rw [run_first_RightRule F_first_anywhere F_addr_RightPrefix F_first_within_1 m x0]
  simp only [N_first_RightRule, Ev.oE_some, Ev.oE_none, Ev.oE_cond, Ev.oE_bnd]
noncomputable def F_first_RightRule : T_api_Rule → Option Bool := fun x0 => N_first_RightRule F_first_anywhere F_addr_RightPrefix F_first_within_1 0 x0
theorem ok_first_RightRule : Ev.EnvOk (Ew_first_RightRule F_first_anywhere F_addr_RightPrefix F_first_within_1) := Ev.envOk_with envOkd (Ev.SpsOk.add (b := false) g_first_anywhere (by kernel_rfl) (Ev.SpsOk.add (b := false) g_addr_RightPrefix (by kernel_rfl) (Ev.SpsOk.add (b := false) g_first_within_1 (by kernel_rfl) Ev.SpsOk.nil)))
theorem ro_first_RightRule (F_first_anywhere : T_api_Prefix → Option Bool) (F_addr_RightPrefix : T_api_Prefix → Option Bool) (F_first_within_1 : Int → Int → Int → Option Bool) : Ev.SpecRl (Ew_first_RightRule F_first_anywhere F_addr_RightPrefix F_first_within_1) := Ev.specRl_with rfl (Ev.SpsRl.cons (rs_first_anywhere _) (Ev.SpsRl.cons (rs_addr_RightPrefix _) (Ev.SpsRl.cons (rs_first_within_1 _) Ev.SpsRl.nil)))
theorem g_first_RightRule : Ev.SpOk Try.prog false 24 (s_first_RightRule F_first_RightRule) := by
  refine Ev.SpOk.mkF fun vs k r g0 => ?_
  unfold s_first_RightRule at g0
  obtain ⟨a0, r0, rfl, g1⟩ := Ev.kU_ok g0
  obtain ⟨rfl, g2⟩ := Ev.kE_ok g1
  obtain ⟨x0, rfl, g3⟩ := d_api_Rule_ok g2
  obtain ⟨x, hx, h⟩ := Ev.bnd_get g3
  have h1 := pr_first_RightRule F_first_anywhere F_addr_RightPrefix F_first_within_1 0 x0
  rw [show N_first_RightRule F_first_anywhere F_addr_RightPrefix F_first_within_1 0 x0 = some x from hx] at h1
  exact ⟨_, h, Ev.good_of_inl ok_first_RightRule (ro_first_RightRule F_first_anywhere F_addr_RightPrefix F_first_within_1) rfl rfl Ev.TabOk.nil 40 12 _ h1⟩
-- first.holds
-- DEEP first_holds 71 - T_api_Ports → Int → Option Bool
noncomputable def e_first_holds (x : Bool) : Value := .bool x
noncomputable def E_first_holds (x : Bool) : Value × Ev.AH := (e_first_holds x, ⟨[], 0, []⟩)
noncomputable def s_first_holds (F : T_api_Ports → Int → Option Bool) : Ev.Sp := fun vs k => Ev.kU vs fun a0 r0 => Ev.kU r0 fun a1 r1 => Ev.kE r1 <| d_api_Ports a0 fun x0 => Ev.gI .i64 a1 fun x1 => Ev.bnd (F x0 x1) fun x => k (e_first_holds x)
theorem rs_first_holds (F : T_api_Ports → Int → Option Bool) : Ev.SpRl (s_first_holds F) := by
  intro S vs k k2 hk
  unfold s_first_holds
  refine Ev.rl_kU fun _ _ => ?_
  refine Ev.rl_kU fun _ _ => ?_
  refine Ev.rl_kE ?_
  refine rl_d_api_Ports fun _ => ?_
  refine Ev.rl_gI fun _ => ?_
  exact Ev.Rl.bnd fun x => hk _
noncomputable def Ew_first_holds : Ev.Env := Ev.Env.with Ed []
noncomputable def Es_first_holds : Ev.Env := Ev.Env.inl (Ew_first_holds ) MtDa [] 40 12
noncomputable def O_first_holds : Ev.Orc := fun _ _ _ => none
theorem run_first_holds (m : Nat) (x0 : T_api_Ports) (x1 : Int) : Ev.evBodyD (Es_first_holds ) MtDa (O_first_holds ) m 71 [v_api_Ports x0, .int .i64 x1] = bif Ev.leI (T_api_Ports.Lo x0) x1 then Ev.ret2 (E_first_holds (Ev.leI x1 (T_api_Ports.Hi x0))) else Ev.ret2 (E_first_holds false) := by kernel_rfl
noncomputable def N_first_holds (m : Nat) (x0 : T_api_Ports) (x1 : Int) : Option Bool := bif Ev.leI (T_api_Ports.Lo x0) x1 then some (Ev.leI x1 (T_api_Ports.Hi x0)) else some false
theorem pr_first_holds (m : Nat) (x0 : T_api_Ports) (x1 : Int) : Ev.evBodyD (Es_first_holds ) MtDa (O_first_holds ) m 71 [v_api_Ports x0, .int .i64 x1] = Ev.oE E_first_holds (N_first_holds m x0 x1) := by
  rw [run_first_holds]
  simp only [N_first_holds, Ev.oE_some, Ev.oE_none, Ev.oE_cond, Ev.oE_bnd]
noncomputable def F_first_holds : T_api_Ports → Int → Option Bool := fun x0 x1 => N_first_holds 0 x0 x1
theorem ok_first_holds : Ev.EnvOk (Ew_first_holds ) := Ev.envOk_with envOkd Ev.SpsOk.nil
theorem ro_first_holds : Ev.SpecRl (Ew_first_holds ) := Ev.specRl_with rfl Ev.SpsRl.nil
theorem g_first_holds : Ev.SpOk Try.prog false 71 (s_first_holds F_first_holds) := by
  refine Ev.SpOk.mkF fun vs k r g0 => ?_
  unfold s_first_holds at g0
  obtain ⟨a0, r0, rfl, g1⟩ := Ev.kU_ok g0
  obtain ⟨a1, r1, rfl, g2⟩ := Ev.kU_ok g1
  obtain ⟨rfl, g3⟩ := Ev.kE_ok g2
  obtain ⟨x0, rfl, g4⟩ := d_api_Ports_ok g3
  obtain ⟨x1, rfl, g5⟩ := Ev.gI_ok g4
  obtain ⟨x, hx, h⟩ := Ev.bnd_get g5
  have h1 := pr_first_holds  0 x0 x1
  rw [show N_first_holds  0 x0 x1 = some x from hx] at h1
  exact ⟨_, h, Ev.good_of_inl ok_first_holds (ro_first_holds ) rfl rfl Ev.TabOk.nil 40 12 _ h1⟩
-- first.Takes
-- DEEP first_Takes 26 - T_api_Rule → T_api_Key → Option Bool
noncomputable def e_first_Takes (x : Bool) : Value := .bool x
noncomputable def E_first_Takes (x : Bool) : Value × Ev.AH := (e_first_Takes x, ⟨[], 0, []⟩)
noncomputable def s_first_Takes (F : T_api_Rule → T_api_Key → Option Bool) : Ev.Sp := fun vs k => Ev.kU vs fun a0 r0 => Ev.kU r0 fun a1 r1 => Ev.kE r1 <| d_api_Rule a0 fun x0 => d_api_Key a1 fun x1 => Ev.bnd (F x0 x1) fun x => k (e_first_Takes x)
theorem rs_first_Takes (F : T_api_Rule → T_api_Key → Option Bool) : Ev.SpRl (s_first_Takes F) := by
  intro S vs k k2 hk
  unfold s_first_Takes
  refine Ev.rl_kU fun _ _ => ?_
  refine Ev.rl_kU fun _ _ => ?_
  refine Ev.rl_kE ?_
  refine rl_d_api_Rule fun _ => ?_
  refine rl_d_api_Key fun _ => ?_
  exact Ev.Rl.bnd fun x => hk _
noncomputable def Ew_first_Takes (F_first_RightRule : T_api_Rule → Option Bool) (F_first_RightKey : T_api_Key → Option Bool) (F_first_anywhere : T_api_Prefix → Option Bool) (F_addr_Has : T_api_Prefix → T_api_Addr → Option Bool) (F_first_holds : T_api_Ports → Int → Option Bool) : Ev.Env := Ev.Env.with Ed [(24, s_first_RightRule F_first_RightRule), (22, s_first_RightKey F_first_RightKey), (59, s_first_anywhere F_first_anywhere), (67, s_addr_Has F_addr_Has), (71, s_first_holds F_first_holds)]
noncomputable def Es_first_Takes (F_first_RightRule : T_api_Rule → Option Bool) (F_first_RightKey : T_api_Key → Option Bool) (F_first_anywhere : T_api_Prefix → Option Bool) (F_addr_Has : T_api_Prefix → T_api_Addr → Option Bool) (F_first_holds : T_api_Ports → Int → Option Bool) : Ev.Env := Ev.Env.inl (Ew_first_Takes F_first_RightRule F_first_RightKey F_first_anywhere F_addr_Has F_first_holds) MtDa [] 40 12
noncomputable def O_first_Takes (F_first_RightRule : T_api_Rule → Option Bool) (F_first_RightKey : T_api_Key → Option Bool) (F_first_anywhere : T_api_Prefix → Option Bool) (F_addr_Has : T_api_Prefix → T_api_Addr → Option Bool) (F_first_holds : T_api_Ports → Int → Option Bool) : Ev.Orc := fun _ _ _ => none
theorem run_first_Takes (F_first_RightRule : T_api_Rule → Option Bool) (F_first_RightKey : T_api_Key → Option Bool) (F_first_anywhere : T_api_Prefix → Option Bool) (F_addr_Has : T_api_Prefix → T_api_Addr → Option Bool) (F_first_holds : T_api_Ports → Int → Option Bool) (m : Nat) (x0 : T_api_Rule) (x1 : T_api_Key) : Ev.evBodyD (Es_first_Takes F_first_RightRule F_first_RightKey F_first_anywhere F_addr_Has F_first_holds) MtDa (O_first_Takes F_first_RightRule F_first_RightKey F_first_anywhere F_addr_Has F_first_holds) m 26 [v_api_Rule x0, v_api_Key x1] = Ev.bnd (F_first_RightRule { From := T_api_Rule.From x0, To := T_api_Rule.To x0, Src_Addr_Fam := T_api_Rule.Src_Addr_Fam x0, Src_Addr_Hi := T_api_Rule.Src_Addr_Hi x0, Src_Addr_Lo := T_api_Rule.Src_Addr_Lo x0, Src_Bits := T_api_Rule.Src_Bits x0, Dst_Addr_Fam := T_api_Rule.Dst_Addr_Fam x0, Dst_Addr_Hi := T_api_Rule.Dst_Addr_Hi x0, Dst_Addr_Lo := T_api_Rule.Dst_Addr_Lo x0, Dst_Bits := T_api_Rule.Dst_Bits x0, Proto := T_api_Rule.Proto x0, Sport_Lo := T_api_Rule.Sport_Lo x0, Sport_Hi := T_api_Rule.Sport_Hi x0, Dport_Lo := T_api_Rule.Dport_Lo x0, Dport_Hi := T_api_Rule.Dport_Hi x0, Action := T_api_Rule.Action x0, Help := T_api_Rule.Help x0 }) fun v0 => bif v0 then Ev.bnd (F_first_RightKey { From := T_api_Key.From x1, To := T_api_Key.To x1, Src_Fam := T_api_Key.Src_Fam x1, Src_Hi := T_api_Key.Src_Hi x1, Src_Lo := T_api_Key.Src_Lo x1, Dst_Fam := T_api_Key.Dst_Fam x1, Dst_Hi := T_api_Key.Dst_Hi x1, Dst_Lo := T_api_Key.Dst_Lo x1, Proto := T_api_Key.Proto x1, Sport := T_api_Key.Sport x1, Dport := T_api_Key.Dport x1 }) fun v1 => bif !v1 then Ev.ret2 (E_first_Takes false) else bif T_api_Rule.From x0 == -1 then bif T_api_Rule.To x0 == -1 then Ev.bnd (F_first_anywhere { Addr_Fam := T_api_Rule.Src_Addr_Fam x0, Addr_Hi := T_api_Rule.Src_Addr_Hi x0, Addr_Lo := T_api_Rule.Src_Addr_Lo x0, Bits := T_api_Rule.Src_Bits x0 }) fun v2 => bif v2 then Ev.bnd (F_first_anywhere { Addr_Fam := T_api_Rule.Dst_Addr_Fam x0, Addr_Hi := T_api_Rule.Dst_Addr_Hi x0, Addr_Lo := T_api_Rule.Dst_Addr_Lo x0, Bits := T_api_Rule.Dst_Bits x0 }) fun v3 => bif v3 then bif T_api_Rule.Proto x0 == 0 then Ev.bnd (F_first_holds { Lo := T_api_Rule.Sport_Lo x0, Hi := T_api_Rule.Sport_Hi x0 } (T_api_Key.Sport x1)) fun v4 => bif v4 then Ev.bnd (F_first_holds { Lo := T_api_Rule.Dport_Lo x0, Hi := T_api_Rule.Dport_Hi x0 } (T_api_Key.Dport x1)) fun v5 => bif !v5 then Ev.ret2 (E_first_Takes false) else Ev.ret2 (E_first_Takes true) else Ev.ret2 (E_first_Takes false) else bif !T_api_Rule.Proto x0 == T_api_Key.Proto x1 then Ev.ret2 (E_first_Takes false) else Ev.bnd (F_first_holds { Lo := T_api_Rule.Sport_Lo x0, Hi := T_api_Rule.Sport_Hi x0 } (T_api_Key.Sport x1)) fun v6 => bif v6 then Ev.bnd (F_first_holds { Lo := T_api_Rule.Dport_Lo x0, Hi := T_api_Rule.Dport_Hi x0 } (T_api_Key.Dport x1)) fun v7 => bif !v7 then Ev.ret2 (E_first_Takes false) else Ev.ret2 (E_first_Takes true) else Ev.ret2 (E_first_Takes false) else Ev.bnd (F_addr_Has { Addr_Fam := T_api_Rule.Dst_Addr_Fam x0, Addr_Hi := T_api_Rule.Dst_Addr_Hi x0, Addr_Lo := T_api_Rule.Dst_Addr_Lo x0, Bits := T_api_Rule.Dst_Bits x0 } { Fam := T_api_Key.Dst_Fam x1, Hi := T_api_Key.Dst_Hi x1, Lo := T_api_Key.Dst_Lo x1 }) fun v8 => bif !v8 then Ev.ret2 (E_first_Takes false) else bif T_api_Rule.Proto x0 == 0 then Ev.bnd (F_first_holds { Lo := T_api_Rule.Sport_Lo x0, Hi := T_api_Rule.Sport_Hi x0 } (T_api_Key.Sport x1)) fun v9 => bif v9 then Ev.bnd (F_first_holds { Lo := T_api_Rule.Dport_Lo x0, Hi := T_api_Rule.Dport_Hi x0 } (T_api_Key.Dport x1)) fun v10 => bif !v10 then Ev.ret2 (E_first_Takes false) else Ev.ret2 (E_first_Takes true) else Ev.ret2 (E_first_Takes false) else bif !T_api_Rule.Proto x0 == T_api_Key.Proto x1 then Ev.ret2 (E_first_Takes false) else Ev.bnd (F_first_holds { Lo := T_api_Rule.Sport_Lo x0, Hi := T_api_Rule.Sport_Hi x0 } (T_api_Key.Sport x1)) fun v11 => bif v11 then Ev.bnd (F_first_holds { Lo := T_api_Rule.Dport_Lo x0, Hi := T_api_Rule.Dport_Hi x0 } (T_api_Key.Dport x1)) fun v12 => bif !v12 then Ev.ret2 (E_first_Takes false) else Ev.ret2 (E_first_Takes true) else Ev.ret2 (E_first_Takes false) else Ev.bnd (F_addr_Has { Addr_Fam := T_api_Rule.Src_Addr_Fam x0, Addr_Hi := T_api_Rule.Src_Addr_Hi x0, Addr_Lo := T_api_Rule.Src_Addr_Lo x0, Bits := T_api_Rule.Src_Bits x0 } { Fam := T_api_Key.Src_Fam x1, Hi := T_api_Key.Src_Hi x1, Lo := T_api_Key.Src_Lo x1 }) fun v13 => bif !v13 then Ev.ret2 (E_first_Takes false) else Ev.bnd (F_first_anywhere { Addr_Fam := T_api_Rule.Dst_Addr_Fam x0, Addr_Hi := T_api_Rule.Dst_Addr_Hi x0, Addr_Lo := T_api_Rule.Dst_Addr_Lo x0, Bits := T_api_Rule.Dst_Bits x0 }) fun v14 => bif v14 then bif T_api_Rule.Proto x0 == 0 then Ev.bnd (F_first_holds { Lo := T_api_Rule.Sport_Lo x0, Hi := T_api_Rule.Sport_Hi x0 } (T_api_Key.Sport x1)) fun v15 => bif v15 then Ev.bnd (F_first_holds { Lo := T_api_Rule.Dport_Lo x0, Hi := T_api_Rule.Dport_Hi x0 } (T_api_Key.Dport x1)) fun v16 => bif !v16 then Ev.ret2 (E_first_Takes false) else Ev.ret2 (E_first_Takes true) else Ev.ret2 (E_first_Takes false) else bif !T_api_Rule.Proto x0 == T_api_Key.Proto x1 then Ev.ret2 (E_first_Takes false) else Ev.bnd (F_first_holds { Lo := T_api_Rule.Sport_Lo x0, Hi := T_api_Rule.Sport_Hi x0 } (T_api_Key.Sport x1)) fun v17 => bif v17 then Ev.bnd (F_first_holds { Lo := T_api_Rule.Dport_Lo x0, Hi := T_api_Rule.Dport_Hi x0 } (T_api_Key.Dport x1)) fun v18 => bif !v18 then Ev.ret2 (E_first_Takes false) else Ev.ret2 (E_first_Takes true) else Ev.ret2 (E_first_Takes false) else Ev.bnd (F_addr_Has { Addr_Fam := T_api_Rule.Dst_Addr_Fam x0, Addr_Hi := T_api_Rule.Dst_Addr_Hi x0, Addr_Lo := T_api_Rule.Dst_Addr_Lo x0, Bits := T_api_Rule.Dst_Bits x0 } { Fam := T_api_Key.Dst_Fam x1, Hi := T_api_Key.Dst_Hi x1, Lo := T_api_Key.Dst_Lo x1 }) fun v19 => bif !v19 then Ev.ret2 (E_first_Takes false) else bif T_api_Rule.Proto x0 == 0 then Ev.bnd (F_first_holds { Lo := T_api_Rule.Sport_Lo x0, Hi := T_api_Rule.Sport_Hi x0 } (T_api_Key.Sport x1)) fun v20 => bif v20 then Ev.bnd (F_first_holds { Lo := T_api_Rule.Dport_Lo x0, Hi := T_api_Rule.Dport_Hi x0 } (T_api_Key.Dport x1)) fun v21 => bif !v21 then Ev.ret2 (E_first_Takes false) else Ev.ret2 (E_first_Takes true) else Ev.ret2 (E_first_Takes false) else bif !T_api_Rule.Proto x0 == T_api_Key.Proto x1 then Ev.ret2 (E_first_Takes false) else Ev.bnd (F_first_holds { Lo := T_api_Rule.Sport_Lo x0, Hi := T_api_Rule.Sport_Hi x0 } (T_api_Key.Sport x1)) fun v22 => bif v22 then Ev.bnd (F_first_holds { Lo := T_api_Rule.Dport_Lo x0, Hi := T_api_Rule.Dport_Hi x0 } (T_api_Key.Dport x1)) fun v23 => bif !v23 then Ev.ret2 (E_first_Takes false) else Ev.ret2 (E_first_Takes true) else Ev.ret2 (E_first_Takes false) else bif !T_api_Rule.To x0 == T_api_Key.To x1 then Ev.ret2 (E_first_Takes false) else Ev.bnd (F_first_anywhere { Addr_Fam := T_api_Rule.Src_Addr_Fam x0, Addr_Hi := T_api_Rule.Src_Addr_Hi x0, Addr_Lo := T_api_Rule.Src_Addr_Lo x0, Bits := T_api_Rule.Src_Bits x0 }) fun v24 => bif v24 then Ev.bnd (F_first_anywhere { Addr_Fam := T_api_Rule.Dst_Addr_Fam x0, Addr_Hi := T_api_Rule.Dst_Addr_Hi x0, Addr_Lo := T_api_Rule.Dst_Addr_Lo x0, Bits := T_api_Rule.Dst_Bits x0 }) fun v25 => bif v25 then bif T_api_Rule.Proto x0 == 0 then Ev.bnd (F_first_holds { Lo := T_api_Rule.Sport_Lo x0, Hi := T_api_Rule.Sport_Hi x0 } (T_api_Key.Sport x1)) fun v26 => bif v26 then Ev.bnd (F_first_holds { Lo := T_api_Rule.Dport_Lo x0, Hi := T_api_Rule.Dport_Hi x0 } (T_api_Key.Dport x1)) fun v27 => bif !v27 then Ev.ret2 (E_first_Takes false) else Ev.ret2 (E_first_Takes true) else Ev.ret2 (E_first_Takes false) else bif !T_api_Rule.Proto x0 == T_api_Key.Proto x1 then Ev.ret2 (E_first_Takes false) else Ev.bnd (F_first_holds { Lo := T_api_Rule.Sport_Lo x0, Hi := T_api_Rule.Sport_Hi x0 } (T_api_Key.Sport x1)) fun v28 => bif v28 then Ev.bnd (F_first_holds { Lo := T_api_Rule.Dport_Lo x0, Hi := T_api_Rule.Dport_Hi x0 } (T_api_Key.Dport x1)) fun v29 => bif !v29 then Ev.ret2 (E_first_Takes false) else Ev.ret2 (E_first_Takes true) else Ev.ret2 (E_first_Takes false) else Ev.bnd (F_addr_Has { Addr_Fam := T_api_Rule.Dst_Addr_Fam x0, Addr_Hi := T_api_Rule.Dst_Addr_Hi x0, Addr_Lo := T_api_Rule.Dst_Addr_Lo x0, Bits := T_api_Rule.Dst_Bits x0 } { Fam := T_api_Key.Dst_Fam x1, Hi := T_api_Key.Dst_Hi x1, Lo := T_api_Key.Dst_Lo x1 }) fun v30 => bif !v30 then Ev.ret2 (E_first_Takes false) else bif T_api_Rule.Proto x0 == 0 then Ev.bnd (F_first_holds { Lo := T_api_Rule.Sport_Lo x0, Hi := T_api_Rule.Sport_Hi x0 } (T_api_Key.Sport x1)) fun v31 => bif v31 then Ev.bnd (F_first_holds { Lo := T_api_Rule.Dport_Lo x0, Hi := T_api_Rule.Dport_Hi x0 } (T_api_Key.Dport x1)) fun v32 => bif !v32 then Ev.ret2 (E_first_Takes false) else Ev.ret2 (E_first_Takes true) else Ev.ret2 (E_first_Takes false) else bif !T_api_Rule.Proto x0 == T_api_Key.Proto x1 then Ev.ret2 (E_first_Takes false) else Ev.bnd (F_first_holds { Lo := T_api_Rule.Sport_Lo x0, Hi := T_api_Rule.Sport_Hi x0 } (T_api_Key.Sport x1)) fun v33 => bif v33 then Ev.bnd (F_first_holds { Lo := T_api_Rule.Dport_Lo x0, Hi := T_api_Rule.Dport_Hi x0 } (T_api_Key.Dport x1)) fun v34 => bif !v34 then Ev.ret2 (E_first_Takes false) else Ev.ret2 (E_first_Takes true) else Ev.ret2 (E_first_Takes false) else Ev.bnd (F_addr_Has { Addr_Fam := T_api_Rule.Src_Addr_Fam x0, Addr_Hi := T_api_Rule.Src_Addr_Hi x0, Addr_Lo := T_api_Rule.Src_Addr_Lo x0, Bits := T_api_Rule.Src_Bits x0 } { Fam := T_api_Key.Src_Fam x1, Hi := T_api_Key.Src_Hi x1, Lo := T_api_Key.Src_Lo x1 }) fun v35 => bif !v35 then Ev.ret2 (E_first_Takes false) else Ev.bnd (F_first_anywhere { Addr_Fam := T_api_Rule.Dst_Addr_Fam x0, Addr_Hi := T_api_Rule.Dst_Addr_Hi x0, Addr_Lo := T_api_Rule.Dst_Addr_Lo x0, Bits := T_api_Rule.Dst_Bits x0 }) fun v36 => bif v36 then bif T_api_Rule.Proto x0 == 0 then Ev.bnd (F_first_holds { Lo := T_api_Rule.Sport_Lo x0, Hi := T_api_Rule.Sport_Hi x0 } (T_api_Key.Sport x1)) fun v37 => bif v37 then Ev.bnd (F_first_holds { Lo := T_api_Rule.Dport_Lo x0, Hi := T_api_Rule.Dport_Hi x0 } (T_api_Key.Dport x1)) fun v38 => bif !v38 then Ev.ret2 (E_first_Takes false) else Ev.ret2 (E_first_Takes true) else Ev.ret2 (E_first_Takes false) else bif !T_api_Rule.Proto x0 == T_api_Key.Proto x1 then Ev.ret2 (E_first_Takes false) else Ev.bnd (F_first_holds { Lo := T_api_Rule.Sport_Lo x0, Hi := T_api_Rule.Sport_Hi x0 } (T_api_Key.Sport x1)) fun v39 => bif v39 then Ev.bnd (F_first_holds { Lo := T_api_Rule.Dport_Lo x0, Hi := T_api_Rule.Dport_Hi x0 } (T_api_Key.Dport x1)) fun v40 => bif !v40 then Ev.ret2 (E_first_Takes false) else Ev.ret2 (E_first_Takes true) else Ev.ret2 (E_first_Takes false) else Ev.bnd (F_addr_Has { Addr_Fam := T_api_Rule.Dst_Addr_Fam x0, Addr_Hi := T_api_Rule.Dst_Addr_Hi x0, Addr_Lo := T_api_Rule.Dst_Addr_Lo x0, Bits := T_api_Rule.Dst_Bits x0 } { Fam := T_api_Key.Dst_Fam x1, Hi := T_api_Key.Dst_Hi x1, Lo := T_api_Key.Dst_Lo x1 }) fun v41 => bif !v41 then Ev.ret2 (E_first_Takes false) else bif T_api_Rule.Proto x0 == 0 then Ev.bnd (F_first_holds { Lo := T_api_Rule.Sport_Lo x0, Hi := T_api_Rule.Sport_Hi x0 } (T_api_Key.Sport x1)) fun v42 => bif v42 then Ev.bnd (F_first_holds { Lo := T_api_Rule.Dport_Lo x0, Hi := T_api_Rule.Dport_Hi x0 } (T_api_Key.Dport x1)) fun v43 => bif !v43 then Ev.ret2 (E_first_Takes false) else Ev.ret2 (E_first_Takes true) else Ev.ret2 (E_first_Takes false) else bif !T_api_Rule.Proto x0 == T_api_Key.Proto x1 then Ev.ret2 (E_first_Takes false) else Ev.bnd (F_first_holds { Lo := T_api_Rule.Sport_Lo x0, Hi := T_api_Rule.Sport_Hi x0 } (T_api_Key.Sport x1)) fun v44 => bif v44 then Ev.bnd (F_first_holds { Lo := T_api_Rule.Dport_Lo x0, Hi := T_api_Rule.Dport_Hi x0 } (T_api_Key.Dport x1)) fun v45 => bif !v45 then Ev.ret2 (E_first_Takes false) else Ev.ret2 (E_first_Takes true) else Ev.ret2 (E_first_Takes false) else bif !T_api_Rule.From x0 == T_api_Key.From x1 then Ev.ret2 (E_first_Takes false) else bif T_api_Rule.To x0 == -1 then Ev.bnd (F_first_anywhere { Addr_Fam := T_api_Rule.Src_Addr_Fam x0, Addr_Hi := T_api_Rule.Src_Addr_Hi x0, Addr_Lo := T_api_Rule.Src_Addr_Lo x0, Bits := T_api_Rule.Src_Bits x0 }) fun v46 => bif v46 then Ev.bnd (F_first_anywhere { Addr_Fam := T_api_Rule.Dst_Addr_Fam x0, Addr_Hi := T_api_Rule.Dst_Addr_Hi x0, Addr_Lo := T_api_Rule.Dst_Addr_Lo x0, Bits := T_api_Rule.Dst_Bits x0 }) fun v47 => bif v47 then bif T_api_Rule.Proto x0 == 0 then Ev.bnd (F_first_holds { Lo := T_api_Rule.Sport_Lo x0, Hi := T_api_Rule.Sport_Hi x0 } (T_api_Key.Sport x1)) fun v48 => bif v48 then Ev.bnd (F_first_holds { Lo := T_api_Rule.Dport_Lo x0, Hi := T_api_Rule.Dport_Hi x0 } (T_api_Key.Dport x1)) fun v49 => bif !v49 then Ev.ret2 (E_first_Takes false) else Ev.ret2 (E_first_Takes true) else Ev.ret2 (E_first_Takes false) else bif !T_api_Rule.Proto x0 == T_api_Key.Proto x1 then Ev.ret2 (E_first_Takes false) else Ev.bnd (F_first_holds { Lo := T_api_Rule.Sport_Lo x0, Hi := T_api_Rule.Sport_Hi x0 } (T_api_Key.Sport x1)) fun v50 => bif v50 then Ev.bnd (F_first_holds { Lo := T_api_Rule.Dport_Lo x0, Hi := T_api_Rule.Dport_Hi x0 } (T_api_Key.Dport x1)) fun v51 => bif !v51 then Ev.ret2 (E_first_Takes false) else Ev.ret2 (E_first_Takes true) else Ev.ret2 (E_first_Takes false) else Ev.bnd (F_addr_Has { Addr_Fam := T_api_Rule.Dst_Addr_Fam x0, Addr_Hi := T_api_Rule.Dst_Addr_Hi x0, Addr_Lo := T_api_Rule.Dst_Addr_Lo x0, Bits := T_api_Rule.Dst_Bits x0 } { Fam := T_api_Key.Dst_Fam x1, Hi := T_api_Key.Dst_Hi x1, Lo := T_api_Key.Dst_Lo x1 }) fun v52 => bif !v52 then Ev.ret2 (E_first_Takes false) else bif T_api_Rule.Proto x0 == 0 then Ev.bnd (F_first_holds { Lo := T_api_Rule.Sport_Lo x0, Hi := T_api_Rule.Sport_Hi x0 } (T_api_Key.Sport x1)) fun v53 => bif v53 then Ev.bnd (F_first_holds { Lo := T_api_Rule.Dport_Lo x0, Hi := T_api_Rule.Dport_Hi x0 } (T_api_Key.Dport x1)) fun v54 => bif !v54 then Ev.ret2 (E_first_Takes false) else Ev.ret2 (E_first_Takes true) else Ev.ret2 (E_first_Takes false) else bif !T_api_Rule.Proto x0 == T_api_Key.Proto x1 then Ev.ret2 (E_first_Takes false) else Ev.bnd (F_first_holds { Lo := T_api_Rule.Sport_Lo x0, Hi := T_api_Rule.Sport_Hi x0 } (T_api_Key.Sport x1)) fun v55 => bif v55 then Ev.bnd (F_first_holds { Lo := T_api_Rule.Dport_Lo x0, Hi := T_api_Rule.Dport_Hi x0 } (T_api_Key.Dport x1)) fun v56 => bif !v56 then Ev.ret2 (E_first_Takes false) else Ev.ret2 (E_first_Takes true) else Ev.ret2 (E_first_Takes false) else Ev.bnd (F_addr_Has { Addr_Fam := T_api_Rule.Src_Addr_Fam x0, Addr_Hi := T_api_Rule.Src_Addr_Hi x0, Addr_Lo := T_api_Rule.Src_Addr_Lo x0, Bits := T_api_Rule.Src_Bits x0 } { Fam := T_api_Key.Src_Fam x1, Hi := T_api_Key.Src_Hi x1, Lo := T_api_Key.Src_Lo x1 }) fun v57 => bif !v57 then Ev.ret2 (E_first_Takes false) else Ev.bnd (F_first_anywhere { Addr_Fam := T_api_Rule.Dst_Addr_Fam x0, Addr_Hi := T_api_Rule.Dst_Addr_Hi x0, Addr_Lo := T_api_Rule.Dst_Addr_Lo x0, Bits := T_api_Rule.Dst_Bits x0 }) fun v58 => bif v58 then bif T_api_Rule.Proto x0 == 0 then Ev.bnd (F_first_holds { Lo := T_api_Rule.Sport_Lo x0, Hi := T_api_Rule.Sport_Hi x0 } (T_api_Key.Sport x1)) fun v59 => bif v59 then Ev.bnd (F_first_holds { Lo := T_api_Rule.Dport_Lo x0, Hi := T_api_Rule.Dport_Hi x0 } (T_api_Key.Dport x1)) fun v60 => bif !v60 then Ev.ret2 (E_first_Takes false) else Ev.ret2 (E_first_Takes true) else Ev.ret2 (E_first_Takes false) else bif !T_api_Rule.Proto x0 == T_api_Key.Proto x1 then Ev.ret2 (E_first_Takes false) else Ev.bnd (F_first_holds { Lo := T_api_Rule.Sport_Lo x0, Hi := T_api_Rule.Sport_Hi x0 } (T_api_Key.Sport x1)) fun v61 => bif v61 then Ev.bnd (F_first_holds { Lo := T_api_Rule.Dport_Lo x0, Hi := T_api_Rule.Dport_Hi x0 } (T_api_Key.Dport x1)) fun v62 => bif !v62 then Ev.ret2 (E_first_Takes false) else Ev.ret2 (E_first_Takes true) else Ev.ret2 (E_first_Takes false) else Ev.bnd (F_addr_Has { Addr_Fam := T_api_Rule.Dst_Addr_Fam x0, Addr_Hi := T_api_Rule.Dst_Addr_Hi x0, Addr_Lo := T_api_Rule.Dst_Addr_Lo x0, Bits := T_api_Rule.Dst_Bits x0 } { Fam := T_api_Key.Dst_Fam x1, Hi := T_api_Key.Dst_Hi x1, Lo := T_api_Key.Dst_Lo x1 }) fun v63 => bif !v63 then Ev.ret2 (E_first_Takes false) else bif T_api_Rule.Proto x0 == 0 then Ev.bnd (F_first_holds { Lo := T_api_Rule.Sport_Lo x0, Hi := T_api_Rule.Sport_Hi x0 } (T_api_Key.Sport x1)) fun v64 => bif v64 then Ev.bnd (F_first_holds { Lo := T_api_Rule.Dport_Lo x0, Hi := T_api_Rule.Dport_Hi x0 } (T_api_Key.Dport x1)) fun v65 => bif !v65 then Ev.ret2 (E_first_Takes false) else Ev.ret2 (E_first_Takes true) else Ev.ret2 (E_first_Takes false) else bif !T_api_Rule.Proto x0 == T_api_Key.Proto x1 then Ev.ret2 (E_first_Takes false) else Ev.bnd (F_first_holds { Lo := T_api_Rule.Sport_Lo x0, Hi := T_api_Rule.Sport_Hi x0 } (T_api_Key.Sport x1)) fun v66 => bif v66 then Ev.bnd (F_first_holds { Lo := T_api_Rule.Dport_Lo x0, Hi := T_api_Rule.Dport_Hi x0 } (T_api_Key.Dport x1)) fun v67 => bif !v67 then Ev.ret2 (E_first_Takes false) else Ev.ret2 (E_first_Takes true) else Ev.ret2 (E_first_Takes false) else bif !T_api_Rule.To x0 == T_api_Key.To x1 then Ev.ret2 (E_first_Takes false) else Ev.bnd (F_first_anywhere { Addr_Fam := T_api_Rule.Src_Addr_Fam x0, Addr_Hi := T_api_Rule.Src_Addr_Hi x0, Addr_Lo := T_api_Rule.Src_Addr_Lo x0, Bits := T_api_Rule.Src_Bits x0 }) fun v68 => bif v68 then Ev.bnd (F_first_anywhere { Addr_Fam := T_api_Rule.Dst_Addr_Fam x0, Addr_Hi := T_api_Rule.Dst_Addr_Hi x0, Addr_Lo := T_api_Rule.Dst_Addr_Lo x0, Bits := T_api_Rule.Dst_Bits x0 }) fun v69 => bif v69 then bif T_api_Rule.Proto x0 == 0 then Ev.bnd (F_first_holds { Lo := T_api_Rule.Sport_Lo x0, Hi := T_api_Rule.Sport_Hi x0 } (T_api_Key.Sport x1)) fun v70 => bif v70 then Ev.bnd (F_first_holds { Lo := T_api_Rule.Dport_Lo x0, Hi := T_api_Rule.Dport_Hi x0 } (T_api_Key.Dport x1)) fun v71 => bif !v71 then Ev.ret2 (E_first_Takes false) else Ev.ret2 (E_first_Takes true) else Ev.ret2 (E_first_Takes false) else bif !T_api_Rule.Proto x0 == T_api_Key.Proto x1 then Ev.ret2 (E_first_Takes false) else Ev.bnd (F_first_holds { Lo := T_api_Rule.Sport_Lo x0, Hi := T_api_Rule.Sport_Hi x0 } (T_api_Key.Sport x1)) fun v72 => bif v72 then Ev.bnd (F_first_holds { Lo := T_api_Rule.Dport_Lo x0, Hi := T_api_Rule.Dport_Hi x0 } (T_api_Key.Dport x1)) fun v73 => bif !v73 then Ev.ret2 (E_first_Takes false) else Ev.ret2 (E_first_Takes true) else Ev.ret2 (E_first_Takes false) else Ev.bnd (F_addr_Has { Addr_Fam := T_api_Rule.Dst_Addr_Fam x0, Addr_Hi := T_api_Rule.Dst_Addr_Hi x0, Addr_Lo := T_api_Rule.Dst_Addr_Lo x0, Bits := T_api_Rule.Dst_Bits x0 } { Fam := T_api_Key.Dst_Fam x1, Hi := T_api_Key.Dst_Hi x1, Lo := T_api_Key.Dst_Lo x1 }) fun v74 => bif !v74 then Ev.ret2 (E_first_Takes false) else bif T_api_Rule.Proto x0 == 0 then Ev.bnd (F_first_holds { Lo := T_api_Rule.Sport_Lo x0, Hi := T_api_Rule.Sport_Hi x0 } (T_api_Key.Sport x1)) fun v75 => bif v75 then Ev.bnd (F_first_holds { Lo := T_api_Rule.Dport_Lo x0, Hi := T_api_Rule.Dport_Hi x0 } (T_api_Key.Dport x1)) fun v76 => bif !v76 then Ev.ret2 (E_first_Takes false) else Ev.ret2 (E_first_Takes true) else Ev.ret2 (E_first_Takes false) else bif !T_api_Rule.Proto x0 == T_api_Key.Proto x1 then Ev.ret2 (E_first_Takes false) else Ev.bnd (F_first_holds { Lo := T_api_Rule.Sport_Lo x0, Hi := T_api_Rule.Sport_Hi x0 } (T_api_Key.Sport x1)) fun v77 => bif v77 then Ev.bnd (F_first_holds { Lo := T_api_Rule.Dport_Lo x0, Hi := T_api_Rule.Dport_Hi x0 } (T_api_Key.Dport x1)) fun v78 => bif !v78 then Ev.ret2 (E_first_Takes false) else Ev.ret2 (E_first_Takes true) else Ev.ret2 (E_first_Takes false) else Ev.bnd (F_addr_Has { Addr_Fam := T_api_Rule.Src_Addr_Fam x0, Addr_Hi := T_api_Rule.Src_Addr_Hi x0, Addr_Lo := T_api_Rule.Src_Addr_Lo x0, Bits := T_api_Rule.Src_Bits x0 } { Fam := T_api_Key.Src_Fam x1, Hi := T_api_Key.Src_Hi x1, Lo := T_api_Key.Src_Lo x1 }) fun v79 => bif !v79 then Ev.ret2 (E_first_Takes false) else Ev.bnd (F_first_anywhere { Addr_Fam := T_api_Rule.Dst_Addr_Fam x0, Addr_Hi := T_api_Rule.Dst_Addr_Hi x0, Addr_Lo := T_api_Rule.Dst_Addr_Lo x0, Bits := T_api_Rule.Dst_Bits x0 }) fun v80 => bif v80 then bif T_api_Rule.Proto x0 == 0 then Ev.bnd (F_first_holds { Lo := T_api_Rule.Sport_Lo x0, Hi := T_api_Rule.Sport_Hi x0 } (T_api_Key.Sport x1)) fun v81 => bif v81 then Ev.bnd (F_first_holds { Lo := T_api_Rule.Dport_Lo x0, Hi := T_api_Rule.Dport_Hi x0 } (T_api_Key.Dport x1)) fun v82 => bif !v82 then Ev.ret2 (E_first_Takes false) else Ev.ret2 (E_first_Takes true) else Ev.ret2 (E_first_Takes false) else bif !T_api_Rule.Proto x0 == T_api_Key.Proto x1 then Ev.ret2 (E_first_Takes false) else Ev.bnd (F_first_holds { Lo := T_api_Rule.Sport_Lo x0, Hi := T_api_Rule.Sport_Hi x0 } (T_api_Key.Sport x1)) fun v83 => bif v83 then Ev.bnd (F_first_holds { Lo := T_api_Rule.Dport_Lo x0, Hi := T_api_Rule.Dport_Hi x0 } (T_api_Key.Dport x1)) fun v84 => bif !v84 then Ev.ret2 (E_first_Takes false) else Ev.ret2 (E_first_Takes true) else Ev.ret2 (E_first_Takes false) else Ev.bnd (F_addr_Has { Addr_Fam := T_api_Rule.Dst_Addr_Fam x0, Addr_Hi := T_api_Rule.Dst_Addr_Hi x0, Addr_Lo := T_api_Rule.Dst_Addr_Lo x0, Bits := T_api_Rule.Dst_Bits x0 } { Fam := T_api_Key.Dst_Fam x1, Hi := T_api_Key.Dst_Hi x1, Lo := T_api_Key.Dst_Lo x1 }) fun v85 => bif !v85 then Ev.ret2 (E_first_Takes false) else bif T_api_Rule.Proto x0 == 0 then Ev.bnd (F_first_holds { Lo := T_api_Rule.Sport_Lo x0, Hi := T_api_Rule.Sport_Hi x0 } (T_api_Key.Sport x1)) fun v86 => bif v86 then Ev.bnd (F_first_holds { Lo := T_api_Rule.Dport_Lo x0, Hi := T_api_Rule.Dport_Hi x0 } (T_api_Key.Dport x1)) fun v87 => bif !v87 then Ev.ret2 (E_first_Takes false) else Ev.ret2 (E_first_Takes true) else Ev.ret2 (E_first_Takes false) else bif !T_api_Rule.Proto x0 == T_api_Key.Proto x1 then Ev.ret2 (E_first_Takes false) else Ev.bnd (F_first_holds { Lo := T_api_Rule.Sport_Lo x0, Hi := T_api_Rule.Sport_Hi x0 } (T_api_Key.Sport x1)) fun v88 => bif v88 then Ev.bnd (F_first_holds { Lo := T_api_Rule.Dport_Lo x0, Hi := T_api_Rule.Dport_Hi x0 } (T_api_Key.Dport x1)) fun v89 => bif !v89 then Ev.ret2 (E_first_Takes false) else Ev.ret2 (E_first_Takes true) else Ev.ret2 (E_first_Takes false) else Ev.ret2 (E_first_Takes false) := by kernel_rfl
noncomputable def N_first_Takes (F_first_RightRule : T_api_Rule → Option Bool) (F_first_RightKey : T_api_Key → Option Bool) (F_first_anywhere : T_api_Prefix → Option Bool) (F_addr_Has : T_api_Prefix → T_api_Addr → Option Bool) (F_first_holds : T_api_Ports → Int → Option Bool) (m : Nat) (x0 : T_api_Rule) (x1 : T_api_Key) : Option Bool := Ev.bnd (F_first_RightRule { From := T_api_Rule.From x0, To := T_api_Rule.To x0, Src_Addr_Fam := T_api_Rule.Src_Addr_Fam x0, Src_Addr_Hi := T_api_Rule.Src_Addr_Hi x0, Src_Addr_Lo := T_api_Rule.Src_Addr_Lo x0, Src_Bits := T_api_Rule.Src_Bits x0, Dst_Addr_Fam := T_api_Rule.Dst_Addr_Fam x0, Dst_Addr_Hi := T_api_Rule.Dst_Addr_Hi x0, Dst_Addr_Lo := T_api_Rule.Dst_Addr_Lo x0, Dst_Bits := T_api_Rule.Dst_Bits x0, Proto := T_api_Rule.Proto x0, Sport_Lo := T_api_Rule.Sport_Lo x0, Sport_Hi := T_api_Rule.Sport_Hi x0, Dport_Lo := T_api_Rule.Dport_Lo x0, Dport_Hi := T_api_Rule.Dport_Hi x0, Action := T_api_Rule.Action x0, Help := T_api_Rule.Help x0 }) fun v0 => bif v0 then Ev.bnd (F_first_RightKey { From := T_api_Key.From x1, To := T_api_Key.To x1, Src_Fam := T_api_Key.Src_Fam x1, Src_Hi := T_api_Key.Src_Hi x1, Src_Lo := T_api_Key.Src_Lo x1, Dst_Fam := T_api_Key.Dst_Fam x1, Dst_Hi := T_api_Key.Dst_Hi x1, Dst_Lo := T_api_Key.Dst_Lo x1, Proto := T_api_Key.Proto x1, Sport := T_api_Key.Sport x1, Dport := T_api_Key.Dport x1 }) fun v1 => bif !v1 then some false else bif T_api_Rule.From x0 == -1 then bif T_api_Rule.To x0 == -1 then Ev.bnd (F_first_anywhere { Addr_Fam := T_api_Rule.Src_Addr_Fam x0, Addr_Hi := T_api_Rule.Src_Addr_Hi x0, Addr_Lo := T_api_Rule.Src_Addr_Lo x0, Bits := T_api_Rule.Src_Bits x0 }) fun v2 => bif v2 then Ev.bnd (F_first_anywhere { Addr_Fam := T_api_Rule.Dst_Addr_Fam x0, Addr_Hi := T_api_Rule.Dst_Addr_Hi x0, Addr_Lo := T_api_Rule.Dst_Addr_Lo x0, Bits := T_api_Rule.Dst_Bits x0 }) fun v3 => bif v3 then bif T_api_Rule.Proto x0 == 0 then Ev.bnd (F_first_holds { Lo := T_api_Rule.Sport_Lo x0, Hi := T_api_Rule.Sport_Hi x0 } (T_api_Key.Sport x1)) fun v4 => bif v4 then Ev.bnd (F_first_holds { Lo := T_api_Rule.Dport_Lo x0, Hi := T_api_Rule.Dport_Hi x0 } (T_api_Key.Dport x1)) fun v5 => bif !v5 then some false else some true else some false else bif !T_api_Rule.Proto x0 == T_api_Key.Proto x1 then some false else Ev.bnd (F_first_holds { Lo := T_api_Rule.Sport_Lo x0, Hi := T_api_Rule.Sport_Hi x0 } (T_api_Key.Sport x1)) fun v6 => bif v6 then Ev.bnd (F_first_holds { Lo := T_api_Rule.Dport_Lo x0, Hi := T_api_Rule.Dport_Hi x0 } (T_api_Key.Dport x1)) fun v7 => bif !v7 then some false else some true else some false else Ev.bnd (F_addr_Has { Addr_Fam := T_api_Rule.Dst_Addr_Fam x0, Addr_Hi := T_api_Rule.Dst_Addr_Hi x0, Addr_Lo := T_api_Rule.Dst_Addr_Lo x0, Bits := T_api_Rule.Dst_Bits x0 } { Fam := T_api_Key.Dst_Fam x1, Hi := T_api_Key.Dst_Hi x1, Lo := T_api_Key.Dst_Lo x1 }) fun v8 => bif !v8 then some false else bif T_api_Rule.Proto x0 == 0 then Ev.bnd (F_first_holds { Lo := T_api_Rule.Sport_Lo x0, Hi := T_api_Rule.Sport_Hi x0 } (T_api_Key.Sport x1)) fun v9 => bif v9 then Ev.bnd (F_first_holds { Lo := T_api_Rule.Dport_Lo x0, Hi := T_api_Rule.Dport_Hi x0 } (T_api_Key.Dport x1)) fun v10 => bif !v10 then some false else some true else some false else bif !T_api_Rule.Proto x0 == T_api_Key.Proto x1 then some false else Ev.bnd (F_first_holds { Lo := T_api_Rule.Sport_Lo x0, Hi := T_api_Rule.Sport_Hi x0 } (T_api_Key.Sport x1)) fun v11 => bif v11 then Ev.bnd (F_first_holds { Lo := T_api_Rule.Dport_Lo x0, Hi := T_api_Rule.Dport_Hi x0 } (T_api_Key.Dport x1)) fun v12 => bif !v12 then some false else some true else some false else Ev.bnd (F_addr_Has { Addr_Fam := T_api_Rule.Src_Addr_Fam x0, Addr_Hi := T_api_Rule.Src_Addr_Hi x0, Addr_Lo := T_api_Rule.Src_Addr_Lo x0, Bits := T_api_Rule.Src_Bits x0 } { Fam := T_api_Key.Src_Fam x1, Hi := T_api_Key.Src_Hi x1, Lo := T_api_Key.Src_Lo x1 }) fun v13 => bif !v13 then some false else Ev.bnd (F_first_anywhere { Addr_Fam := T_api_Rule.Dst_Addr_Fam x0, Addr_Hi := T_api_Rule.Dst_Addr_Hi x0, Addr_Lo := T_api_Rule.Dst_Addr_Lo x0, Bits := T_api_Rule.Dst_Bits x0 }) fun v14 => bif v14 then bif T_api_Rule.Proto x0 == 0 then Ev.bnd (F_first_holds { Lo := T_api_Rule.Sport_Lo x0, Hi := T_api_Rule.Sport_Hi x0 } (T_api_Key.Sport x1)) fun v15 => bif v15 then Ev.bnd (F_first_holds { Lo := T_api_Rule.Dport_Lo x0, Hi := T_api_Rule.Dport_Hi x0 } (T_api_Key.Dport x1)) fun v16 => bif !v16 then some false else some true else some false else bif !T_api_Rule.Proto x0 == T_api_Key.Proto x1 then some false else Ev.bnd (F_first_holds { Lo := T_api_Rule.Sport_Lo x0, Hi := T_api_Rule.Sport_Hi x0 } (T_api_Key.Sport x1)) fun v17 => bif v17 then Ev.bnd (F_first_holds { Lo := T_api_Rule.Dport_Lo x0, Hi := T_api_Rule.Dport_Hi x0 } (T_api_Key.Dport x1)) fun v18 => bif !v18 then some false else some true else some false else Ev.bnd (F_addr_Has { Addr_Fam := T_api_Rule.Dst_Addr_Fam x0, Addr_Hi := T_api_Rule.Dst_Addr_Hi x0, Addr_Lo := T_api_Rule.Dst_Addr_Lo x0, Bits := T_api_Rule.Dst_Bits x0 } { Fam := T_api_Key.Dst_Fam x1, Hi := T_api_Key.Dst_Hi x1, Lo := T_api_Key.Dst_Lo x1 }) fun v19 => bif !v19 then some false else bif T_api_Rule.Proto x0 == 0 then Ev.bnd (F_first_holds { Lo := T_api_Rule.Sport_Lo x0, Hi := T_api_Rule.Sport_Hi x0 } (T_api_Key.Sport x1)) fun v20 => bif v20 then Ev.bnd (F_first_holds { Lo := T_api_Rule.Dport_Lo x0, Hi := T_api_Rule.Dport_Hi x0 } (T_api_Key.Dport x1)) fun v21 => bif !v21 then some false else some true else some false else bif !T_api_Rule.Proto x0 == T_api_Key.Proto x1 then some false else Ev.bnd (F_first_holds { Lo := T_api_Rule.Sport_Lo x0, Hi := T_api_Rule.Sport_Hi x0 } (T_api_Key.Sport x1)) fun v22 => bif v22 then Ev.bnd (F_first_holds { Lo := T_api_Rule.Dport_Lo x0, Hi := T_api_Rule.Dport_Hi x0 } (T_api_Key.Dport x1)) fun v23 => bif !v23 then some false else some true else some false else bif !T_api_Rule.To x0 == T_api_Key.To x1 then some false else Ev.bnd (F_first_anywhere { Addr_Fam := T_api_Rule.Src_Addr_Fam x0, Addr_Hi := T_api_Rule.Src_Addr_Hi x0, Addr_Lo := T_api_Rule.Src_Addr_Lo x0, Bits := T_api_Rule.Src_Bits x0 }) fun v24 => bif v24 then Ev.bnd (F_first_anywhere { Addr_Fam := T_api_Rule.Dst_Addr_Fam x0, Addr_Hi := T_api_Rule.Dst_Addr_Hi x0, Addr_Lo := T_api_Rule.Dst_Addr_Lo x0, Bits := T_api_Rule.Dst_Bits x0 }) fun v25 => bif v25 then bif T_api_Rule.Proto x0 == 0 then Ev.bnd (F_first_holds { Lo := T_api_Rule.Sport_Lo x0, Hi := T_api_Rule.Sport_Hi x0 } (T_api_Key.Sport x1)) fun v26 => bif v26 then Ev.bnd (F_first_holds { Lo := T_api_Rule.Dport_Lo x0, Hi := T_api_Rule.Dport_Hi x0 } (T_api_Key.Dport x1)) fun v27 => bif !v27 then some false else some true else some false else bif !T_api_Rule.Proto x0 == T_api_Key.Proto x1 then some false else Ev.bnd (F_first_holds { Lo := T_api_Rule.Sport_Lo x0, Hi := T_api_Rule.Sport_Hi x0 } (T_api_Key.Sport x1)) fun v28 => bif v28 then Ev.bnd (F_first_holds { Lo := T_api_Rule.Dport_Lo x0, Hi := T_api_Rule.Dport_Hi x0 } (T_api_Key.Dport x1)) fun v29 => bif !v29 then some false else some true else some false else Ev.bnd (F_addr_Has { Addr_Fam := T_api_Rule.Dst_Addr_Fam x0, Addr_Hi := T_api_Rule.Dst_Addr_Hi x0, Addr_Lo := T_api_Rule.Dst_Addr_Lo x0, Bits := T_api_Rule.Dst_Bits x0 } { Fam := T_api_Key.Dst_Fam x1, Hi := T_api_Key.Dst_Hi x1, Lo := T_api_Key.Dst_Lo x1 }) fun v30 => bif !v30 then some false else bif T_api_Rule.Proto x0 == 0 then Ev.bnd (F_first_holds { Lo := T_api_Rule.Sport_Lo x0, Hi := T_api_Rule.Sport_Hi x0 } (T_api_Key.Sport x1)) fun v31 => bif v31 then Ev.bnd (F_first_holds { Lo := T_api_Rule.Dport_Lo x0, Hi := T_api_Rule.Dport_Hi x0 } (T_api_Key.Dport x1)) fun v32 => bif !v32 then some false else some true else some false else bif !T_api_Rule.Proto x0 == T_api_Key.Proto x1 then some false else Ev.bnd (F_first_holds { Lo := T_api_Rule.Sport_Lo x0, Hi := T_api_Rule.Sport_Hi x0 } (T_api_Key.Sport x1)) fun v33 => bif v33 then Ev.bnd (F_first_holds { Lo := T_api_Rule.Dport_Lo x0, Hi := T_api_Rule.Dport_Hi x0 } (T_api_Key.Dport x1)) fun v34 => bif !v34 then some false else some true else some false else Ev.bnd (F_addr_Has { Addr_Fam := T_api_Rule.Src_Addr_Fam x0, Addr_Hi := T_api_Rule.Src_Addr_Hi x0, Addr_Lo := T_api_Rule.Src_Addr_Lo x0, Bits := T_api_Rule.Src_Bits x0 } { Fam := T_api_Key.Src_Fam x1, Hi := T_api_Key.Src_Hi x1, Lo := T_api_Key.Src_Lo x1 }) fun v35 => bif !v35 then some false else Ev.bnd (F_first_anywhere { Addr_Fam := T_api_Rule.Dst_Addr_Fam x0, Addr_Hi := T_api_Rule.Dst_Addr_Hi x0, Addr_Lo := T_api_Rule.Dst_Addr_Lo x0, Bits := T_api_Rule.Dst_Bits x0 }) fun v36 => bif v36 then bif T_api_Rule.Proto x0 == 0 then Ev.bnd (F_first_holds { Lo := T_api_Rule.Sport_Lo x0, Hi := T_api_Rule.Sport_Hi x0 } (T_api_Key.Sport x1)) fun v37 => bif v37 then Ev.bnd (F_first_holds { Lo := T_api_Rule.Dport_Lo x0, Hi := T_api_Rule.Dport_Hi x0 } (T_api_Key.Dport x1)) fun v38 => bif !v38 then some false else some true else some false else bif !T_api_Rule.Proto x0 == T_api_Key.Proto x1 then some false else Ev.bnd (F_first_holds { Lo := T_api_Rule.Sport_Lo x0, Hi := T_api_Rule.Sport_Hi x0 } (T_api_Key.Sport x1)) fun v39 => bif v39 then Ev.bnd (F_first_holds { Lo := T_api_Rule.Dport_Lo x0, Hi := T_api_Rule.Dport_Hi x0 } (T_api_Key.Dport x1)) fun v40 => bif !v40 then some false else some true else some false else Ev.bnd (F_addr_Has { Addr_Fam := T_api_Rule.Dst_Addr_Fam x0, Addr_Hi := T_api_Rule.Dst_Addr_Hi x0, Addr_Lo := T_api_Rule.Dst_Addr_Lo x0, Bits := T_api_Rule.Dst_Bits x0 } { Fam := T_api_Key.Dst_Fam x1, Hi := T_api_Key.Dst_Hi x1, Lo := T_api_Key.Dst_Lo x1 }) fun v41 => bif !v41 then some false else bif T_api_Rule.Proto x0 == 0 then Ev.bnd (F_first_holds { Lo := T_api_Rule.Sport_Lo x0, Hi := T_api_Rule.Sport_Hi x0 } (T_api_Key.Sport x1)) fun v42 => bif v42 then Ev.bnd (F_first_holds { Lo := T_api_Rule.Dport_Lo x0, Hi := T_api_Rule.Dport_Hi x0 } (T_api_Key.Dport x1)) fun v43 => bif !v43 then some false else some true else some false else bif !T_api_Rule.Proto x0 == T_api_Key.Proto x1 then some false else Ev.bnd (F_first_holds { Lo := T_api_Rule.Sport_Lo x0, Hi := T_api_Rule.Sport_Hi x0 } (T_api_Key.Sport x1)) fun v44 => bif v44 then Ev.bnd (F_first_holds { Lo := T_api_Rule.Dport_Lo x0, Hi := T_api_Rule.Dport_Hi x0 } (T_api_Key.Dport x1)) fun v45 => bif !v45 then some false else some true else some false else bif !T_api_Rule.From x0 == T_api_Key.From x1 then some false else bif T_api_Rule.To x0 == -1 then Ev.bnd (F_first_anywhere { Addr_Fam := T_api_Rule.Src_Addr_Fam x0, Addr_Hi := T_api_Rule.Src_Addr_Hi x0, Addr_Lo := T_api_Rule.Src_Addr_Lo x0, Bits := T_api_Rule.Src_Bits x0 }) fun v46 => bif v46 then Ev.bnd (F_first_anywhere { Addr_Fam := T_api_Rule.Dst_Addr_Fam x0, Addr_Hi := T_api_Rule.Dst_Addr_Hi x0, Addr_Lo := T_api_Rule.Dst_Addr_Lo x0, Bits := T_api_Rule.Dst_Bits x0 }) fun v47 => bif v47 then bif T_api_Rule.Proto x0 == 0 then Ev.bnd (F_first_holds { Lo := T_api_Rule.Sport_Lo x0, Hi := T_api_Rule.Sport_Hi x0 } (T_api_Key.Sport x1)) fun v48 => bif v48 then Ev.bnd (F_first_holds { Lo := T_api_Rule.Dport_Lo x0, Hi := T_api_Rule.Dport_Hi x0 } (T_api_Key.Dport x1)) fun v49 => bif !v49 then some false else some true else some false else bif !T_api_Rule.Proto x0 == T_api_Key.Proto x1 then some false else Ev.bnd (F_first_holds { Lo := T_api_Rule.Sport_Lo x0, Hi := T_api_Rule.Sport_Hi x0 } (T_api_Key.Sport x1)) fun v50 => bif v50 then Ev.bnd (F_first_holds { Lo := T_api_Rule.Dport_Lo x0, Hi := T_api_Rule.Dport_Hi x0 } (T_api_Key.Dport x1)) fun v51 => bif !v51 then some false else some true else some false else Ev.bnd (F_addr_Has { Addr_Fam := T_api_Rule.Dst_Addr_Fam x0, Addr_Hi := T_api_Rule.Dst_Addr_Hi x0, Addr_Lo := T_api_Rule.Dst_Addr_Lo x0, Bits := T_api_Rule.Dst_Bits x0 } { Fam := T_api_Key.Dst_Fam x1, Hi := T_api_Key.Dst_Hi x1, Lo := T_api_Key.Dst_Lo x1 }) fun v52 => bif !v52 then some false else bif T_api_Rule.Proto x0 == 0 then Ev.bnd (F_first_holds { Lo := T_api_Rule.Sport_Lo x0, Hi := T_api_Rule.Sport_Hi x0 } (T_api_Key.Sport x1)) fun v53 => bif v53 then Ev.bnd (F_first_holds { Lo := T_api_Rule.Dport_Lo x0, Hi := T_api_Rule.Dport_Hi x0 } (T_api_Key.Dport x1)) fun v54 => bif !v54 then some false else some true else some false else bif !T_api_Rule.Proto x0 == T_api_Key.Proto x1 then some false else Ev.bnd (F_first_holds { Lo := T_api_Rule.Sport_Lo x0, Hi := T_api_Rule.Sport_Hi x0 } (T_api_Key.Sport x1)) fun v55 => bif v55 then Ev.bnd (F_first_holds { Lo := T_api_Rule.Dport_Lo x0, Hi := T_api_Rule.Dport_Hi x0 } (T_api_Key.Dport x1)) fun v56 => bif !v56 then some false else some true else some false else Ev.bnd (F_addr_Has { Addr_Fam := T_api_Rule.Src_Addr_Fam x0, Addr_Hi := T_api_Rule.Src_Addr_Hi x0, Addr_Lo := T_api_Rule.Src_Addr_Lo x0, Bits := T_api_Rule.Src_Bits x0 } { Fam := T_api_Key.Src_Fam x1, Hi := T_api_Key.Src_Hi x1, Lo := T_api_Key.Src_Lo x1 }) fun v57 => bif !v57 then some false else Ev.bnd (F_first_anywhere { Addr_Fam := T_api_Rule.Dst_Addr_Fam x0, Addr_Hi := T_api_Rule.Dst_Addr_Hi x0, Addr_Lo := T_api_Rule.Dst_Addr_Lo x0, Bits := T_api_Rule.Dst_Bits x0 }) fun v58 => bif v58 then bif T_api_Rule.Proto x0 == 0 then Ev.bnd (F_first_holds { Lo := T_api_Rule.Sport_Lo x0, Hi := T_api_Rule.Sport_Hi x0 } (T_api_Key.Sport x1)) fun v59 => bif v59 then Ev.bnd (F_first_holds { Lo := T_api_Rule.Dport_Lo x0, Hi := T_api_Rule.Dport_Hi x0 } (T_api_Key.Dport x1)) fun v60 => bif !v60 then some false else some true else some false else bif !T_api_Rule.Proto x0 == T_api_Key.Proto x1 then some false else Ev.bnd (F_first_holds { Lo := T_api_Rule.Sport_Lo x0, Hi := T_api_Rule.Sport_Hi x0 } (T_api_Key.Sport x1)) fun v61 => bif v61 then Ev.bnd (F_first_holds { Lo := T_api_Rule.Dport_Lo x0, Hi := T_api_Rule.Dport_Hi x0 } (T_api_Key.Dport x1)) fun v62 => bif !v62 then some false else some true else some false else Ev.bnd (F_addr_Has { Addr_Fam := T_api_Rule.Dst_Addr_Fam x0, Addr_Hi := T_api_Rule.Dst_Addr_Hi x0, Addr_Lo := T_api_Rule.Dst_Addr_Lo x0, Bits := T_api_Rule.Dst_Bits x0 } { Fam := T_api_Key.Dst_Fam x1, Hi := T_api_Key.Dst_Hi x1, Lo := T_api_Key.Dst_Lo x1 }) fun v63 => bif !v63 then some false else bif T_api_Rule.Proto x0 == 0 then Ev.bnd (F_first_holds { Lo := T_api_Rule.Sport_Lo x0, Hi := T_api_Rule.Sport_Hi x0 } (T_api_Key.Sport x1)) fun v64 => bif v64 then Ev.bnd (F_first_holds { Lo := T_api_Rule.Dport_Lo x0, Hi := T_api_Rule.Dport_Hi x0 } (T_api_Key.Dport x1)) fun v65 => bif !v65 then some false else some true else some false else bif !T_api_Rule.Proto x0 == T_api_Key.Proto x1 then some false else Ev.bnd (F_first_holds { Lo := T_api_Rule.Sport_Lo x0, Hi := T_api_Rule.Sport_Hi x0 } (T_api_Key.Sport x1)) fun v66 => bif v66 then Ev.bnd (F_first_holds { Lo := T_api_Rule.Dport_Lo x0, Hi := T_api_Rule.Dport_Hi x0 } (T_api_Key.Dport x1)) fun v67 => bif !v67 then some false else some true else some false else bif !T_api_Rule.To x0 == T_api_Key.To x1 then some false else Ev.bnd (F_first_anywhere { Addr_Fam := T_api_Rule.Src_Addr_Fam x0, Addr_Hi := T_api_Rule.Src_Addr_Hi x0, Addr_Lo := T_api_Rule.Src_Addr_Lo x0, Bits := T_api_Rule.Src_Bits x0 }) fun v68 => bif v68 then Ev.bnd (F_first_anywhere { Addr_Fam := T_api_Rule.Dst_Addr_Fam x0, Addr_Hi := T_api_Rule.Dst_Addr_Hi x0, Addr_Lo := T_api_Rule.Dst_Addr_Lo x0, Bits := T_api_Rule.Dst_Bits x0 }) fun v69 => bif v69 then bif T_api_Rule.Proto x0 == 0 then Ev.bnd (F_first_holds { Lo := T_api_Rule.Sport_Lo x0, Hi := T_api_Rule.Sport_Hi x0 } (T_api_Key.Sport x1)) fun v70 => bif v70 then Ev.bnd (F_first_holds { Lo := T_api_Rule.Dport_Lo x0, Hi := T_api_Rule.Dport_Hi x0 } (T_api_Key.Dport x1)) fun v71 => bif !v71 then some false else some true else some false else bif !T_api_Rule.Proto x0 == T_api_Key.Proto x1 then some false else Ev.bnd (F_first_holds { Lo := T_api_Rule.Sport_Lo x0, Hi := T_api_Rule.Sport_Hi x0 } (T_api_Key.Sport x1)) fun v72 => bif v72 then Ev.bnd (F_first_holds { Lo := T_api_Rule.Dport_Lo x0, Hi := T_api_Rule.Dport_Hi x0 } (T_api_Key.Dport x1)) fun v73 => bif !v73 then some false else some true else some false else Ev.bnd (F_addr_Has { Addr_Fam := T_api_Rule.Dst_Addr_Fam x0, Addr_Hi := T_api_Rule.Dst_Addr_Hi x0, Addr_Lo := T_api_Rule.Dst_Addr_Lo x0, Bits := T_api_Rule.Dst_Bits x0 } { Fam := T_api_Key.Dst_Fam x1, Hi := T_api_Key.Dst_Hi x1, Lo := T_api_Key.Dst_Lo x1 }) fun v74 => bif !v74 then some false else bif T_api_Rule.Proto x0 == 0 then Ev.bnd (F_first_holds { Lo := T_api_Rule.Sport_Lo x0, Hi := T_api_Rule.Sport_Hi x0 } (T_api_Key.Sport x1)) fun v75 => bif v75 then Ev.bnd (F_first_holds { Lo := T_api_Rule.Dport_Lo x0, Hi := T_api_Rule.Dport_Hi x0 } (T_api_Key.Dport x1)) fun v76 => bif !v76 then some false else some true else some false else bif !T_api_Rule.Proto x0 == T_api_Key.Proto x1 then some false else Ev.bnd (F_first_holds { Lo := T_api_Rule.Sport_Lo x0, Hi := T_api_Rule.Sport_Hi x0 } (T_api_Key.Sport x1)) fun v77 => bif v77 then Ev.bnd (F_first_holds { Lo := T_api_Rule.Dport_Lo x0, Hi := T_api_Rule.Dport_Hi x0 } (T_api_Key.Dport x1)) fun v78 => bif !v78 then some false else some true else some false else Ev.bnd (F_addr_Has { Addr_Fam := T_api_Rule.Src_Addr_Fam x0, Addr_Hi := T_api_Rule.Src_Addr_Hi x0, Addr_Lo := T_api_Rule.Src_Addr_Lo x0, Bits := T_api_Rule.Src_Bits x0 } { Fam := T_api_Key.Src_Fam x1, Hi := T_api_Key.Src_Hi x1, Lo := T_api_Key.Src_Lo x1 }) fun v79 => bif !v79 then some false else Ev.bnd (F_first_anywhere { Addr_Fam := T_api_Rule.Dst_Addr_Fam x0, Addr_Hi := T_api_Rule.Dst_Addr_Hi x0, Addr_Lo := T_api_Rule.Dst_Addr_Lo x0, Bits := T_api_Rule.Dst_Bits x0 }) fun v80 => bif v80 then bif T_api_Rule.Proto x0 == 0 then Ev.bnd (F_first_holds { Lo := T_api_Rule.Sport_Lo x0, Hi := T_api_Rule.Sport_Hi x0 } (T_api_Key.Sport x1)) fun v81 => bif v81 then Ev.bnd (F_first_holds { Lo := T_api_Rule.Dport_Lo x0, Hi := T_api_Rule.Dport_Hi x0 } (T_api_Key.Dport x1)) fun v82 => bif !v82 then some false else some true else some false else bif !T_api_Rule.Proto x0 == T_api_Key.Proto x1 then some false else Ev.bnd (F_first_holds { Lo := T_api_Rule.Sport_Lo x0, Hi := T_api_Rule.Sport_Hi x0 } (T_api_Key.Sport x1)) fun v83 => bif v83 then Ev.bnd (F_first_holds { Lo := T_api_Rule.Dport_Lo x0, Hi := T_api_Rule.Dport_Hi x0 } (T_api_Key.Dport x1)) fun v84 => bif !v84 then some false else some true else some false else Ev.bnd (F_addr_Has { Addr_Fam := T_api_Rule.Dst_Addr_Fam x0, Addr_Hi := T_api_Rule.Dst_Addr_Hi x0, Addr_Lo := T_api_Rule.Dst_Addr_Lo x0, Bits := T_api_Rule.Dst_Bits x0 } { Fam := T_api_Key.Dst_Fam x1, Hi := T_api_Key.Dst_Hi x1, Lo := T_api_Key.Dst_Lo x1 }) fun v85 => bif !v85 then some false else bif T_api_Rule.Proto x0 == 0 then Ev.bnd (F_first_holds { Lo := T_api_Rule.Sport_Lo x0, Hi := T_api_Rule.Sport_Hi x0 } (T_api_Key.Sport x1)) fun v86 => bif v86 then Ev.bnd (F_first_holds { Lo := T_api_Rule.Dport_Lo x0, Hi := T_api_Rule.Dport_Hi x0 } (T_api_Key.Dport x1)) fun v87 => bif !v87 then some false else some true else some false else bif !T_api_Rule.Proto x0 == T_api_Key.Proto x1 then some false else Ev.bnd (F_first_holds { Lo := T_api_Rule.Sport_Lo x0, Hi := T_api_Rule.Sport_Hi x0 } (T_api_Key.Sport x1)) fun v88 => bif v88 then Ev.bnd (F_first_holds { Lo := T_api_Rule.Dport_Lo x0, Hi := T_api_Rule.Dport_Hi x0 } (T_api_Key.Dport x1)) fun v89 => bif !v89 then some false else some true else some false else some false
theorem pr_first_Takes (F_first_RightRule : T_api_Rule → Option Bool) (F_first_RightKey : T_api_Key → Option Bool) (F_first_anywhere : T_api_Prefix → Option Bool) (F_addr_Has : T_api_Prefix → T_api_Addr → Option Bool) (F_first_holds : T_api_Ports → Int → Option Bool) (m : Nat) (x0 : T_api_Rule) (x1 : T_api_Key) : Ev.evBodyD (Es_first_Takes F_first_RightRule F_first_RightKey F_first_anywhere F_addr_Has F_first_holds) MtDa (O_first_Takes F_first_RightRule F_first_RightKey F_first_anywhere F_addr_Has F_first_holds) m 26 [v_api_Rule x0, v_api_Key x1] = Ev.oE E_first_Takes (N_first_Takes F_first_RightRule F_first_RightKey F_first_anywhere F_addr_Has F_first_holds m x0 x1) := by
  rw [run_first_Takes]
  simp only [N_first_Takes, Ev.oE_some, Ev.oE_none, Ev.oE_cond, Ev.oE_bnd]
noncomputable def F_first_Takes : T_api_Rule → T_api_Key → Option Bool := fun x0 x1 => N_first_Takes F_first_RightRule F_first_RightKey F_first_anywhere F_addr_Has F_first_holds 0 x0 x1
theorem ok_first_Takes : Ev.EnvOk (Ew_first_Takes F_first_RightRule F_first_RightKey F_first_anywhere F_addr_Has F_first_holds) := Ev.envOk_with envOkd (Ev.SpsOk.add (b := false) g_first_RightRule (by kernel_rfl) (Ev.SpsOk.add (b := false) g_first_RightKey (by kernel_rfl) (Ev.SpsOk.add (b := false) g_first_anywhere (by kernel_rfl) (Ev.SpsOk.add (b := false) g_addr_Has (by kernel_rfl) (Ev.SpsOk.add (b := false) g_first_holds (by kernel_rfl) Ev.SpsOk.nil)))))
theorem ro_first_Takes (F_first_RightRule : T_api_Rule → Option Bool) (F_first_RightKey : T_api_Key → Option Bool) (F_first_anywhere : T_api_Prefix → Option Bool) (F_addr_Has : T_api_Prefix → T_api_Addr → Option Bool) (F_first_holds : T_api_Ports → Int → Option Bool) : Ev.SpecRl (Ew_first_Takes F_first_RightRule F_first_RightKey F_first_anywhere F_addr_Has F_first_holds) := Ev.specRl_with rfl (Ev.SpsRl.cons (rs_first_RightRule _) (Ev.SpsRl.cons (rs_first_RightKey _) (Ev.SpsRl.cons (rs_first_anywhere _) (Ev.SpsRl.cons (rs_addr_Has _) (Ev.SpsRl.cons (rs_first_holds _) Ev.SpsRl.nil)))))
theorem g_first_Takes : Ev.SpOk Try.prog false 26 (s_first_Takes F_first_Takes) := by
  refine Ev.SpOk.mkF fun vs k r g0 => ?_
  unfold s_first_Takes at g0
  obtain ⟨a0, r0, rfl, g1⟩ := Ev.kU_ok g0
  obtain ⟨a1, r1, rfl, g2⟩ := Ev.kU_ok g1
  obtain ⟨rfl, g3⟩ := Ev.kE_ok g2
  obtain ⟨x0, rfl, g4⟩ := d_api_Rule_ok g3
  obtain ⟨x1, rfl, g5⟩ := d_api_Key_ok g4
  obtain ⟨x, hx, h⟩ := Ev.bnd_get g5
  have h1 := pr_first_Takes F_first_RightRule F_first_RightKey F_first_anywhere F_addr_Has F_first_holds 0 x0 x1
  rw [show N_first_Takes F_first_RightRule F_first_RightKey F_first_anywhere F_addr_Has F_first_holds 0 x0 x1 = some x from hx] at h1
  exact ⟨_, h, Ev.good_of_inl ok_first_Takes (ro_first_Takes F_first_RightRule F_first_RightKey F_first_anywhere F_addr_Has F_first_holds) rfl rfl Ev.TabOk.nil 40 12 _ h1⟩
-- first.Find$1
-- DEEP first_Find_1 77 - T_api_Rule → T_api_Key → Option Bool
noncomputable def e_first_Find_1 (x : Bool) : Value := .bool x
noncomputable def E_first_Find_1 (x : Bool) : Value × Ev.AH := (e_first_Find_1 x, ⟨[], 0, []⟩)
noncomputable def s_first_Find_1 (F : T_api_Rule → T_api_Key → Option Bool) : Ev.Sp := fun vs k => Ev.kU vs fun a0 r0 => Ev.kU r0 fun a1 r1 => Ev.kE r1 <| d_api_Rule a0 fun x0 => Ev.kP a1 fun c0 => d_api_Key (.agg ⟨c0⟩) fun y0 => Ev.bnd (F x0 y0) fun x => k (e_first_Find_1 x)
theorem rs_first_Find_1 (F : T_api_Rule → T_api_Key → Option Bool) : Ev.SpRl (s_first_Find_1 F) := by
  intro S vs k k2 hk
  unfold s_first_Find_1
  refine Ev.rl_kU fun _ _ => ?_
  refine Ev.rl_kU fun _ _ => ?_
  refine Ev.rl_kE ?_
  refine rl_d_api_Rule fun _ => ?_
  refine Ev.rl_kP fun _ => ?_
  refine rl_d_api_Key fun _ => ?_
  exact Ev.Rl.bnd fun x => hk _
noncomputable def Ew_first_Find_1 (F_first_Takes : T_api_Rule → T_api_Key → Option Bool) : Ev.Env := Ev.Env.with Ed [(26, s_first_Takes F_first_Takes)]
noncomputable def Es_first_Find_1 (F_first_Takes : T_api_Rule → T_api_Key → Option Bool) : Ev.Env := Ev.Env.inl (Ew_first_Find_1 F_first_Takes) MtDa [] 40 12
noncomputable def O_first_Find_1 (F_first_Takes : T_api_Rule → T_api_Key → Option Bool) : Ev.Orc := fun _ _ _ => none
theorem run_first_Find_1 (F_first_Takes : T_api_Rule → T_api_Key → Option Bool) (m : Nat) (x0 : T_api_Rule) (y0 : T_api_Key) : Ev.evBodyD (Es_first_Find_1 F_first_Takes) MtDa (O_first_Find_1 F_first_Takes) m 77 [v_api_Rule x0, Ev.dP 0 (c_api_Key y0)] = Ev.bnd (F_first_Takes { From := T_api_Rule.From x0, To := T_api_Rule.To x0, Src_Addr_Fam := T_api_Rule.Src_Addr_Fam x0, Src_Addr_Hi := T_api_Rule.Src_Addr_Hi x0, Src_Addr_Lo := T_api_Rule.Src_Addr_Lo x0, Src_Bits := T_api_Rule.Src_Bits x0, Dst_Addr_Fam := T_api_Rule.Dst_Addr_Fam x0, Dst_Addr_Hi := T_api_Rule.Dst_Addr_Hi x0, Dst_Addr_Lo := T_api_Rule.Dst_Addr_Lo x0, Dst_Bits := T_api_Rule.Dst_Bits x0, Proto := T_api_Rule.Proto x0, Sport_Lo := T_api_Rule.Sport_Lo x0, Sport_Hi := T_api_Rule.Sport_Hi x0, Dport_Lo := T_api_Rule.Dport_Lo x0, Dport_Hi := T_api_Rule.Dport_Hi x0, Action := T_api_Rule.Action x0, Help := T_api_Rule.Help x0 } { From := T_api_Key.From y0, To := T_api_Key.To y0, Src_Fam := T_api_Key.Src_Fam y0, Src_Hi := T_api_Key.Src_Hi y0, Src_Lo := T_api_Key.Src_Lo y0, Dst_Fam := T_api_Key.Dst_Fam y0, Dst_Hi := T_api_Key.Dst_Hi y0, Dst_Lo := T_api_Key.Dst_Lo y0, Proto := T_api_Key.Proto y0, Sport := T_api_Key.Sport y0, Dport := T_api_Key.Dport y0 }) fun v0 => Ev.ret2 (E_first_Find_1 v0) := by kernel_rfl
noncomputable def N_first_Find_1 (F_first_Takes : T_api_Rule → T_api_Key → Option Bool) (m : Nat) (x0 : T_api_Rule) (y0 : T_api_Key) : Option Bool := Ev.bnd (F_first_Takes { From := T_api_Rule.From x0, To := T_api_Rule.To x0, Src_Addr_Fam := T_api_Rule.Src_Addr_Fam x0, Src_Addr_Hi := T_api_Rule.Src_Addr_Hi x0, Src_Addr_Lo := T_api_Rule.Src_Addr_Lo x0, Src_Bits := T_api_Rule.Src_Bits x0, Dst_Addr_Fam := T_api_Rule.Dst_Addr_Fam x0, Dst_Addr_Hi := T_api_Rule.Dst_Addr_Hi x0, Dst_Addr_Lo := T_api_Rule.Dst_Addr_Lo x0, Dst_Bits := T_api_Rule.Dst_Bits x0, Proto := T_api_Rule.Proto x0, Sport_Lo := T_api_Rule.Sport_Lo x0, Sport_Hi := T_api_Rule.Sport_Hi x0, Dport_Lo := T_api_Rule.Dport_Lo x0, Dport_Hi := T_api_Rule.Dport_Hi x0, Action := T_api_Rule.Action x0, Help := T_api_Rule.Help x0 } { From := T_api_Key.From y0, To := T_api_Key.To y0, Src_Fam := T_api_Key.Src_Fam y0, Src_Hi := T_api_Key.Src_Hi y0, Src_Lo := T_api_Key.Src_Lo y0, Dst_Fam := T_api_Key.Dst_Fam y0, Dst_Hi := T_api_Key.Dst_Hi y0, Dst_Lo := T_api_Key.Dst_Lo y0, Proto := T_api_Key.Proto y0, Sport := T_api_Key.Sport y0, Dport := T_api_Key.Dport y0 }) fun v0 => some v0
theorem pr_first_Find_1 (F_first_Takes : T_api_Rule → T_api_Key → Option Bool) (m : Nat) (x0 : T_api_Rule) (y0 : T_api_Key) : Ev.evBodyD (Es_first_Find_1 F_first_Takes) MtDa (O_first_Find_1 F_first_Takes) m 77 [v_api_Rule x0, Ev.dP 0 (c_api_Key y0)] = Ev.oE E_first_Find_1 (N_first_Find_1 F_first_Takes m x0 y0) := by
  rw [run_first_Find_1]
  simp only [N_first_Find_1, Ev.oE_some, Ev.oE_none, Ev.oE_cond, Ev.oE_bnd]
noncomputable def F_first_Find_1 : T_api_Rule → T_api_Key → Option Bool := fun x0 y0 => N_first_Find_1 F_first_Takes 0 x0 y0
theorem ok_first_Find_1 : Ev.EnvOk (Ew_first_Find_1 F_first_Takes) := Ev.envOk_with envOkd (Ev.SpsOk.add (b := false) g_first_Takes (by kernel_rfl) Ev.SpsOk.nil)
theorem ro_first_Find_1 (F_first_Takes : T_api_Rule → T_api_Key → Option Bool) : Ev.SpecRl (Ew_first_Find_1 F_first_Takes) := Ev.specRl_with rfl (Ev.SpsRl.cons (rs_first_Takes _) Ev.SpsRl.nil)
theorem g_first_Find_1 : Ev.SpOk Try.prog false 77 (s_first_Find_1 F_first_Find_1) := by
  refine Ev.SpOk.mkF fun vs k r g0 => ?_
  unfold s_first_Find_1 at g0
  obtain ⟨a0, r0, rfl, g1⟩ := Ev.kU_ok g0
  obtain ⟨a1, r1, rfl, g2⟩ := Ev.kU_ok g1
  obtain ⟨rfl, g3⟩ := Ev.kE_ok g2
  obtain ⟨x0, rfl, g4⟩ := d_api_Rule_ok g3
  obtain ⟨c0, rfl, g5⟩ := Ev.kP_ok g4
  obtain ⟨y0, hc_5, g6⟩ := d_api_Key_ok g5
  obtain rfl : c0 = c_api_Key y0 := by injection hc_5 with hc2_5; injection hc2_5
  obtain ⟨x, hx, h⟩ := Ev.bnd_get g6
  have h1 := pr_first_Find_1 F_first_Takes 0 x0 y0
  rw [show N_first_Find_1 F_first_Takes 0 x0 y0 = some x from hx] at h1
  exact ⟨_, h, Ev.good_of_inl ok_first_Find_1 (ro_first_Find_1 F_first_Takes) rfl rfl Ev.TabOk.nil 40 12 _ h1⟩
-- slices.IndexFunc[[]stockade/api.Rule,stockade/api.Rule]@first.Find$1
-- DEEP slices_IndexFunc_api_Rule_api_Rule__first_Find_1 76 77 (List Value) → T_api_Key → Option Int
noncomputable def e_slices_IndexFunc_api_Rule_api_Rule__first_Find_1 (x : Int) : Value := .int .i64 x
noncomputable def E_slices_IndexFunc_api_Rule_api_Rule__first_Find_1 (x : Int) : Value × Ev.AH := (e_slices_IndexFunc_api_Rule_api_Rule__first_Find_1 x, ⟨[], 0, []⟩)
noncomputable def s_slices_IndexFunc_api_Rule_api_Rule__first_Find_1 (F : (List Value) → T_api_Key → Option Int) : Ev.Sp := fun vs k => Ev.kU vs fun a0 r0 => Ev.kU r0 fun a1 r1 => Ev.kE r1 <| Ev.kL 17 a0 fun x0 => Ev.kF 77 a1 fun l1 => Ev.kU l1 fun z1_0 s1_0 => Ev.kE s1_0 <| Ev.kP z1_0 fun c0 => d_api_Key (.agg ⟨c0⟩) fun y1_0 => Ev.bnd (F x0 y1_0) fun x => k (e_slices_IndexFunc_api_Rule_api_Rule__first_Find_1 x)
theorem rs_slices_IndexFunc_api_Rule_api_Rule__first_Find_1 (F : (List Value) → T_api_Key → Option Int) : Ev.SpRl (s_slices_IndexFunc_api_Rule_api_Rule__first_Find_1 F) := by
  intro S vs k k2 hk
  unfold s_slices_IndexFunc_api_Rule_api_Rule__first_Find_1
  refine Ev.rl_kU fun _ _ => ?_
  refine Ev.rl_kU fun _ _ => ?_
  refine Ev.rl_kE ?_
  refine Ev.rl_kL fun _ => ?_
  refine Ev.rl_kF fun _ => ?_
  refine Ev.rl_kU fun _ _ => ?_
  refine Ev.rl_kE ?_
  refine Ev.rl_kP fun _ => ?_
  refine rl_d_api_Key fun _ => ?_
  exact Ev.Rl.bnd fun x => hk _
noncomputable def Ew_slices_IndexFunc_api_Rule_api_Rule__first_Find_1 (F_first_Find_1 : T_api_Rule → T_api_Key → Option Bool) : Ev.Env := Ev.Env.with Ed [(77, s_first_Find_1 F_first_Find_1)]
noncomputable def Es_slices_IndexFunc_api_Rule_api_Rule__first_Find_1 (F_first_Find_1 : T_api_Rule → T_api_Key → Option Bool) : Ev.Env := Ev.Env.inl (Ew_slices_IndexFunc_api_Rule_api_Rule__first_Find_1 F_first_Find_1) MtDa [] 40 12
noncomputable def O_slices_IndexFunc_api_Rule_api_Rule__first_Find_1 (F_first_Find_1 : T_api_Rule → T_api_Key → Option Bool) : Ev.Orc := fun _ _ _ => none
noncomputable def L_slices_IndexFunc_api_Rule_api_Rule__first_Find_1_2 (F_first_Find_1 : T_api_Rule → T_api_Key → Option Bool) (m : Nat)  (n_2 : Nat) (w0 : List Value) (w1 : Int) (w2 : Int) (w3 : Int) (w4 : Int) (w5 : Int) (w6 : Int) (w7 : Int) (w8 : Int) (w9 : Int) (w10 : Int) (w11 : Int) (w12 : Int) (w13 : Int) : Ev.Res := Ev.loopAtD (Es_slices_IndexFunc_api_Rule_api_Rule__first_Find_1 F_first_Find_1) MtDa (O_slices_IndexFunc_api_Rule_api_Rule__first_Find_1 F_first_Find_1) m 76 [1, 0, 1, 0] [] n_2 [some (Value.iface 17 (Value.agg { toList := Value.chan (some 0) :: w0 })), some (Value.func (Fn.func 77) { toList := [] } { toList := [Value.iface 0 (Value.agg { toList := [Value.chan (some 1), Value.int IntKind.i64 w1, Value.int IntKind.i64 w2, Value.int IntKind.i64 w3, Value.int IntKind.u64 w4, Value.int IntKind.u64 w5, Value.int IntKind.i64 w6, Value.int IntKind.u64 w7, Value.int IntKind.u64 w8, Value.int IntKind.i64 w9, Value.int IntKind.i64 w10, Value.int IntKind.i64 w11] })] }), none, none, none, none, none, some (Value.int IntKind.i64 w12), some (Value.int IntKind.i64 w13), none, none, none, none, none, none, none, none, none, none] ⟨[], 0, []⟩
theorem lz_slices_IndexFunc_api_Rule_api_Rule__first_Find_1_2 (F_first_Find_1 : T_api_Rule → T_api_Key → Option Bool) (m : Nat)  (w0 : List Value) (w1 : Int) (w2 : Int) (w3 : Int) (w4 : Int) (w5 : Int) (w6 : Int) (w7 : Int) (w8 : Int) (w9 : Int) (w10 : Int) (w11 : Int) (w12 : Int) (w13 : Int) : L_slices_IndexFunc_api_Rule_api_Rule__first_Find_1_2 F_first_Find_1 m 0 w0 w1 w2 w3 w4 w5 w6 w7 w8 w9 w10 w11 w12 w13 = none := by kernel_rfl
theorem loop_slices_IndexFunc_api_Rule_api_Rule__first_Find_1_2 (F_first_Find_1 : T_api_Rule → T_api_Key → Option Bool) (m : Nat)  (n_2 : Nat) (w0 : List Value) (w1 : Int) (w2 : Int) (w3 : Int) (w4 : Int) (w5 : Int) (w6 : Int) (w7 : Int) (w8 : Int) (w9 : Int) (w10 : Int) (w11 : Int) (w12 : Int) (w13 : Int) : L_slices_IndexFunc_api_Rule_api_Rule__first_Find_1_2 F_first_Find_1 m (n_2 + 1) w0 w1 w2 w3 w4 w5 w6 w7 w8 w9 w10 w11 w12 w13 = bif Ev.ltI w13 w12 then bif true && (decide (0 ≤ w13) && decide (w13 < ↑(Ev.dlen 17 w0))) then bif true && Ev.okD [(Ev.Kd.int IntKind.i64, 0), (Ev.Kd.int IntKind.i64, 0), (Ev.Kd.int IntKind.i64, 0), (Ev.Kd.int IntKind.u64, 0), (Ev.Kd.int IntKind.u64, 0), (Ev.Kd.int IntKind.i64, 0), (Ev.Kd.int IntKind.i64, 0), (Ev.Kd.int IntKind.u64, 0), (Ev.Kd.int IntKind.u64, 0), (Ev.Kd.int IntKind.i64, 0), (Ev.Kd.int IntKind.i64, 0), (Ev.Kd.int IntKind.i64, 0), (Ev.Kd.int IntKind.i64, 0), (Ev.Kd.int IntKind.i64, 0), (Ev.Kd.int IntKind.i64, 0), (Ev.Kd.int IntKind.i64, 0), (Ev.Kd.int IntKind.i64, 0)] w0 (Int.toNat w13 * 17) then Ev.bnd (F_first_Find_1 { From := Ev.uI (Ev.nthC w0 (Int.toNat w13 * 17)), To := Ev.uI (Ev.nthC w0 (Int.toNat w13 * 17 + 1)), Src_Addr_Fam := Ev.uI (Ev.nthC w0 (Int.toNat w13 * 17 + 1 + 1)), Src_Addr_Hi := Ev.uI (Ev.nthC w0 (Int.toNat w13 * 17 + 1 + 1 + 1)), Src_Addr_Lo := Ev.uI (Ev.nthC w0 (Int.toNat w13 * 17 + 1 + 1 + 1 + 1)), Src_Bits := Ev.uI (Ev.nthC w0 (Int.toNat w13 * 17 + 1 + 1 + 1 + 1 + 1)), Dst_Addr_Fam := Ev.uI (Ev.nthC w0 (Int.toNat w13 * 17 + 1 + 1 + 1 + 1 + 1 + 1)), Dst_Addr_Hi := Ev.uI (Ev.nthC w0 (Int.toNat w13 * 17 + 1 + 1 + 1 + 1 + 1 + 1 + 1)), Dst_Addr_Lo := Ev.uI (Ev.nthC w0 (Int.toNat w13 * 17 + 1 + 1 + 1 + 1 + 1 + 1 + 1 + 1)), Dst_Bits := Ev.uI (Ev.nthC w0 (Int.toNat w13 * 17 + 1 + 1 + 1 + 1 + 1 + 1 + 1 + 1 + 1)), Proto := Ev.uI (Ev.nthC w0 (Int.toNat w13 * 17 + 1 + 1 + 1 + 1 + 1 + 1 + 1 + 1 + 1 + 1)), Sport_Lo := Ev.uI (Ev.nthC w0 (Int.toNat w13 * 17 + 1 + 1 + 1 + 1 + 1 + 1 + 1 + 1 + 1 + 1 + 1)), Sport_Hi := Ev.uI (Ev.nthC w0 (Int.toNat w13 * 17 + 1 + 1 + 1 + 1 + 1 + 1 + 1 + 1 + 1 + 1 + 1 + 1)), Dport_Lo := Ev.uI (Ev.nthC w0 (Int.toNat w13 * 17 + 1 + 1 + 1 + 1 + 1 + 1 + 1 + 1 + 1 + 1 + 1 + 1 + 1)), Dport_Hi := Ev.uI (Ev.nthC w0 (Int.toNat w13 * 17 + 1 + 1 + 1 + 1 + 1 + 1 + 1 + 1 + 1 + 1 + 1 + 1 + 1 + 1)), Action := Ev.uI (Ev.nthC w0 (Int.toNat w13 * 17 + 1 + 1 + 1 + 1 + 1 + 1 + 1 + 1 + 1 + 1 + 1 + 1 + 1 + 1 + 1)), Help := Ev.uI (Ev.nthC w0 (Int.toNat w13 * 17 + 1 + 1 + 1 + 1 + 1 + 1 + 1 + 1 + 1 + 1 + 1 + 1 + 1 + 1 + 1 + 1)) } { From := w1, To := w2, Src_Fam := w3, Src_Hi := w4, Src_Lo := w5, Dst_Fam := w6, Dst_Hi := w7, Dst_Lo := w8, Proto := w9, Sport := w10, Dport := w11 }) fun v15 => bif v15 then Ev.ret2 (E_slices_IndexFunc_api_Rule_api_Rule__first_Find_1 w13) else L_slices_IndexFunc_api_Rule_api_Rule__first_Find_1_2 F_first_Find_1 m n_2 w0 w1 w2 w3 w4 w5 w6 w7 w8 w9 w10 w11 w12 (IntKind.wrap IntKind.i64 (w13 + 1)) else none else none else Ev.ret2 (E_slices_IndexFunc_api_Rule_api_Rule__first_Find_1 (-1)) := by kernel_rfl
noncomputable def N_slices_IndexFunc_api_Rule_api_Rule__first_Find_1_2 (F_first_Find_1 : T_api_Rule → T_api_Key → Option Bool) (m : Nat)  : Nat → (List Value) → Int → Int → Int → Int → Int → Int → Int → Int → Int → Int → Int → Int → Int → Option Int
  | 0, _, _, _, _, _, _, _, _, _, _, _, _, _, _ => none
  | n_2 + 1, w0, w1, w2, w3, w4, w5, w6, w7, w8, w9, w10, w11, w12, w13 => bif Ev.ltI w13 w12 then bif true && (decide (0 ≤ w13) && decide (w13 < ↑(Ev.dlen 17 w0))) then bif true && Ev.okD [(Ev.Kd.int IntKind.i64, 0), (Ev.Kd.int IntKind.i64, 0), (Ev.Kd.int IntKind.i64, 0), (Ev.Kd.int IntKind.u64, 0), (Ev.Kd.int IntKind.u64, 0), (Ev.Kd.int IntKind.i64, 0), (Ev.Kd.int IntKind.i64, 0), (Ev.Kd.int IntKind.u64, 0), (Ev.Kd.int IntKind.u64, 0), (Ev.Kd.int IntKind.i64, 0), (Ev.Kd.int IntKind.i64, 0), (Ev.Kd.int IntKind.i64, 0), (Ev.Kd.int IntKind.i64, 0), (Ev.Kd.int IntKind.i64, 0), (Ev.Kd.int IntKind.i64, 0), (Ev.Kd.int IntKind.i64, 0), (Ev.Kd.int IntKind.i64, 0)] w0 (Int.toNat w13 * 17) then Ev.bnd (F_first_Find_1 { From := Ev.uI (Ev.nthC w0 (Int.toNat w13 * 17)), To := Ev.uI (Ev.nthC w0 (Int.toNat w13 * 17 + 1)), Src_Addr_Fam := Ev.uI (Ev.nthC w0 (Int.toNat w13 * 17 + 1 + 1)), Src_Addr_Hi := Ev.uI (Ev.nthC w0 (Int.toNat w13 * 17 + 1 + 1 + 1)), Src_Addr_Lo := Ev.uI (Ev.nthC w0 (Int.toNat w13 * 17 + 1 + 1 + 1 + 1)), Src_Bits := Ev.uI (Ev.nthC w0 (Int.toNat w13 * 17 + 1 + 1 + 1 + 1 + 1)), Dst_Addr_Fam := Ev.uI (Ev.nthC w0 (Int.toNat w13 * 17 + 1 + 1 + 1 + 1 + 1 + 1)), Dst_Addr_Hi := Ev.uI (Ev.nthC w0 (Int.toNat w13 * 17 + 1 + 1 + 1 + 1 + 1 + 1 + 1)), Dst_Addr_Lo := Ev.uI (Ev.nthC w0 (Int.toNat w13 * 17 + 1 + 1 + 1 + 1 + 1 + 1 + 1 + 1)), Dst_Bits := Ev.uI (Ev.nthC w0 (Int.toNat w13 * 17 + 1 + 1 + 1 + 1 + 1 + 1 + 1 + 1 + 1)), Proto := Ev.uI (Ev.nthC w0 (Int.toNat w13 * 17 + 1 + 1 + 1 + 1 + 1 + 1 + 1 + 1 + 1 + 1)), Sport_Lo := Ev.uI (Ev.nthC w0 (Int.toNat w13 * 17 + 1 + 1 + 1 + 1 + 1 + 1 + 1 + 1 + 1 + 1 + 1)), Sport_Hi := Ev.uI (Ev.nthC w0 (Int.toNat w13 * 17 + 1 + 1 + 1 + 1 + 1 + 1 + 1 + 1 + 1 + 1 + 1 + 1)), Dport_Lo := Ev.uI (Ev.nthC w0 (Int.toNat w13 * 17 + 1 + 1 + 1 + 1 + 1 + 1 + 1 + 1 + 1 + 1 + 1 + 1 + 1)), Dport_Hi := Ev.uI (Ev.nthC w0 (Int.toNat w13 * 17 + 1 + 1 + 1 + 1 + 1 + 1 + 1 + 1 + 1 + 1 + 1 + 1 + 1 + 1)), Action := Ev.uI (Ev.nthC w0 (Int.toNat w13 * 17 + 1 + 1 + 1 + 1 + 1 + 1 + 1 + 1 + 1 + 1 + 1 + 1 + 1 + 1 + 1)), Help := Ev.uI (Ev.nthC w0 (Int.toNat w13 * 17 + 1 + 1 + 1 + 1 + 1 + 1 + 1 + 1 + 1 + 1 + 1 + 1 + 1 + 1 + 1 + 1)) } { From := w1, To := w2, Src_Fam := w3, Src_Hi := w4, Src_Lo := w5, Dst_Fam := w6, Dst_Hi := w7, Dst_Lo := w8, Proto := w9, Sport := w10, Dport := w11 }) fun v15 => bif v15 then some w13 else N_slices_IndexFunc_api_Rule_api_Rule__first_Find_1_2 F_first_Find_1 m n_2 w0 w1 w2 w3 w4 w5 w6 w7 w8 w9 w10 w11 w12 (IntKind.wrap IntKind.i64 (w13 + 1)) else none else none else some (-1)
theorem pl_slices_IndexFunc_api_Rule_api_Rule__first_Find_1_2 (F_first_Find_1 : T_api_Rule → T_api_Key → Option Bool) (m : Nat)    : ∀ (n_2 : Nat) (w0 : List Value) (w1 : Int) (w2 : Int) (w3 : Int) (w4 : Int) (w5 : Int) (w6 : Int) (w7 : Int) (w8 : Int) (w9 : Int) (w10 : Int) (w11 : Int) (w12 : Int) (w13 : Int), L_slices_IndexFunc_api_Rule_api_Rule__first_Find_1_2 F_first_Find_1 m n_2 w0 w1 w2 w3 w4 w5 w6 w7 w8 w9 w10 w11 w12 w13 = Ev.oE E_slices_IndexFunc_api_Rule_api_Rule__first_Find_1 (N_slices_IndexFunc_api_Rule_api_Rule__first_Find_1_2 F_first_Find_1 m n_2 w0 w1 w2 w3 w4 w5 w6 w7 w8 w9 w10 w11 w12 w13) := by
  intro n_2
  induction n_2 with
  | zero => intro w0 w1 w2 w3 w4 w5 w6 w7 w8 w9 w10 w11 w12 w13; rw [lz_slices_IndexFunc_api_Rule_api_Rule__first_Find_1_2]; rfl
  | succ n_2 ih =>
    intro w0 w1 w2 w3 w4 w5 w6 w7 w8 w9 w10 w11 w12 w13
    rw [loop_slices_IndexFunc_api_Rule_api_Rule__first_Find_1_2]
    simp only [N_slices_IndexFunc_api_Rule_api_Rule__first_Find_1_2, Ev.oE_some, Ev.oE_none, Ev.oE_cond, Ev.oE_bnd, ih]
theorem run_slices_IndexFunc_api_Rule_api_Rule__first_Find_1 (F_first_Find_1 : T_api_Rule → T_api_Key → Option Bool) (m : Nat) (x0 : List Value) (y1_0 : T_api_Key) : Ev.evBodyD (Es_slices_IndexFunc_api_Rule_api_Rule__first_Find_1 F_first_Find_1) MtDa (O_slices_IndexFunc_api_Rule_api_Rule__first_Find_1 F_first_Find_1) m 76 [Ev.dS 17 x0, .func (.func 77) ⟨[]⟩ ⟨[Ev.dP 0 (c_api_Key y1_0)]⟩] = L_slices_IndexFunc_api_Rule_api_Rule__first_Find_1_2 F_first_Find_1 m m x0 (T_api_Key.From y1_0) (T_api_Key.To y1_0) (T_api_Key.Src_Fam y1_0) (T_api_Key.Src_Hi y1_0) (T_api_Key.Src_Lo y1_0) (T_api_Key.Dst_Fam y1_0) (T_api_Key.Dst_Hi y1_0) (T_api_Key.Dst_Lo y1_0) (T_api_Key.Proto y1_0) (T_api_Key.Sport y1_0) (T_api_Key.Dport y1_0) (↑(Ev.dlen 17 x0)) 0 := by kernel_rfl
noncomputable def N_slices_IndexFunc_api_Rule_api_Rule__first_Find_1 (F_first_Find_1 : T_api_Rule → T_api_Key → Option Bool) (m : Nat) (x0 : List Value) (y1_0 : T_api_Key) : Option Int := N_slices_IndexFunc_api_Rule_api_Rule__first_Find_1_2 F_first_Find_1 m m x0 (T_api_Key.From y1_0) (T_api_Key.To y1_0) (T_api_Key.Src_Fam y1_0) (T_api_Key.Src_Hi y1_0) (T_api_Key.Src_Lo y1_0) (T_api_Key.Dst_Fam y1_0) (T_api_Key.Dst_Hi y1_0) (T_api_Key.Dst_Lo y1_0) (T_api_Key.Proto y1_0) (T_api_Key.Sport y1_0) (T_api_Key.Dport y1_0) (↑(Ev.dlen 17 x0)) 0
theorem pr_slices_IndexFunc_api_Rule_api_Rule__first_Find_1 (F_first_Find_1 : T_api_Rule → T_api_Key → Option Bool) (m : Nat) (x0 : List Value) (y1_0 : T_api_Key) : Ev.evBodyD (Es_slices_IndexFunc_api_Rule_api_Rule__first_Find_1 F_first_Find_1) MtDa (O_slices_IndexFunc_api_Rule_api_Rule__first_Find_1 F_first_Find_1) m 76 [Ev.dS 17 x0, .func (.func 77) ⟨[]⟩ ⟨[Ev.dP 0 (c_api_Key y1_0)]⟩] = Ev.oE E_slices_IndexFunc_api_Rule_api_Rule__first_Find_1 (N_slices_IndexFunc_api_Rule_api_Rule__first_Find_1 F_first_Find_1 m x0 y1_0) := by
  rw [run_slices_IndexFunc_api_Rule_api_Rule__first_Find_1]
  simp only [N_slices_IndexFunc_api_Rule_api_Rule__first_Find_1, Ev.oE_some, Ev.oE_none, Ev.oE_cond, Ev.oE_bnd, pl_slices_IndexFunc_api_Rule_api_Rule__first_Find_1_2 F_first_Find_1 m]
noncomputable def F_slices_IndexFunc_api_Rule_api_Rule__first_Find_1 : (List Value) → T_api_Key → Option Int := fun x0 y1_0 => Ev.lim fun m => N_slices_IndexFunc_api_Rule_api_Rule__first_Find_1 F_first_Find_1 m x0 y1_0
theorem ok_slices_IndexFunc_api_Rule_api_Rule__first_Find_1 : Ev.EnvOk (Ew_slices_IndexFunc_api_Rule_api_Rule__first_Find_1 F_first_Find_1) := Ev.envOk_with envOkd (Ev.SpsOk.add (b := false) g_first_Find_1 (by kernel_rfl) Ev.SpsOk.nil)
theorem ro_slices_IndexFunc_api_Rule_api_Rule__first_Find_1 (F_first_Find_1 : T_api_Rule → T_api_Key → Option Bool) : Ev.SpecRl (Ew_slices_IndexFunc_api_Rule_api_Rule__first_Find_1 F_first_Find_1) := Ev.specRl_with rfl (Ev.SpsRl.cons (rs_first_Find_1 _) Ev.SpsRl.nil)
theorem g_slices_IndexFunc_api_Rule_api_Rule__first_Find_1 : Ev.SpOk Try.prog false 76 (s_slices_IndexFunc_api_Rule_api_Rule__first_Find_1 F_slices_IndexFunc_api_Rule_api_Rule__first_Find_1) := by
  refine Ev.SpOk.mkF fun vs k r g0 => ?_
  unfold s_slices_IndexFunc_api_Rule_api_Rule__first_Find_1 at g0
  obtain ⟨a0, r0, rfl, g1⟩ := Ev.kU_ok g0
  obtain ⟨a1, r1, rfl, g2⟩ := Ev.kU_ok g1
  obtain ⟨rfl, g3⟩ := Ev.kE_ok g2
  obtain ⟨x0, rfl, g4⟩ := Ev.kL_ok g3
  obtain ⟨l1, rfl, g5⟩ := Ev.kF_ok g4
  obtain ⟨z1_0, s1_0, rfl, g6⟩ := Ev.kU_ok g5
  obtain ⟨rfl, g7⟩ := Ev.kE_ok g6
  obtain ⟨c0, rfl, g8⟩ := Ev.kP_ok g7
  obtain ⟨y1_0, hc_8, g9⟩ := d_api_Key_ok g8
  obtain rfl : c0 = c_api_Key y1_0 := by injection hc_8 with hc2_8; injection hc2_8
  obtain ⟨x, hx, h⟩ := Ev.bnd_get g9
  obtain ⟨m, hm⟩ := Ev.lim_some hx
  have h1 := pr_slices_IndexFunc_api_Rule_api_Rule__first_Find_1 F_first_Find_1 m x0 y1_0
  rw [hm] at h1
  exact ⟨_, h, Ev.good_of_inl ok_slices_IndexFunc_api_Rule_api_Rule__first_Find_1 (ro_slices_IndexFunc_api_Rule_api_Rule__first_Find_1 F_first_Find_1) rfl rfl Ev.TabOk.nil 40 12 _ h1⟩
-- first.Find
-- DEEP first_Find 29 - (List Value) → T_api_Key → Option (Int × Bool)
noncomputable def e_first_Find (x : Int × Bool) : Value := .tuple ⟨[.int .i64 (x.1), .bool (x.2)]⟩
noncomputable def E_first_Find (x : Int × Bool) : Value × Ev.AH := (e_first_Find x, ⟨[], 0, []⟩)
noncomputable def s_first_Find (F : (List Value) → T_api_Key → Option (Int × Bool)) : Ev.Sp := fun vs k => Ev.kU vs fun a0 r0 => Ev.kU r0 fun a1 r1 => Ev.kE r1 <| Ev.kL 17 a0 fun x0 => d_api_Key a1 fun x1 => Ev.bnd (F x0 x1) fun x => k (e_first_Find x)
theorem rs_first_Find (F : (List Value) → T_api_Key → Option (Int × Bool)) : Ev.SpRl (s_first_Find F) := by
  intro S vs k k2 hk
  unfold s_first_Find
  refine Ev.rl_kU fun _ _ => ?_
  refine Ev.rl_kU fun _ _ => ?_
  refine Ev.rl_kE ?_
  refine Ev.rl_kL fun _ => ?_
  refine rl_d_api_Key fun _ => ?_
  exact Ev.Rl.bnd fun x => hk _
noncomputable def Ew_first_Find (F_first_Find_1 : T_api_Rule → T_api_Key → Option Bool) (F_slices_IndexFunc_api_Rule_api_Rule__first_Find_1 : (List Value) → T_api_Key → Option Int) : Ev.Env := Ev.Env.with Ed [(77, s_first_Find_1 F_first_Find_1), (76, Ev.pickS 1 [(77, s_slices_IndexFunc_api_Rule_api_Rule__first_Find_1 F_slices_IndexFunc_api_Rule_api_Rule__first_Find_1)])]
noncomputable def Es_first_Find (F_first_Find_1 : T_api_Rule → T_api_Key → Option Bool) (F_slices_IndexFunc_api_Rule_api_Rule__first_Find_1 : (List Value) → T_api_Key → Option Int) : Ev.Env := Ev.Env.inl (Ew_first_Find F_first_Find_1 F_slices_IndexFunc_api_Rule_api_Rule__first_Find_1) MtDa [] 40 12
noncomputable def O_first_Find (F_first_Find_1 : T_api_Rule → T_api_Key → Option Bool) (F_slices_IndexFunc_api_Rule_api_Rule__first_Find_1 : (List Value) → T_api_Key → Option Int) : Ev.Orc := fun _ _ _ => none
theorem run_first_Find (F_first_Find_1 : T_api_Rule → T_api_Key → Option Bool) (F_slices_IndexFunc_api_Rule_api_Rule__first_Find_1 : (List Value) → T_api_Key → Option Int) (m : Nat) (x0 : List Value) (x1 : T_api_Key) : Ev.evBodyD (Es_first_Find F_first_Find_1 F_slices_IndexFunc_api_Rule_api_Rule__first_Find_1) MtDa (O_first_Find F_first_Find_1 F_slices_IndexFunc_api_Rule_api_Rule__first_Find_1) m 29 [Ev.dS 17 x0, v_api_Key x1] = Ev.bnd (F_slices_IndexFunc_api_Rule_api_Rule__first_Find_1 x0 { From := T_api_Key.From x1, To := T_api_Key.To x1, Src_Fam := T_api_Key.Src_Fam x1, Src_Hi := T_api_Key.Src_Hi x1, Src_Lo := T_api_Key.Src_Lo x1, Dst_Fam := T_api_Key.Dst_Fam x1, Dst_Hi := T_api_Key.Dst_Hi x1, Dst_Lo := T_api_Key.Dst_Lo x1, Proto := T_api_Key.Proto x1, Sport := T_api_Key.Sport x1, Dport := T_api_Key.Dport x1 }) fun v0 => Ev.ret2 (E_first_Find (v0, Ev.leI 0 v0)) := by kernel_rfl
noncomputable def N_first_Find (F_first_Find_1 : T_api_Rule → T_api_Key → Option Bool) (F_slices_IndexFunc_api_Rule_api_Rule__first_Find_1 : (List Value) → T_api_Key → Option Int) (m : Nat) (x0 : List Value) (x1 : T_api_Key) : Option (Int × Bool) := Ev.bnd (F_slices_IndexFunc_api_Rule_api_Rule__first_Find_1 x0 { From := T_api_Key.From x1, To := T_api_Key.To x1, Src_Fam := T_api_Key.Src_Fam x1, Src_Hi := T_api_Key.Src_Hi x1, Src_Lo := T_api_Key.Src_Lo x1, Dst_Fam := T_api_Key.Dst_Fam x1, Dst_Hi := T_api_Key.Dst_Hi x1, Dst_Lo := T_api_Key.Dst_Lo x1, Proto := T_api_Key.Proto x1, Sport := T_api_Key.Sport x1, Dport := T_api_Key.Dport x1 }) fun v0 => some (v0, Ev.leI 0 v0)
theorem pr_first_Find (F_first_Find_1 : T_api_Rule → T_api_Key → Option Bool) (F_slices_IndexFunc_api_Rule_api_Rule__first_Find_1 : (List Value) → T_api_Key → Option Int) (m : Nat) (x0 : List Value) (x1 : T_api_Key) : Ev.evBodyD (Es_first_Find F_first_Find_1 F_slices_IndexFunc_api_Rule_api_Rule__first_Find_1) MtDa (O_first_Find F_first_Find_1 F_slices_IndexFunc_api_Rule_api_Rule__first_Find_1) m 29 [Ev.dS 17 x0, v_api_Key x1] = Ev.oE E_first_Find (N_first_Find F_first_Find_1 F_slices_IndexFunc_api_Rule_api_Rule__first_Find_1 m x0 x1) := by
  rw [run_first_Find]
  simp only [N_first_Find, Ev.oE_some, Ev.oE_none, Ev.oE_cond, Ev.oE_bnd]
noncomputable def F_first_Find : (List Value) → T_api_Key → Option (Int × Bool) := fun x0 x1 => N_first_Find F_first_Find_1 F_slices_IndexFunc_api_Rule_api_Rule__first_Find_1 0 x0 x1
theorem ok_first_Find : Ev.EnvOk (Ew_first_Find F_first_Find_1 F_slices_IndexFunc_api_Rule_api_Rule__first_Find_1) := Ev.envOk_with envOkd (Ev.SpsOk.add (b := false) g_first_Find_1 (by kernel_rfl) (Ev.SpsOk.add (b := false) (Ev.SpOk.pick (fun x hx => by
    rcases List.mem_cons.1 hx with rfl | hx
    · exact g_slices_IndexFunc_api_Rule_api_Rule__first_Find_1
    cases hx)) (by kernel_rfl) Ev.SpsOk.nil))
theorem ro_first_Find (F_first_Find_1 : T_api_Rule → T_api_Key → Option Bool) (F_slices_IndexFunc_api_Rule_api_Rule__first_Find_1 : (List Value) → T_api_Key → Option Int) : Ev.SpecRl (Ew_first_Find F_first_Find_1 F_slices_IndexFunc_api_Rule_api_Rule__first_Find_1) := Ev.specRl_with rfl (Ev.SpsRl.cons (rs_first_Find_1 _) (Ev.SpsRl.cons (Ev.SpRl.pick (Ev.SpsRl.cons (rs_slices_IndexFunc_api_Rule_api_Rule__first_Find_1 _) Ev.SpsRl.nil)) Ev.SpsRl.nil))
theorem g_first_Find : Ev.SpOk Try.prog false 29 (s_first_Find F_first_Find) := by
  refine Ev.SpOk.mkF fun vs k r g0 => ?_
  unfold s_first_Find at g0
  obtain ⟨a0, r0, rfl, g1⟩ := Ev.kU_ok g0
  obtain ⟨a1, r1, rfl, g2⟩ := Ev.kU_ok g1
  obtain ⟨rfl, g3⟩ := Ev.kE_ok g2
  obtain ⟨x0, rfl, g4⟩ := Ev.kL_ok g3
  obtain ⟨x1, rfl, g5⟩ := d_api_Key_ok g4
  obtain ⟨x, hx, h⟩ := Ev.bnd_get g5
  have h1 := pr_first_Find F_first_Find_1 F_slices_IndexFunc_api_Rule_api_Rule__first_Find_1 0 x0 x1
  rw [show N_first_Find F_first_Find_1 F_slices_IndexFunc_api_Rule_api_Rule__first_Find_1 0 x0 x1 = some x from hx] at h1
  exact ⟨_, h, Ev.good_of_inl ok_first_Find (ro_first_Find F_first_Find_1 F_slices_IndexFunc_api_Rule_api_Rule__first_Find_1) rfl rfl Ev.TabOk.nil 40 12 _ h1⟩
end Go.Proofs.Ytnkmdjngnmenbaa
