/-
  Functions of the seat's program, printed by a program of ours: what each comes to, and that it is so. No conditions.
-/
import Derived.Test.YteljeekapcenlaaIg
namespace Go.Proofs.Yteljeekapcenlaa
open Go
set_option linter.unusedVariables false
set_option linter.unusedSimpArgs false
@[ext] structure D_api_Seg where
  Tuple_Fam : Int
  Tuple_Proto : Int
  Tuple_Src_Fam : Int
  Tuple_Src_Hi : Int
  Tuple_Src_Lo : Int
  Tuple_Dst_Fam : Int
  Tuple_Dst_Hi : Int
  Tuple_Dst_Lo : Int
  Tuple_Sport : Int
  Tuple_Dport : Int
  Flags : Int
  Seq : Int
  Ack : Int
  Win : Int
  Type_ : Int
  Code : Int
  Err : Bool
  Inner_Fam : Int
  Inner_Proto : Int
  Inner_Src_Fam : Int
  Inner_Src_Hi : Int
  Inner_Src_Lo : Int
  Inner_Dst_Fam : Int
  Inner_Dst_Hi : Int
  Inner_Dst_Lo : Int
  Inner_Sport : Int
  Inner_Dport : Int
  Data : List Value
noncomputable def c_api_Seg (x : D_api_Seg) : List Value := [.int .i64 x.Tuple_Fam, .int .i64 x.Tuple_Proto, .int .i64 x.Tuple_Src_Fam, .int .u64 x.Tuple_Src_Hi, .int .u64 x.Tuple_Src_Lo, .int .i64 x.Tuple_Dst_Fam, .int .u64 x.Tuple_Dst_Hi, .int .u64 x.Tuple_Dst_Lo, .int .i64 x.Tuple_Sport, .int .i64 x.Tuple_Dport, .int .i64 x.Flags, .int .u32 x.Seq, .int .u32 x.Ack, .int .i64 x.Win, .int .i64 x.Type_, .int .i64 x.Code, .bool x.Err, .int .i64 x.Inner_Fam, .int .i64 x.Inner_Proto, .int .i64 x.Inner_Src_Fam, .int .u64 x.Inner_Src_Hi, .int .u64 x.Inner_Src_Lo, .int .i64 x.Inner_Dst_Fam, .int .u64 x.Inner_Dst_Hi, .int .u64 x.Inner_Dst_Lo, .int .i64 x.Inner_Sport, .int .i64 x.Inner_Dport, Ev.dS 1 x.Data]
noncomputable def v_api_Seg (x : D_api_Seg) : Value := .agg ⟨[.int .i64 x.Tuple_Fam, .int .i64 x.Tuple_Proto, .int .i64 x.Tuple_Src_Fam, .int .u64 x.Tuple_Src_Hi, .int .u64 x.Tuple_Src_Lo, .int .i64 x.Tuple_Dst_Fam, .int .u64 x.Tuple_Dst_Hi, .int .u64 x.Tuple_Dst_Lo, .int .i64 x.Tuple_Sport, .int .i64 x.Tuple_Dport, .int .i64 x.Flags, .int .u32 x.Seq, .int .u32 x.Ack, .int .i64 x.Win, .int .i64 x.Type_, .int .i64 x.Code, .bool x.Err, .int .i64 x.Inner_Fam, .int .i64 x.Inner_Proto, .int .i64 x.Inner_Src_Fam, .int .u64 x.Inner_Src_Hi, .int .u64 x.Inner_Src_Lo, .int .i64 x.Inner_Dst_Fam, .int .u64 x.Inner_Dst_Hi, .int .u64 x.Inner_Dst_Lo, .int .i64 x.Inner_Sport, .int .i64 x.Inner_Dport, Ev.dS 1 x.Data]⟩
noncomputable def u_api_Seg (v : Value) : D_api_Seg := match v with | .agg ⟨[a0, a1, a2, a3, a4, a5, a6, a7, a8, a9, a10, a11, a12, a13, a14, a15, a16, a17, a18, a19, a20, a21, a22, a23, a24, a25, a26, a27]⟩ => ⟨Ev.uI a0, Ev.uI a1, Ev.uI a2, Ev.uI a3, Ev.uI a4, Ev.uI a5, Ev.uI a6, Ev.uI a7, Ev.uI a8, Ev.uI a9, Ev.uI a10, Ev.uI a11, Ev.uI a12, Ev.uI a13, Ev.uI a14, Ev.uI a15, Ev.uB a16, Ev.uI a17, Ev.uI a18, Ev.uI a19, Ev.uI a20, Ev.uI a21, Ev.uI a22, Ev.uI a23, Ev.uI a24, Ev.uI a25, Ev.uI a26, Ev.uL a27⟩ | _ => ⟨0, 0, 0, 0, 0, 0, 0, 0, 0, 0, 0, 0, 0, 0, 0, 0, false, 0, 0, 0, 0, 0, 0, 0, 0, 0, 0, []⟩
noncomputable def d_api_Seg (v : Value) (c : D_api_Seg → Ev.Res) : Ev.Res := match v with | .agg ⟨[a0, a1, a2, a3, a4, a5, a6, a7, a8, a9, a10, a11, a12, a13, a14, a15, a16, a17, a18, a19, a20, a21, a22, a23, a24, a25, a26, a27]⟩ => Ev.gI .i64 a0 fun b0 => Ev.gI .i64 a1 fun b1 => Ev.gI .i64 a2 fun b2 => Ev.gI .u64 a3 fun b3 => Ev.gI .u64 a4 fun b4 => Ev.gI .i64 a5 fun b5 => Ev.gI .u64 a6 fun b6 => Ev.gI .u64 a7 fun b7 => Ev.gI .i64 a8 fun b8 => Ev.gI .i64 a9 fun b9 => Ev.gI .i64 a10 fun b10 => Ev.gI .u32 a11 fun b11 => Ev.gI .u32 a12 fun b12 => Ev.gI .i64 a13 fun b13 => Ev.gI .i64 a14 fun b14 => Ev.gI .i64 a15 fun b15 => Ev.gB a16 fun b16 => Ev.gI .i64 a17 fun b17 => Ev.gI .i64 a18 fun b18 => Ev.gI .i64 a19 fun b19 => Ev.gI .u64 a20 fun b20 => Ev.gI .u64 a21 fun b21 => Ev.gI .i64 a22 fun b22 => Ev.gI .u64 a23 fun b23 => Ev.gI .u64 a24 fun b24 => Ev.gI .i64 a25 fun b25 => Ev.gI .i64 a26 fun b26 => Ev.kL 1 a27 fun b27 => c ⟨b0, b1, b2, b3, b4, b5, b6, b7, b8, b9, b10, b11, b12, b13, b14, b15, b16, b17, b18, b19, b20, b21, b22, b23, b24, b25, b26, b27⟩ | _ => none
theorem d_api_Seg_ok {v : Value} {c : D_api_Seg → Ev.Res} {r : Value × Ev.AH} (h : d_api_Seg v c = some r) : ∃ x, v = v_api_Seg x ∧ c x = some r := by
  unfold d_api_Seg at h
  split at h
  · obtain ⟨b0, rfl, h0⟩ := Ev.gI_ok h
    obtain ⟨b1, rfl, h1⟩ := Ev.gI_ok h0
    obtain ⟨b2, rfl, h2⟩ := Ev.gI_ok h1
    obtain ⟨b3, rfl, h3⟩ := Ev.gI_ok h2
    obtain ⟨b4, rfl, h4⟩ := Ev.gI_ok h3
    obtain ⟨b5, rfl, h5⟩ := Ev.gI_ok h4
    obtain ⟨b6, rfl, h6⟩ := Ev.gI_ok h5
    obtain ⟨b7, rfl, h7⟩ := Ev.gI_ok h6
    obtain ⟨b8, rfl, h8⟩ := Ev.gI_ok h7
    obtain ⟨b9, rfl, h9⟩ := Ev.gI_ok h8
    obtain ⟨b10, rfl, h10⟩ := Ev.gI_ok h9
    obtain ⟨b11, rfl, h11⟩ := Ev.gI_ok h10
    obtain ⟨b12, rfl, h12⟩ := Ev.gI_ok h11
    obtain ⟨b13, rfl, h13⟩ := Ev.gI_ok h12
    obtain ⟨b14, rfl, h14⟩ := Ev.gI_ok h13
    obtain ⟨b15, rfl, h15⟩ := Ev.gI_ok h14
    obtain ⟨b16, rfl, h16⟩ := Ev.gB_ok h15
    obtain ⟨b17, rfl, h17⟩ := Ev.gI_ok h16
    obtain ⟨b18, rfl, h18⟩ := Ev.gI_ok h17
    obtain ⟨b19, rfl, h19⟩ := Ev.gI_ok h18
    obtain ⟨b20, rfl, h20⟩ := Ev.gI_ok h19
    obtain ⟨b21, rfl, h21⟩ := Ev.gI_ok h20
    obtain ⟨b22, rfl, h22⟩ := Ev.gI_ok h21
    obtain ⟨b23, rfl, h23⟩ := Ev.gI_ok h22
    obtain ⟨b24, rfl, h24⟩ := Ev.gI_ok h23
    obtain ⟨b25, rfl, h25⟩ := Ev.gI_ok h24
    obtain ⟨b26, rfl, h26⟩ := Ev.gI_ok h25
    obtain ⟨b27, rfl, h27⟩ := Ev.kL_ok h26
    exact ⟨⟨b0, b1, b2, b3, b4, b5, b6, b7, b8, b9, b10, b11, b12, b13, b14, b15, b16, b17, b18, b19, b20, b21, b22, b23, b24, b25, b26, b27⟩, rfl, h27⟩
  · cases h
theorem rl_d_api_Seg {S : (Value × Ev.AH) → Ev.Res → Prop} {v : Value} {c c2 : D_api_Seg → Ev.Res} (h : ∀ a, Ev.Rl S (c a) (c2 a)) : Ev.Rl S (d_api_Seg v c) (d_api_Seg v c2) := by
  unfold d_api_Seg
  split
  · refine Ev.rl_gI fun _ => ?_
    refine Ev.rl_gI fun _ => ?_
    refine Ev.rl_gI fun _ => ?_
    refine Ev.rl_gI fun _ => ?_
    refine Ev.rl_gI fun _ => ?_
    refine Ev.rl_gI fun _ => ?_
    refine Ev.rl_gI fun _ => ?_
    refine Ev.rl_gI fun _ => ?_
    refine Ev.rl_gI fun _ => ?_
    refine Ev.rl_gI fun _ => ?_
    refine Ev.rl_gI fun _ => ?_
    refine Ev.rl_gI fun _ => ?_
    refine Ev.rl_gI fun _ => ?_
    refine Ev.rl_gI fun _ => ?_
    refine Ev.rl_gI fun _ => ?_
    refine Ev.rl_gI fun _ => ?_
    refine Ev.rl_gB fun _ => ?_
    refine Ev.rl_gI fun _ => ?_
    refine Ev.rl_gI fun _ => ?_
    refine Ev.rl_gI fun _ => ?_
    refine Ev.rl_gI fun _ => ?_
    refine Ev.rl_gI fun _ => ?_
    refine Ev.rl_gI fun _ => ?_
    refine Ev.rl_gI fun _ => ?_
    refine Ev.rl_gI fun _ => ?_
    refine Ev.rl_gI fun _ => ?_
    refine Ev.rl_gI fun _ => ?_
    refine Ev.rl_kL fun _ => ?_
    exact h _
  · exact Ev.Rl.none
noncomputable def MtIh : Ev.Mats := { slots := fun f i => [], cells := fun f i => [], own := fun f => Nat.beq f 175 }
-- stockaderef14.Local
-- DEEP r14_Local 146 - T_api_Addr → Option Bool
noncomputable def e_r14_Local (x : Bool) : Value := .bool x
noncomputable def E_r14_Local (x : Bool) : Value × Ev.AH := (e_r14_Local x, ⟨[], 0, []⟩)
noncomputable def s_r14_Local (F : T_api_Addr → Option Bool) : Ev.Sp := fun vs k => Ev.kU vs fun a0 r0 => Ev.kE r0 <| d_api_Addr a0 fun x0 => Ev.bnd (F x0) fun x => k (e_r14_Local x)
theorem rs_r14_Local (F : T_api_Addr → Option Bool) : Ev.SpRl (s_r14_Local F) := by
  intro S vs k k2 hk
  unfold s_r14_Local
  refine Ev.rl_kU fun _ _ => ?_
  refine Ev.rl_kE ?_
  refine rl_d_api_Addr fun _ => ?_
  exact Ev.Rl.bnd fun x => hk _
noncomputable def Ew_r14_Local (F_r02_Right : T_api_Addr → Option Bool) (F_r02_Bytes : T_api_Addr → Option (List Value)) : Ev.Env := Ev.Env.with Ed [(145, s_r02_Right F_r02_Right), (175, s_r02_Bytes F_r02_Bytes)]
noncomputable def Es_r14_Local (F_r02_Right : T_api_Addr → Option Bool) (F_r02_Bytes : T_api_Addr → Option (List Value)) : Ev.Env := Ev.Env.inl (Ew_r14_Local F_r02_Right F_r02_Bytes) MtIh [] 40 12
noncomputable def O_r14_Local (F_r02_Right : T_api_Addr → Option Bool) (F_r02_Bytes : T_api_Addr → Option (List Value)) : Ev.Orc := fun _ _ _ => none
noncomputable def N_r14_Local (F_r02_Right : T_api_Addr → Option Bool) (F_r02_Bytes : T_api_Addr → Option (List Value)) (m : Nat) (x0 : T_api_Addr) : Option Bool := Ev.bnd (F_r02_Right x0) fun v0 => bif !v0 then some false else bif x0.Fam == 6 then bif x0.Hi == 0 then some (Ev.leI x0.Lo 1) else some false else Ev.bnd (F_r02_Bytes x0) fun v1 => bif true && (true && decide (0 < (↑(Ev.dlen 1 v1) : Int))) then bif true && Ev.okD [(Ev.Kd.int IntKind.u8, 0)] v1 0 then bif IntKind.wrap IntKind.i64 (Ev.uI (Ev.nthC v1 0)) == 127 then some true else Ev.bnd (F_r02_Bytes x0) fun v2 => bif true && (true && decide (0 < (↑(Ev.dlen 1 v2) : Int))) then bif true && Ev.okD [(Ev.Kd.int IntKind.u8, 0)] v2 0 then some (IntKind.wrap IntKind.i64 (Ev.uI (Ev.nthC v2 0)) == 0) else none else none else none else none
theorem pr_r14_Local (F_r02_Right : T_api_Addr → Option Bool) (F_r02_Bytes : T_api_Addr → Option (List Value)) (m : Nat) (x0 : T_api_Addr) : Ev.evBodyD (Es_r14_Local F_r02_Right F_r02_Bytes) MtIh (O_r14_Local F_r02_Right F_r02_Bytes) m 146 [v_api_Addr x0] = Ev.oE E_r14_Local (N_r14_Local F_r02_Right F_r02_Bytes m x0) := by
  simp only [N_r14_Local, Ev.oE_some, Ev.oE_none, Ev.oE_cond, Ev.oE_bnd]
  kernel_rfl
noncomputable def F_r14_Local : T_api_Addr → Option Bool := fun x0 => N_r14_Local F_r02_Right F_r02_Bytes 0 x0
theorem ok_r14_Local : Ev.EnvOk (Ew_r14_Local F_r02_Right F_r02_Bytes) := Ev.envOk_with envOkd (Ev.SpsOk.add (b := false) g_r02_Right (by kernel_rfl) (Ev.SpsOk.add (b := true) g_r02_Bytes (by kernel_rfl) Ev.SpsOk.nil))
theorem ro_r14_Local (F_r02_Right : T_api_Addr → Option Bool) (F_r02_Bytes : T_api_Addr → Option (List Value)) : Ev.SpecRl (Ew_r14_Local F_r02_Right F_r02_Bytes) := Ev.specRl_with rfl (Ev.SpsRl.cons (rs_r02_Right _) (Ev.SpsRl.cons (rs_r02_Bytes _) Ev.SpsRl.nil))
theorem g_r14_Local : Ev.SpOk Try.prog false 146 (s_r14_Local F_r14_Local) := by
  refine Ev.SpOk.mkF fun vs k r g0 => ?_
  unfold s_r14_Local at g0
  obtain ⟨a0, r0, rfl, g1⟩ := Ev.kU_ok g0
  obtain ⟨rfl, g2⟩ := Ev.kE_ok g1
  obtain ⟨x0, rfl, g3⟩ := d_api_Addr_ok g2
  obtain ⟨x, hx, h⟩ := Ev.bnd_get g3
  have h1 := pr_r14_Local F_r02_Right F_r02_Bytes 0 x0
  rw [show N_r14_Local F_r02_Right F_r02_Bytes 0 x0 = some x from hx] at h1
  exact ⟨_, h, Ev.good_of_inl ok_r14_Local (ro_r14_Local F_r02_Right F_r02_Bytes) rfl rfl Ev.TabOk.nil 40 12 _ h1⟩
-- stockaderef14.Multicast
-- DEEP r14_Multicast 147 - T_api_Addr → Option Bool
noncomputable def e_r14_Multicast (x : Bool) : Value := .bool x
noncomputable def E_r14_Multicast (x : Bool) : Value × Ev.AH := (e_r14_Multicast x, ⟨[], 0, []⟩)
noncomputable def s_r14_Multicast (F : T_api_Addr → Option Bool) : Ev.Sp := fun vs k => Ev.kU vs fun a0 r0 => Ev.kE r0 <| d_api_Addr a0 fun x0 => Ev.bnd (F x0) fun x => k (e_r14_Multicast x)
theorem rs_r14_Multicast (F : T_api_Addr → Option Bool) : Ev.SpRl (s_r14_Multicast F) := by
  intro S vs k k2 hk
  unfold s_r14_Multicast
  refine Ev.rl_kU fun _ _ => ?_
  refine Ev.rl_kE ?_
  refine rl_d_api_Addr fun _ => ?_
  exact Ev.Rl.bnd fun x => hk _
noncomputable def Ew_r14_Multicast (F_r02_Right : T_api_Addr → Option Bool) (F_r02_Bytes : T_api_Addr → Option (List Value)) : Ev.Env := Ev.Env.with Ed [(145, s_r02_Right F_r02_Right), (175, s_r02_Bytes F_r02_Bytes)]
noncomputable def Es_r14_Multicast (F_r02_Right : T_api_Addr → Option Bool) (F_r02_Bytes : T_api_Addr → Option (List Value)) : Ev.Env := Ev.Env.inl (Ew_r14_Multicast F_r02_Right F_r02_Bytes) MtIh [] 40 12
noncomputable def O_r14_Multicast (F_r02_Right : T_api_Addr → Option Bool) (F_r02_Bytes : T_api_Addr → Option (List Value)) : Ev.Orc := fun _ _ _ => none
noncomputable def N_r14_Multicast (F_r02_Right : T_api_Addr → Option Bool) (F_r02_Bytes : T_api_Addr → Option (List Value)) (m : Nat) (x0 : T_api_Addr) : Option Bool := Ev.bnd (F_r02_Right x0) fun v0 => bif !v0 then some false else bif x0.Fam == 6 then Ev.bnd (F_r02_Bytes x0) fun v1 => bif true && (true && decide (0 < (↑(Ev.dlen 1 v1) : Int))) then bif true && Ev.okD [(Ev.Kd.int IntKind.u8, 0)] v1 0 then some (IntKind.wrap IntKind.i64 (Ev.uI (Ev.nthC v1 0)) == 255) else none else none else Ev.bnd (F_r02_Bytes x0) fun v2 => bif true && (true && decide (0 < (↑(Ev.dlen 1 v2) : Int))) then bif true && Ev.okD [(Ev.Kd.int IntKind.u8, 0)] v2 0 then bif Ev.leI 224 (IntKind.wrap IntKind.i64 (Ev.uI (Ev.nthC v2 0))) then Ev.bnd (F_r02_Bytes x0) fun v3 => bif true && (true && decide (0 < (↑(Ev.dlen 1 v3) : Int))) then bif true && Ev.okD [(Ev.Kd.int IntKind.u8, 0)] v3 0 then bif Ev.ltI (IntKind.wrap IntKind.i64 (Ev.uI (Ev.nthC v3 0))) 240 then some true else some (x0.Lo == 4294967295) else none else none else some (x0.Lo == 4294967295) else none else none
theorem pr_r14_Multicast (F_r02_Right : T_api_Addr → Option Bool) (F_r02_Bytes : T_api_Addr → Option (List Value)) (m : Nat) (x0 : T_api_Addr) : Ev.evBodyD (Es_r14_Multicast F_r02_Right F_r02_Bytes) MtIh (O_r14_Multicast F_r02_Right F_r02_Bytes) m 147 [v_api_Addr x0] = Ev.oE E_r14_Multicast (N_r14_Multicast F_r02_Right F_r02_Bytes m x0) := by
  simp only [N_r14_Multicast, Ev.oE_some, Ev.oE_none, Ev.oE_cond, Ev.oE_bnd]
  kernel_rfl
noncomputable def F_r14_Multicast : T_api_Addr → Option Bool := fun x0 => N_r14_Multicast F_r02_Right F_r02_Bytes 0 x0
theorem ok_r14_Multicast : Ev.EnvOk (Ew_r14_Multicast F_r02_Right F_r02_Bytes) := Ev.envOk_with envOkd (Ev.SpsOk.add (b := false) g_r02_Right (by kernel_rfl) (Ev.SpsOk.add (b := true) g_r02_Bytes (by kernel_rfl) Ev.SpsOk.nil))
theorem ro_r14_Multicast (F_r02_Right : T_api_Addr → Option Bool) (F_r02_Bytes : T_api_Addr → Option (List Value)) : Ev.SpecRl (Ew_r14_Multicast F_r02_Right F_r02_Bytes) := Ev.specRl_with rfl (Ev.SpsRl.cons (rs_r02_Right _) (Ev.SpsRl.cons (rs_r02_Bytes _) Ev.SpsRl.nil))
theorem g_r14_Multicast : Ev.SpOk Try.prog false 147 (s_r14_Multicast F_r14_Multicast) := by
  refine Ev.SpOk.mkF fun vs k r g0 => ?_
  unfold s_r14_Multicast at g0
  obtain ⟨a0, r0, rfl, g1⟩ := Ev.kU_ok g0
  obtain ⟨rfl, g2⟩ := Ev.kE_ok g1
  obtain ⟨x0, rfl, g3⟩ := d_api_Addr_ok g2
  obtain ⟨x, hx, h⟩ := Ev.bnd_get g3
  have h1 := pr_r14_Multicast F_r02_Right F_r02_Bytes 0 x0
  rw [show N_r14_Multicast F_r02_Right F_r02_Bytes 0 x0 = some x from hx] at h1
  exact ⟨_, h, Ev.good_of_inl ok_r14_Multicast (ro_r14_Multicast F_r02_Right F_r02_Bytes) rfl rfl Ev.TabOk.nil 40 12 _ h1⟩
-- stockaderef21.Ends
-- DEEP r21_Ends 81 - T_api_Addr → T_api_Addr → Option Int
noncomputable def e_r21_Ends (x : Int) : Value := .int .i64 x
noncomputable def E_r21_Ends (x : Int) : Value × Ev.AH := (e_r21_Ends x, ⟨[], 0, []⟩)
noncomputable def s_r21_Ends (F : T_api_Addr → T_api_Addr → Option Int) : Ev.Sp := fun vs k => Ev.kU vs fun a0 r0 => Ev.kU r0 fun a1 r1 => Ev.kE r1 <| d_api_Addr a0 fun x0 => d_api_Addr a1 fun x1 => Ev.bnd (F x0 x1) fun x => k (e_r21_Ends x)
theorem rs_r21_Ends (F : T_api_Addr → T_api_Addr → Option Int) : Ev.SpRl (s_r21_Ends F) := by
  intro S vs k k2 hk
  unfold s_r21_Ends
  refine Ev.rl_kU fun _ _ => ?_
  refine Ev.rl_kU fun _ _ => ?_
  refine Ev.rl_kE ?_
  refine rl_d_api_Addr fun _ => ?_
  refine rl_d_api_Addr fun _ => ?_
  exact Ev.Rl.bnd fun x => hk _
noncomputable def Ew_r21_Ends (F_r02_Right : T_api_Addr → Option Bool) (F_r14_Local : T_api_Addr → Option Bool) (F_r14_Multicast : T_api_Addr → Option Bool) (F_r21_Near : T_api_Addr → Option Bool) : Ev.Env := Ev.Env.with Ed [(145, s_r02_Right F_r02_Right), (146, s_r14_Local F_r14_Local), (147, s_r14_Multicast F_r14_Multicast), (84, s_r21_Near F_r21_Near)]
noncomputable def Es_r21_Ends (F_r02_Right : T_api_Addr → Option Bool) (F_r14_Local : T_api_Addr → Option Bool) (F_r14_Multicast : T_api_Addr → Option Bool) (F_r21_Near : T_api_Addr → Option Bool) : Ev.Env := Ev.Env.inl (Ew_r21_Ends F_r02_Right F_r14_Local F_r14_Multicast F_r21_Near) MtIh [] 40 12
noncomputable def O_r21_Ends (F_r02_Right : T_api_Addr → Option Bool) (F_r14_Local : T_api_Addr → Option Bool) (F_r14_Multicast : T_api_Addr → Option Bool) (F_r21_Near : T_api_Addr → Option Bool) : Ev.Orc := fun _ _ _ => none
noncomputable def L_r21_Ends_5 (F_r02_Right : T_api_Addr → Option Bool) (F_r14_Local : T_api_Addr → Option Bool) (F_r14_Multicast : T_api_Addr → Option Bool) (F_r21_Near : T_api_Addr → Option Bool) (m : Nat)  (n_5 : Nat) (w2 : Nat) (w3 : Int) (w4 : List Value) : Ev.Res := Ev.loopAtD (Es_r21_Ends F_r02_Right F_r14_Local F_r14_Multicast F_r21_Near) MtIh (O_r21_Ends F_r02_Right F_r14_Local F_r14_Multicast F_r21_Near) m 81 [1, 1, 1, 0, 1, 0] [] n_5 [none, none, none, none, none, some (Value.iface 3 (Value.agg (Array.mk [Value.chan (some 2), Value.chan (some 0), Value.chan (some w2)]))), some (Value.int IntKind.i64 w3), none, none, none, none, none, none, none, none, none, none, none, none, none, none, none, none, none, none, none, none, none, none, none, none, none, none, none, none, none, none, none, none, none, none, none, none, none, none, none, none, none] ⟨[Ev.Blk.bld w4], 0, []⟩
theorem lz_r21_Ends_5 (F_r02_Right : T_api_Addr → Option Bool) (F_r14_Local : T_api_Addr → Option Bool) (F_r14_Multicast : T_api_Addr → Option Bool) (F_r21_Near : T_api_Addr → Option Bool) (m : Nat)  (w2 : Nat) (w3 : Int) (w4 : List Value) : L_r21_Ends_5 F_r02_Right F_r14_Local F_r14_Multicast F_r21_Near m 0 w2 w3 w4 = none := by kernel_rfl
noncomputable def N_r21_Ends_5 (F_r02_Right : T_api_Addr → Option Bool) (F_r14_Local : T_api_Addr → Option Bool) (F_r14_Multicast : T_api_Addr → Option Bool) (F_r21_Near : T_api_Addr → Option Bool) (m : Nat)  : Nat → Nat → Int → (List Value) → Option Int
  | 0, _, _, _ => none
  | n_5 + 1, w2, w3, w4 => bif Ev.ltI w3 2 then bif true && (decide (0 ≤ w3) && decide (w3 < (↑w2 : Int))) then bif true && Ev.okD [(Ev.Kd.int IntKind.i64, 0), (Ev.Kd.int IntKind.u64, 0), (Ev.Kd.int IntKind.u64, 0)] w4 (Int.toNat w3 * 3) then Ev.bnd (F_r14_Local (T_api_Addr.mk (Ev.uI (Ev.nthC w4 (Int.toNat w3 * 3))) (Ev.uI (Ev.nthC w4 (Int.toNat w3 * 3 + 1))) (Ev.uI (Ev.nthC w4 (Int.toNat w3 * 3 + 1 + 1))))) fun v6 => bif v6 then some 24 else bif true && (decide (0 ≤ w3) && decide (w3 < (↑w2 : Int))) then bif true && Ev.okD [(Ev.Kd.int IntKind.i64, 0), (Ev.Kd.int IntKind.u64, 0), (Ev.Kd.int IntKind.u64, 0)] w4 (Int.toNat w3 * 3) then Ev.bnd (F_r14_Multicast (T_api_Addr.mk (Ev.uI (Ev.nthC w4 (Int.toNat w3 * 3))) (Ev.uI (Ev.nthC w4 (Int.toNat w3 * 3 + 1))) (Ev.uI (Ev.nthC w4 (Int.toNat w3 * 3 + 1 + 1))))) fun v7 => bif v7 then some 24 else bif true && (decide (0 ≤ w3) && decide (w3 < (↑w2 : Int))) then bif true && Ev.okD [(Ev.Kd.int IntKind.i64, 0), (Ev.Kd.int IntKind.u64, 0), (Ev.Kd.int IntKind.u64, 0)] w4 (Int.toNat w3 * 3) then Ev.bnd (F_r21_Near (T_api_Addr.mk (Ev.uI (Ev.nthC w4 (Int.toNat w3 * 3))) (Ev.uI (Ev.nthC w4 (Int.toNat w3 * 3 + 1))) (Ev.uI (Ev.nthC w4 (Int.toNat w3 * 3 + 1 + 1))))) fun v8 => bif v8 then some 24 else N_r21_Ends_5 F_r02_Right F_r14_Local F_r14_Multicast F_r21_Near m n_5 w2 (IntKind.wrap IntKind.i64 (w3 + 1)) w4 else none else none else none else none else none else none else some 0
theorem pl_r21_Ends_5 (F_r02_Right : T_api_Addr → Option Bool) (F_r14_Local : T_api_Addr → Option Bool) (F_r14_Multicast : T_api_Addr → Option Bool) (F_r21_Near : T_api_Addr → Option Bool) (m : Nat)    : ∀ (n_5 : Nat) (w2 : Nat) (w3 : Int) (w4 : List Value), L_r21_Ends_5 F_r02_Right F_r14_Local F_r14_Multicast F_r21_Near m n_5 w2 w3 w4 = Ev.oE E_r21_Ends (N_r21_Ends_5 F_r02_Right F_r14_Local F_r14_Multicast F_r21_Near m n_5 w2 w3 w4) := by
  intro n_5
  induction n_5 with
  | zero => intro w2 w3 w4; rw [lz_r21_Ends_5]; rfl
  | succ n_5 ih =>
    intro w2 w3 w4
    simp only [N_r21_Ends_5, Ev.oE_some, Ev.oE_none, Ev.oE_cond, Ev.oE_bnd, ← ih]
    kernel_rfl
noncomputable def N_r21_Ends (F_r02_Right : T_api_Addr → Option Bool) (F_r14_Local : T_api_Addr → Option Bool) (F_r14_Multicast : T_api_Addr → Option Bool) (F_r21_Near : T_api_Addr → Option Bool) (m : Nat) (x0 : T_api_Addr) (x1 : T_api_Addr) : Option Int := Ev.bnd (F_r02_Right x0) fun v0 => bif !v0 then some 1 else Ev.bnd (F_r02_Right x1) fun v1 => bif !v1 then some 1 else bif x0.Fam != x1.Fam then some 1 else N_r21_Ends_5 F_r02_Right F_r14_Local F_r14_Multicast F_r21_Near m m 2 0 [Value.int IntKind.i64 x0.Fam, Value.int IntKind.u64 x0.Hi, Value.int IntKind.u64 x0.Lo, Value.int IntKind.i64 x1.Fam, Value.int IntKind.u64 x1.Hi, Value.int IntKind.u64 x1.Lo]
theorem pr_r21_Ends (F_r02_Right : T_api_Addr → Option Bool) (F_r14_Local : T_api_Addr → Option Bool) (F_r14_Multicast : T_api_Addr → Option Bool) (F_r21_Near : T_api_Addr → Option Bool) (m : Nat) (x0 : T_api_Addr) (x1 : T_api_Addr) : Ev.evBodyD (Es_r21_Ends F_r02_Right F_r14_Local F_r14_Multicast F_r21_Near) MtIh (O_r21_Ends F_r02_Right F_r14_Local F_r14_Multicast F_r21_Near) m 81 [v_api_Addr x0, v_api_Addr x1] = Ev.oE E_r21_Ends (N_r21_Ends F_r02_Right F_r14_Local F_r14_Multicast F_r21_Near m x0 x1) := by
  simp only [N_r21_Ends, Ev.oE_some, Ev.oE_none, Ev.oE_cond, Ev.oE_bnd, ← pl_r21_Ends_5 F_r02_Right F_r14_Local F_r14_Multicast F_r21_Near m]
  kernel_rfl
noncomputable def F_r21_Ends : T_api_Addr → T_api_Addr → Option Int := fun x0 x1 => Ev.lim fun m => N_r21_Ends F_r02_Right F_r14_Local F_r14_Multicast F_r21_Near m x0 x1
theorem ok_r21_Ends : Ev.EnvOk (Ew_r21_Ends F_r02_Right F_r14_Local F_r14_Multicast F_r21_Near) := Ev.envOk_with envOkd (Ev.SpsOk.add (b := false) g_r02_Right (by kernel_rfl) (Ev.SpsOk.add (b := false) g_r14_Local (by kernel_rfl) (Ev.SpsOk.add (b := false) g_r14_Multicast (by kernel_rfl) (Ev.SpsOk.add (b := false) g_r21_Near (by kernel_rfl) Ev.SpsOk.nil))))
theorem ro_r21_Ends (F_r02_Right : T_api_Addr → Option Bool) (F_r14_Local : T_api_Addr → Option Bool) (F_r14_Multicast : T_api_Addr → Option Bool) (F_r21_Near : T_api_Addr → Option Bool) : Ev.SpecRl (Ew_r21_Ends F_r02_Right F_r14_Local F_r14_Multicast F_r21_Near) := Ev.specRl_with rfl (Ev.SpsRl.cons (rs_r02_Right _) (Ev.SpsRl.cons (rs_r14_Local _) (Ev.SpsRl.cons (rs_r14_Multicast _) (Ev.SpsRl.cons (rs_r21_Near _) Ev.SpsRl.nil))))
theorem g_r21_Ends : Ev.SpOk Try.prog false 81 (s_r21_Ends F_r21_Ends) := by
  refine Ev.SpOk.mkF fun vs k r g0 => ?_
  unfold s_r21_Ends at g0
  obtain ⟨a0, r0, rfl, g1⟩ := Ev.kU_ok g0
  obtain ⟨a1, r1, rfl, g2⟩ := Ev.kU_ok g1
  obtain ⟨rfl, g3⟩ := Ev.kE_ok g2
  obtain ⟨x0, rfl, g4⟩ := d_api_Addr_ok g3
  obtain ⟨x1, rfl, g5⟩ := d_api_Addr_ok g4
  obtain ⟨x, hx, h⟩ := Ev.bnd_get g5
  obtain ⟨m, hm⟩ := Ev.lim_some hx
  have h1 := pr_r21_Ends F_r02_Right F_r14_Local F_r14_Multicast F_r21_Near m x0 x1
  rw [hm] at h1
  exact ⟨_, h, Ev.good_of_inl ok_r21_Ends (ro_r21_Ends F_r02_Right F_r14_Local F_r14_Multicast F_r21_Near) rfl rfl Ev.TabOk.nil 40 12 _ h1⟩
-- stockadelaw21.IcmpEnds
-- DEEP law21_IcmpEnds 23 - T_api_Addr → T_api_Addr → Option Bool
noncomputable def e_law21_IcmpEnds (x : Bool) : Value := .bool x
noncomputable def E_law21_IcmpEnds (x : Bool) : Value × Ev.AH := (e_law21_IcmpEnds x, ⟨[], 0, []⟩)
noncomputable def s_law21_IcmpEnds (F : T_api_Addr → T_api_Addr → Option Bool) : Ev.Sp := fun vs k => Ev.kU vs fun a0 r0 => Ev.kU r0 fun a1 r1 => Ev.kE r1 <| d_api_Addr a0 fun x0 => d_api_Addr a1 fun x1 => Ev.bnd (F x0 x1) fun x => k (e_law21_IcmpEnds x)
theorem rs_law21_IcmpEnds (F : T_api_Addr → T_api_Addr → Option Bool) : Ev.SpRl (s_law21_IcmpEnds F) := by
  intro S vs k k2 hk
  unfold s_law21_IcmpEnds
  refine Ev.rl_kU fun _ _ => ?_
  refine Ev.rl_kU fun _ _ => ?_
  refine Ev.rl_kE ?_
  refine rl_d_api_Addr fun _ => ?_
  refine rl_d_api_Addr fun _ => ?_
  exact Ev.Rl.bnd fun x => hk _
noncomputable def Ew_law21_IcmpEnds (F_icmp_Ends : T_api_Addr → T_api_Addr → Option Int) (F_r21_Ends : T_api_Addr → T_api_Addr → Option Int) (F_law21_alive : Option Bool) : Ev.Env := Ev.Env.with Ed [(80, s_icmp_Ends F_icmp_Ends), (81, s_r21_Ends F_r21_Ends), (79, s_law21_alive F_law21_alive)]
noncomputable def Es_law21_IcmpEnds (F_icmp_Ends : T_api_Addr → T_api_Addr → Option Int) (F_r21_Ends : T_api_Addr → T_api_Addr → Option Int) (F_law21_alive : Option Bool) : Ev.Env := Ev.Env.inl (Ew_law21_IcmpEnds F_icmp_Ends F_r21_Ends F_law21_alive) MtIh [] 40 12
noncomputable def O_law21_IcmpEnds (F_icmp_Ends : T_api_Addr → T_api_Addr → Option Int) (F_r21_Ends : T_api_Addr → T_api_Addr → Option Int) (F_law21_alive : Option Bool) : Ev.Orc := fun _ _ _ => none
noncomputable def N_law21_IcmpEnds (F_icmp_Ends : T_api_Addr → T_api_Addr → Option Int) (F_r21_Ends : T_api_Addr → T_api_Addr → Option Int) (F_law21_alive : Option Bool) (m : Nat) (x0 : T_api_Addr) (x1 : T_api_Addr) : Option Bool := Ev.bnd (F_icmp_Ends x0 x1) fun v0 => Ev.bnd (F_r21_Ends x0 x1) fun v1 => bif v0 == v1 then Ev.bnd F_law21_alive fun v2 => some v2 else some false
theorem pr_law21_IcmpEnds (F_icmp_Ends : T_api_Addr → T_api_Addr → Option Int) (F_r21_Ends : T_api_Addr → T_api_Addr → Option Int) (F_law21_alive : Option Bool) (m : Nat) (x0 : T_api_Addr) (x1 : T_api_Addr) : Ev.evBodyD (Es_law21_IcmpEnds F_icmp_Ends F_r21_Ends F_law21_alive) MtIh (O_law21_IcmpEnds F_icmp_Ends F_r21_Ends F_law21_alive) m 23 [v_api_Addr x0, v_api_Addr x1] = Ev.oE E_law21_IcmpEnds (N_law21_IcmpEnds F_icmp_Ends F_r21_Ends F_law21_alive m x0 x1) := by
  simp only [N_law21_IcmpEnds, Ev.oE_some, Ev.oE_none, Ev.oE_cond, Ev.oE_bnd]
  kernel_rfl
noncomputable def F_law21_IcmpEnds : T_api_Addr → T_api_Addr → Option Bool := fun x0 x1 => N_law21_IcmpEnds F_icmp_Ends F_r21_Ends F_law21_alive 0 x0 x1
theorem ok_law21_IcmpEnds : Ev.EnvOk (Ew_law21_IcmpEnds F_icmp_Ends F_r21_Ends F_law21_alive) := Ev.envOk_with envOkd (Ev.SpsOk.add (b := false) g_icmp_Ends (by kernel_rfl) (Ev.SpsOk.add (b := false) g_r21_Ends (by kernel_rfl) (Ev.SpsOk.add (b := false) g_law21_alive (by kernel_rfl) Ev.SpsOk.nil)))
theorem ro_law21_IcmpEnds (F_icmp_Ends : T_api_Addr → T_api_Addr → Option Int) (F_r21_Ends : T_api_Addr → T_api_Addr → Option Int) (F_law21_alive : Option Bool) : Ev.SpecRl (Ew_law21_IcmpEnds F_icmp_Ends F_r21_Ends F_law21_alive) := Ev.specRl_with rfl (Ev.SpsRl.cons (rs_icmp_Ends _) (Ev.SpsRl.cons (rs_r21_Ends _) (Ev.SpsRl.cons (rs_law21_alive _) Ev.SpsRl.nil)))
theorem g_law21_IcmpEnds : Ev.SpOk Try.prog false 23 (s_law21_IcmpEnds F_law21_IcmpEnds) := by
  refine Ev.SpOk.mkF fun vs k r g0 => ?_
  unfold s_law21_IcmpEnds at g0
  obtain ⟨a0, r0, rfl, g1⟩ := Ev.kU_ok g0
  obtain ⟨a1, r1, rfl, g2⟩ := Ev.kU_ok g1
  obtain ⟨rfl, g3⟩ := Ev.kE_ok g2
  obtain ⟨x0, rfl, g4⟩ := d_api_Addr_ok g3
  obtain ⟨x1, rfl, g5⟩ := d_api_Addr_ok g4
  obtain ⟨x, hx, h⟩ := Ev.bnd_get g5
  have h1 := pr_law21_IcmpEnds F_icmp_Ends F_r21_Ends F_law21_alive 0 x0 x1
  rw [show N_law21_IcmpEnds F_icmp_Ends F_r21_Ends F_law21_alive 0 x0 x1 = some x from hx] at h1
  exact ⟨_, h, Ev.good_of_inl ok_law21_IcmpEnds (ro_law21_IcmpEnds F_icmp_Ends F_r21_Ends F_law21_alive) rfl rfl Ev.TabOk.nil 40 12 _ h1⟩
-- stockaderef21.none
-- DEEP r21_none 149 - T_api_Addr → Option Bool
noncomputable def e_r21_none (x : Bool) : Value := .bool x
noncomputable def E_r21_none (x : Bool) : Value × Ev.AH := (e_r21_none x, ⟨[], 0, []⟩)
noncomputable def s_r21_none (F : T_api_Addr → Option Bool) : Ev.Sp := fun vs k => Ev.kU vs fun a0 r0 => Ev.kE r0 <| d_api_Addr a0 fun x0 => Ev.bnd (F x0) fun x => k (e_r21_none x)
theorem rs_r21_none (F : T_api_Addr → Option Bool) : Ev.SpRl (s_r21_none F) := by
  intro S vs k k2 hk
  unfold s_r21_none
  refine Ev.rl_kU fun _ _ => ?_
  refine Ev.rl_kE ?_
  refine rl_d_api_Addr fun _ => ?_
  exact Ev.Rl.bnd fun x => hk _
noncomputable def Ew_r21_none : Ev.Env := Ev.Env.with Ed []
noncomputable def Es_r21_none : Ev.Env := Ev.Env.inl (Ew_r21_none ) MtIh [] 40 12
noncomputable def O_r21_none : Ev.Orc := fun _ _ _ => none
noncomputable def N_r21_none (m : Nat) (x0 : T_api_Addr) : Option Bool := some (x0.Fam == 6 && (x0.Hi == 0 && (x0.Lo == 0 && true)))
theorem pr_r21_none (m : Nat) (x0 : T_api_Addr) : Ev.evBodyD (Es_r21_none ) MtIh (O_r21_none ) m 149 [v_api_Addr x0] = Ev.oE E_r21_none (N_r21_none m x0) := by
  simp only [N_r21_none, Ev.oE_some, Ev.oE_none, Ev.oE_cond, Ev.oE_bnd]
  kernel_rfl
noncomputable def F_r21_none : T_api_Addr → Option Bool := fun x0 => N_r21_none 0 x0
theorem ok_r21_none : Ev.EnvOk (Ew_r21_none ) := Ev.envOk_with envOkd Ev.SpsOk.nil
theorem ro_r21_none : Ev.SpecRl (Ew_r21_none ) := Ev.specRl_with rfl Ev.SpsRl.nil
theorem g_r21_none : Ev.SpOk Try.prog false 149 (s_r21_none F_r21_none) := by
  refine Ev.SpOk.mkF fun vs k r g0 => ?_
  unfold s_r21_none at g0
  obtain ⟨a0, r0, rfl, g1⟩ := Ev.kU_ok g0
  obtain ⟨rfl, g2⟩ := Ev.kE_ok g1
  obtain ⟨x0, rfl, g3⟩ := d_api_Addr_ok g2
  obtain ⟨x, hx, h⟩ := Ev.bnd_get g3
  have h1 := pr_r21_none  0 x0
  rw [show N_r21_none  0 x0 = some x from hx] at h1
  exact ⟨_, h, Ev.good_of_inl ok_r21_none (ro_r21_none ) rfl rfl Ev.TabOk.nil 40 12 _ h1⟩
-- icmp.Neighbour
-- DEEP icmp_Neighbour 88 - D_api_Seg → Int → Option Int
noncomputable def e_icmp_Neighbour (x : Int) : Value := .int .i64 x
noncomputable def E_icmp_Neighbour (x : Int) : Value × Ev.AH := (e_icmp_Neighbour x, ⟨[], 0, []⟩)
noncomputable def s_icmp_Neighbour (F : D_api_Seg → Int → Option Int) : Ev.Sp := fun vs k => Ev.kU vs fun a0 r0 => Ev.kU r0 fun a1 r1 => Ev.kE r1 <| d_api_Seg a0 fun x0 => Ev.gI .i64 a1 fun x1 => Ev.bnd (F x0 x1) fun x => k (e_icmp_Neighbour x)
theorem rs_icmp_Neighbour (F : D_api_Seg → Int → Option Int) : Ev.SpRl (s_icmp_Neighbour F) := by
  intro S vs k k2 hk
  unfold s_icmp_Neighbour
  refine Ev.rl_kU fun _ _ => ?_
  refine Ev.rl_kU fun _ _ => ?_
  refine Ev.rl_kE ?_
  refine rl_d_api_Seg fun _ => ?_
  refine Ev.rl_gI fun _ => ?_
  exact Ev.Rl.bnd fun x => hk _
noncomputable def Ew_icmp_Neighbour (F_icmp_Near : T_api_Addr → Option Bool) (F_icmp_Group : T_api_Addr → Option Bool) : Ev.Env := Ev.Env.with Ed [(83, s_icmp_Near F_icmp_Near), (85, s_icmp_Group F_icmp_Group)]
noncomputable def Es_icmp_Neighbour (F_icmp_Near : T_api_Addr → Option Bool) (F_icmp_Group : T_api_Addr → Option Bool) : Ev.Env := Ev.Env.inl (Ew_icmp_Neighbour F_icmp_Near F_icmp_Group) MtIh [] 40 12
noncomputable def O_icmp_Neighbour (F_icmp_Near : T_api_Addr → Option Bool) (F_icmp_Group : T_api_Addr → Option Bool) : Ev.Orc := fun _ _ _ => none
noncomputable def N_icmp_Neighbour (F_icmp_Near : T_api_Addr → Option Bool) (F_icmp_Group : T_api_Addr → Option Bool) (m : Nat) (x0 : D_api_Seg) (x1 : Int) : Option Int := bif x0.Tuple_Fam != 6 then some 1 else bif x0.Tuple_Proto != 58 then some 1 else bif Ev.ltI x0.Type_ 133 then some 1 else bif Ev.ltI 137 x0.Type_ then some 1 else bif x1 != 255 then some 26 else bif x0.Code != 0 then some 1 else Ev.bnd (F_icmp_Near (T_api_Addr.mk x0.Tuple_Src_Fam x0.Tuple_Src_Hi x0.Tuple_Src_Lo)) fun v0 => bif !v0 then bif !(x0.Tuple_Src_Fam == 6 && (x0.Tuple_Src_Hi == 0 && (x0.Tuple_Src_Lo == 0 && true))) then some 24 else bif x0.Type_ != 135 then Ev.bnd (F_icmp_Near (T_api_Addr.mk x0.Tuple_Dst_Fam x0.Tuple_Dst_Hi x0.Tuple_Dst_Lo)) fun v1 => bif !v1 then Ev.bnd (F_icmp_Group (T_api_Addr.mk x0.Tuple_Dst_Fam x0.Tuple_Dst_Hi x0.Tuple_Dst_Lo)) fun v2 => bif !v2 then some 24 else bif x0.Tuple_Src_Fam == 6 && (x0.Tuple_Src_Hi == 0 && (x0.Tuple_Src_Lo == 0 && true)) then bif x0.Type_ == 134 then some 24 else bif x0.Type_ == 137 then some 24 else some 0 else some 0 else bif x0.Tuple_Src_Fam == 6 && (x0.Tuple_Src_Hi == 0 && (x0.Tuple_Src_Lo == 0 && true)) then bif x0.Type_ == 134 then some 24 else bif x0.Type_ == 137 then some 24 else some 0 else some 0 else bif x0.Tuple_Src_Fam == 6 && (x0.Tuple_Src_Hi == 0 && (x0.Tuple_Src_Lo == 0 && true)) then bif x0.Type_ == 134 then some 24 else bif x0.Type_ == 137 then some 24 else some 0 else some 0 else bif x0.Type_ != 135 then Ev.bnd (F_icmp_Near (T_api_Addr.mk x0.Tuple_Dst_Fam x0.Tuple_Dst_Hi x0.Tuple_Dst_Lo)) fun v3 => bif !v3 then Ev.bnd (F_icmp_Group (T_api_Addr.mk x0.Tuple_Dst_Fam x0.Tuple_Dst_Hi x0.Tuple_Dst_Lo)) fun v4 => bif !v4 then some 24 else bif x0.Tuple_Src_Fam == 6 && (x0.Tuple_Src_Hi == 0 && (x0.Tuple_Src_Lo == 0 && true)) then bif x0.Type_ == 134 then some 24 else bif x0.Type_ == 137 then some 24 else some 0 else some 0 else bif x0.Tuple_Src_Fam == 6 && (x0.Tuple_Src_Hi == 0 && (x0.Tuple_Src_Lo == 0 && true)) then bif x0.Type_ == 134 then some 24 else bif x0.Type_ == 137 then some 24 else some 0 else some 0 else bif x0.Tuple_Src_Fam == 6 && (x0.Tuple_Src_Hi == 0 && (x0.Tuple_Src_Lo == 0 && true)) then bif x0.Type_ == 134 then some 24 else bif x0.Type_ == 137 then some 24 else some 0 else some 0
theorem pr_icmp_Neighbour (F_icmp_Near : T_api_Addr → Option Bool) (F_icmp_Group : T_api_Addr → Option Bool) (m : Nat) (x0 : D_api_Seg) (x1 : Int) : Ev.evBodyD (Es_icmp_Neighbour F_icmp_Near F_icmp_Group) MtIh (O_icmp_Neighbour F_icmp_Near F_icmp_Group) m 88 [v_api_Seg x0, .int .i64 x1] = Ev.oE E_icmp_Neighbour (N_icmp_Neighbour F_icmp_Near F_icmp_Group m x0 x1) := by
  simp only [N_icmp_Neighbour, Ev.oE_some, Ev.oE_none, Ev.oE_cond, Ev.oE_bnd]
  kernel_rfl
noncomputable def F_icmp_Neighbour : D_api_Seg → Int → Option Int := fun x0 x1 => N_icmp_Neighbour F_icmp_Near F_icmp_Group 0 x0 x1
theorem ok_icmp_Neighbour : Ev.EnvOk (Ew_icmp_Neighbour F_icmp_Near F_icmp_Group) := Ev.envOk_with envOkd (Ev.SpsOk.add (b := false) g_icmp_Near (by kernel_rfl) (Ev.SpsOk.add (b := false) g_icmp_Group (by kernel_rfl) Ev.SpsOk.nil))
theorem ro_icmp_Neighbour (F_icmp_Near : T_api_Addr → Option Bool) (F_icmp_Group : T_api_Addr → Option Bool) : Ev.SpecRl (Ew_icmp_Neighbour F_icmp_Near F_icmp_Group) := Ev.specRl_with rfl (Ev.SpsRl.cons (rs_icmp_Near _) (Ev.SpsRl.cons (rs_icmp_Group _) Ev.SpsRl.nil))
theorem g_icmp_Neighbour : Ev.SpOk Try.prog false 88 (s_icmp_Neighbour F_icmp_Neighbour) := by
  refine Ev.SpOk.mkF fun vs k r g0 => ?_
  unfold s_icmp_Neighbour at g0
  obtain ⟨a0, r0, rfl, g1⟩ := Ev.kU_ok g0
  obtain ⟨a1, r1, rfl, g2⟩ := Ev.kU_ok g1
  obtain ⟨rfl, g3⟩ := Ev.kE_ok g2
  obtain ⟨x0, rfl, g4⟩ := d_api_Seg_ok g3
  obtain ⟨x1, rfl, g5⟩ := Ev.gI_ok g4
  obtain ⟨x, hx, h⟩ := Ev.bnd_get g5
  have h1 := pr_icmp_Neighbour F_icmp_Near F_icmp_Group 0 x0 x1
  rw [show N_icmp_Neighbour F_icmp_Near F_icmp_Group 0 x0 x1 = some x from hx] at h1
  exact ⟨_, h, Ev.good_of_inl ok_icmp_Neighbour (ro_icmp_Neighbour F_icmp_Near F_icmp_Group) rfl rfl Ev.TabOk.nil 40 12 _ h1⟩
-- stockaderef21.Neighbour
-- DEEP r21_Neighbour 89 - D_api_Seg → Int → Option Int
noncomputable def e_r21_Neighbour (x : Int) : Value := .int .i64 x
noncomputable def E_r21_Neighbour (x : Int) : Value × Ev.AH := (e_r21_Neighbour x, ⟨[], 0, []⟩)
noncomputable def s_r21_Neighbour (F : D_api_Seg → Int → Option Int) : Ev.Sp := fun vs k => Ev.kU vs fun a0 r0 => Ev.kU r0 fun a1 r1 => Ev.kE r1 <| d_api_Seg a0 fun x0 => Ev.gI .i64 a1 fun x1 => Ev.bnd (F x0 x1) fun x => k (e_r21_Neighbour x)
theorem rs_r21_Neighbour (F : D_api_Seg → Int → Option Int) : Ev.SpRl (s_r21_Neighbour F) := by
  intro S vs k k2 hk
  unfold s_r21_Neighbour
  refine Ev.rl_kU fun _ _ => ?_
  refine Ev.rl_kU fun _ _ => ?_
  refine Ev.rl_kE ?_
  refine rl_d_api_Seg fun _ => ?_
  refine Ev.rl_gI fun _ => ?_
  exact Ev.Rl.bnd fun x => hk _
noncomputable def Ew_r21_Neighbour (F_r21_Near : T_api_Addr → Option Bool) (F_r21_none : T_api_Addr → Option Bool) (F_r21_Group : T_api_Addr → Option Bool) : Ev.Env := Ev.Env.with Ed [(84, s_r21_Near F_r21_Near), (149, s_r21_none F_r21_none), (86, s_r21_Group F_r21_Group)]
noncomputable def Es_r21_Neighbour (F_r21_Near : T_api_Addr → Option Bool) (F_r21_none : T_api_Addr → Option Bool) (F_r21_Group : T_api_Addr → Option Bool) : Ev.Env := Ev.Env.inl (Ew_r21_Neighbour F_r21_Near F_r21_none F_r21_Group) MtIh [] 40 12
noncomputable def O_r21_Neighbour (F_r21_Near : T_api_Addr → Option Bool) (F_r21_none : T_api_Addr → Option Bool) (F_r21_Group : T_api_Addr → Option Bool) : Ev.Orc := fun _ _ _ => none
noncomputable def N_r21_Neighbour (F_r21_Near : T_api_Addr → Option Bool) (F_r21_none : T_api_Addr → Option Bool) (F_r21_Group : T_api_Addr → Option Bool) (m : Nat) (x0 : D_api_Seg) (x1 : Int) : Option Int := bif x0.Tuple_Fam != 6 then some 1 else bif x0.Tuple_Proto != 58 then some 1 else bif Ev.ltI x0.Type_ 133 then some 1 else bif Ev.ltI 137 x0.Type_ then some 1 else bif x1 != 255 then some 26 else bif x0.Code != 0 then some 1 else Ev.bnd (F_r21_Near (T_api_Addr.mk x0.Tuple_Src_Fam x0.Tuple_Src_Hi x0.Tuple_Src_Lo)) fun v0 => bif !v0 then Ev.bnd (F_r21_none (T_api_Addr.mk x0.Tuple_Src_Fam x0.Tuple_Src_Hi x0.Tuple_Src_Lo)) fun v1 => bif !v1 then some 24 else bif x0.Type_ != 135 then Ev.bnd (F_r21_Near (T_api_Addr.mk x0.Tuple_Dst_Fam x0.Tuple_Dst_Hi x0.Tuple_Dst_Lo)) fun v2 => bif !v2 then Ev.bnd (F_r21_Group (T_api_Addr.mk x0.Tuple_Dst_Fam x0.Tuple_Dst_Hi x0.Tuple_Dst_Lo)) fun v3 => bif !v3 then some 24 else bif x0.Type_ == 134 then Ev.bnd (F_r21_none (T_api_Addr.mk x0.Tuple_Src_Fam x0.Tuple_Src_Hi x0.Tuple_Src_Lo)) fun v4 => bif v4 then some 24 else some 0 else bif x0.Type_ == 137 then Ev.bnd (F_r21_none (T_api_Addr.mk x0.Tuple_Src_Fam x0.Tuple_Src_Hi x0.Tuple_Src_Lo)) fun v5 => bif v5 then some 24 else some 0 else some 0 else bif x0.Type_ == 134 then Ev.bnd (F_r21_none (T_api_Addr.mk x0.Tuple_Src_Fam x0.Tuple_Src_Hi x0.Tuple_Src_Lo)) fun v6 => bif v6 then some 24 else some 0 else bif x0.Type_ == 137 then Ev.bnd (F_r21_none (T_api_Addr.mk x0.Tuple_Src_Fam x0.Tuple_Src_Hi x0.Tuple_Src_Lo)) fun v7 => bif v7 then some 24 else some 0 else some 0 else bif x0.Type_ == 134 then Ev.bnd (F_r21_none (T_api_Addr.mk x0.Tuple_Src_Fam x0.Tuple_Src_Hi x0.Tuple_Src_Lo)) fun v8 => bif v8 then some 24 else some 0 else bif x0.Type_ == 137 then Ev.bnd (F_r21_none (T_api_Addr.mk x0.Tuple_Src_Fam x0.Tuple_Src_Hi x0.Tuple_Src_Lo)) fun v9 => bif v9 then some 24 else some 0 else some 0 else bif x0.Type_ != 135 then Ev.bnd (F_r21_Near (T_api_Addr.mk x0.Tuple_Dst_Fam x0.Tuple_Dst_Hi x0.Tuple_Dst_Lo)) fun v10 => bif !v10 then Ev.bnd (F_r21_Group (T_api_Addr.mk x0.Tuple_Dst_Fam x0.Tuple_Dst_Hi x0.Tuple_Dst_Lo)) fun v11 => bif !v11 then some 24 else bif x0.Type_ == 134 then Ev.bnd (F_r21_none (T_api_Addr.mk x0.Tuple_Src_Fam x0.Tuple_Src_Hi x0.Tuple_Src_Lo)) fun v12 => bif v12 then some 24 else some 0 else bif x0.Type_ == 137 then Ev.bnd (F_r21_none (T_api_Addr.mk x0.Tuple_Src_Fam x0.Tuple_Src_Hi x0.Tuple_Src_Lo)) fun v13 => bif v13 then some 24 else some 0 else some 0 else bif x0.Type_ == 134 then Ev.bnd (F_r21_none (T_api_Addr.mk x0.Tuple_Src_Fam x0.Tuple_Src_Hi x0.Tuple_Src_Lo)) fun v14 => bif v14 then some 24 else some 0 else bif x0.Type_ == 137 then Ev.bnd (F_r21_none (T_api_Addr.mk x0.Tuple_Src_Fam x0.Tuple_Src_Hi x0.Tuple_Src_Lo)) fun v15 => bif v15 then some 24 else some 0 else some 0 else bif x0.Type_ == 134 then Ev.bnd (F_r21_none (T_api_Addr.mk x0.Tuple_Src_Fam x0.Tuple_Src_Hi x0.Tuple_Src_Lo)) fun v16 => bif v16 then some 24 else some 0 else bif x0.Type_ == 137 then Ev.bnd (F_r21_none (T_api_Addr.mk x0.Tuple_Src_Fam x0.Tuple_Src_Hi x0.Tuple_Src_Lo)) fun v17 => bif v17 then some 24 else some 0 else some 0
theorem pr_r21_Neighbour (F_r21_Near : T_api_Addr → Option Bool) (F_r21_none : T_api_Addr → Option Bool) (F_r21_Group : T_api_Addr → Option Bool) (m : Nat) (x0 : D_api_Seg) (x1 : Int) : Ev.evBodyD (Es_r21_Neighbour F_r21_Near F_r21_none F_r21_Group) MtIh (O_r21_Neighbour F_r21_Near F_r21_none F_r21_Group) m 89 [v_api_Seg x0, .int .i64 x1] = Ev.oE E_r21_Neighbour (N_r21_Neighbour F_r21_Near F_r21_none F_r21_Group m x0 x1) := by
  simp only [N_r21_Neighbour, Ev.oE_some, Ev.oE_none, Ev.oE_cond, Ev.oE_bnd]
  kernel_rfl
noncomputable def F_r21_Neighbour : D_api_Seg → Int → Option Int := fun x0 x1 => N_r21_Neighbour F_r21_Near F_r21_none F_r21_Group 0 x0 x1
theorem ok_r21_Neighbour : Ev.EnvOk (Ew_r21_Neighbour F_r21_Near F_r21_none F_r21_Group) := Ev.envOk_with envOkd (Ev.SpsOk.add (b := false) g_r21_Near (by kernel_rfl) (Ev.SpsOk.add (b := false) g_r21_none (by kernel_rfl) (Ev.SpsOk.add (b := false) g_r21_Group (by kernel_rfl) Ev.SpsOk.nil)))
theorem ro_r21_Neighbour (F_r21_Near : T_api_Addr → Option Bool) (F_r21_none : T_api_Addr → Option Bool) (F_r21_Group : T_api_Addr → Option Bool) : Ev.SpecRl (Ew_r21_Neighbour F_r21_Near F_r21_none F_r21_Group) := Ev.specRl_with rfl (Ev.SpsRl.cons (rs_r21_Near _) (Ev.SpsRl.cons (rs_r21_none _) (Ev.SpsRl.cons (rs_r21_Group _) Ev.SpsRl.nil)))
theorem g_r21_Neighbour : Ev.SpOk Try.prog false 89 (s_r21_Neighbour F_r21_Neighbour) := by
  refine Ev.SpOk.mkF fun vs k r g0 => ?_
  unfold s_r21_Neighbour at g0
  obtain ⟨a0, r0, rfl, g1⟩ := Ev.kU_ok g0
  obtain ⟨a1, r1, rfl, g2⟩ := Ev.kU_ok g1
  obtain ⟨rfl, g3⟩ := Ev.kE_ok g2
  obtain ⟨x0, rfl, g4⟩ := d_api_Seg_ok g3
  obtain ⟨x1, rfl, g5⟩ := Ev.gI_ok g4
  obtain ⟨x, hx, h⟩ := Ev.bnd_get g5
  have h1 := pr_r21_Neighbour F_r21_Near F_r21_none F_r21_Group 0 x0 x1
  rw [show N_r21_Neighbour F_r21_Near F_r21_none F_r21_Group 0 x0 x1 = some x from hx] at h1
  exact ⟨_, h, Ev.good_of_inl ok_r21_Neighbour (ro_r21_Neighbour F_r21_Near F_r21_none F_r21_Group) rfl rfl Ev.TabOk.nil 40 12 _ h1⟩
-- stockadelaw21.IcmpNeighbours
-- DEEP law21_IcmpNeighbours 27 - D_api_Seg → Int → Option Bool
noncomputable def e_law21_IcmpNeighbours (x : Bool) : Value := .bool x
noncomputable def E_law21_IcmpNeighbours (x : Bool) : Value × Ev.AH := (e_law21_IcmpNeighbours x, ⟨[], 0, []⟩)
noncomputable def s_law21_IcmpNeighbours (F : D_api_Seg → Int → Option Bool) : Ev.Sp := fun vs k => Ev.kU vs fun a0 r0 => Ev.kU r0 fun a1 r1 => Ev.kE r1 <| d_api_Seg a0 fun x0 => Ev.gI .i64 a1 fun x1 => Ev.bnd (F x0 x1) fun x => k (e_law21_IcmpNeighbours x)
theorem rs_law21_IcmpNeighbours (F : D_api_Seg → Int → Option Bool) : Ev.SpRl (s_law21_IcmpNeighbours F) := by
  intro S vs k k2 hk
  unfold s_law21_IcmpNeighbours
  refine Ev.rl_kU fun _ _ => ?_
  refine Ev.rl_kU fun _ _ => ?_
  refine Ev.rl_kE ?_
  refine rl_d_api_Seg fun _ => ?_
  refine Ev.rl_gI fun _ => ?_
  exact Ev.Rl.bnd fun x => hk _
noncomputable def Ew_law21_IcmpNeighbours (F_icmp_Neighbour : D_api_Seg → Int → Option Int) (F_r21_Neighbour : D_api_Seg → Int → Option Int) (F_law21_alive : Option Bool) : Ev.Env := Ev.Env.with Ed [(88, s_icmp_Neighbour F_icmp_Neighbour), (89, s_r21_Neighbour F_r21_Neighbour), (79, s_law21_alive F_law21_alive)]
noncomputable def Es_law21_IcmpNeighbours (F_icmp_Neighbour : D_api_Seg → Int → Option Int) (F_r21_Neighbour : D_api_Seg → Int → Option Int) (F_law21_alive : Option Bool) : Ev.Env := Ev.Env.inl (Ew_law21_IcmpNeighbours F_icmp_Neighbour F_r21_Neighbour F_law21_alive) MtIh [] 40 12
noncomputable def O_law21_IcmpNeighbours (F_icmp_Neighbour : D_api_Seg → Int → Option Int) (F_r21_Neighbour : D_api_Seg → Int → Option Int) (F_law21_alive : Option Bool) : Ev.Orc := fun _ _ _ => none
noncomputable def N_law21_IcmpNeighbours (F_icmp_Neighbour : D_api_Seg → Int → Option Int) (F_r21_Neighbour : D_api_Seg → Int → Option Int) (F_law21_alive : Option Bool) (m : Nat) (x0 : D_api_Seg) (x1 : Int) : Option Bool := Ev.bnd (F_icmp_Neighbour x0 x1) fun v0 => Ev.bnd (F_r21_Neighbour x0 x1) fun v1 => bif v0 == v1 then Ev.bnd F_law21_alive fun v2 => some v2 else some false
theorem pr_law21_IcmpNeighbours (F_icmp_Neighbour : D_api_Seg → Int → Option Int) (F_r21_Neighbour : D_api_Seg → Int → Option Int) (F_law21_alive : Option Bool) (m : Nat) (x0 : D_api_Seg) (x1 : Int) : Ev.evBodyD (Es_law21_IcmpNeighbours F_icmp_Neighbour F_r21_Neighbour F_law21_alive) MtIh (O_law21_IcmpNeighbours F_icmp_Neighbour F_r21_Neighbour F_law21_alive) m 27 [v_api_Seg x0, .int .i64 x1] = Ev.oE E_law21_IcmpNeighbours (N_law21_IcmpNeighbours F_icmp_Neighbour F_r21_Neighbour F_law21_alive m x0 x1) := by
  simp only [N_law21_IcmpNeighbours, Ev.oE_some, Ev.oE_none, Ev.oE_cond, Ev.oE_bnd]
  kernel_rfl
noncomputable def F_law21_IcmpNeighbours : D_api_Seg → Int → Option Bool := fun x0 x1 => N_law21_IcmpNeighbours F_icmp_Neighbour F_r21_Neighbour F_law21_alive 0 x0 x1
theorem ok_law21_IcmpNeighbours : Ev.EnvOk (Ew_law21_IcmpNeighbours F_icmp_Neighbour F_r21_Neighbour F_law21_alive) := Ev.envOk_with envOkd (Ev.SpsOk.add (b := false) g_icmp_Neighbour (by kernel_rfl) (Ev.SpsOk.add (b := false) g_r21_Neighbour (by kernel_rfl) (Ev.SpsOk.add (b := false) g_law21_alive (by kernel_rfl) Ev.SpsOk.nil)))
theorem ro_law21_IcmpNeighbours (F_icmp_Neighbour : D_api_Seg → Int → Option Int) (F_r21_Neighbour : D_api_Seg → Int → Option Int) (F_law21_alive : Option Bool) : Ev.SpecRl (Ew_law21_IcmpNeighbours F_icmp_Neighbour F_r21_Neighbour F_law21_alive) := Ev.specRl_with rfl (Ev.SpsRl.cons (rs_icmp_Neighbour _) (Ev.SpsRl.cons (rs_r21_Neighbour _) (Ev.SpsRl.cons (rs_law21_alive _) Ev.SpsRl.nil)))
theorem g_law21_IcmpNeighbours : Ev.SpOk Try.prog false 27 (s_law21_IcmpNeighbours F_law21_IcmpNeighbours) := by
  refine Ev.SpOk.mkF fun vs k r g0 => ?_
  unfold s_law21_IcmpNeighbours at g0
  obtain ⟨a0, r0, rfl, g1⟩ := Ev.kU_ok g0
  obtain ⟨a1, r1, rfl, g2⟩ := Ev.kU_ok g1
  obtain ⟨rfl, g3⟩ := Ev.kE_ok g2
  obtain ⟨x0, rfl, g4⟩ := d_api_Seg_ok g3
  obtain ⟨x1, rfl, g5⟩ := Ev.gI_ok g4
  obtain ⟨x, hx, h⟩ := Ev.bnd_get g5
  have h1 := pr_law21_IcmpNeighbours F_icmp_Neighbour F_r21_Neighbour F_law21_alive 0 x0 x1
  rw [show N_law21_IcmpNeighbours F_icmp_Neighbour F_r21_Neighbour F_law21_alive 0 x0 x1 = some x from hx] at h1
  exact ⟨_, h, Ev.good_of_inl ok_law21_IcmpNeighbours (ro_law21_IcmpNeighbours F_icmp_Neighbour F_r21_Neighbour F_law21_alive) rfl rfl Ev.TabOk.nil 40 12 _ h1⟩
end Go.Proofs.Yteljeekapcenlaa
