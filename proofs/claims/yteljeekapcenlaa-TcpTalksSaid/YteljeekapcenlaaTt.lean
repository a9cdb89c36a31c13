/-
  Functions of the seat's program, printed by a program of ours: what each comes to, and that it is so. No conditions.
-/
import Derived.Test.YteljeekapcenlaaTa
namespace Go.Proofs.Yteljeekapcenlaa
open Go
set_option linter.unusedVariables false
set_option linter.unusedSimpArgs false
@[ext] structure T_law17_Caps where
  c0 : Int
  c1 : Int
noncomputable def c_law17_Caps (x : T_law17_Caps) : List Value := [.int .i64 x.c0, .int .i64 x.c1]
noncomputable def v_law17_Caps (x : T_law17_Caps) : Value := .agg ⟨[.int .i64 x.c0, .int .i64 x.c1]⟩
noncomputable def u_law17_Caps (v : Value) : T_law17_Caps := match v with | .agg ⟨[a0, a1]⟩ => ⟨Ev.uI a0, Ev.uI a1⟩ | _ => ⟨0, 0⟩
noncomputable def d_law17_Caps (v : Value) (c : T_law17_Caps → Ev.Res) : Ev.Res := match v with | .agg ⟨[a0, a1]⟩ => Ev.gI .i64 a0 fun b0 => Ev.gI .i64 a1 fun b1 => c ⟨b0, b1⟩ | _ => none
theorem d_law17_Caps_ok {v : Value} {c : T_law17_Caps → Ev.Res} {r : Value × Ev.AH} (h : d_law17_Caps v c = some r) : ∃ x, v = v_law17_Caps x ∧ c x = some r := by
  unfold d_law17_Caps at h
  split at h
  · obtain ⟨b0, rfl, h0⟩ := Ev.gI_ok h
    obtain ⟨b1, rfl, h1⟩ := Ev.gI_ok h0
    exact ⟨⟨b0, b1⟩, rfl, h1⟩
  · cases h
theorem rl_d_api_Conn {S : (Value × Ev.AH) → Ev.Res → Prop} {v : Value} {c c2 : T_api_Conn → Ev.Res} (h : ∀ a, Ev.Rl S (c a) (c2 a)) : Ev.Rl S (d_api_Conn v c) (d_api_Conn v c2) := by
  unfold d_api_Conn
  split
  · refine Ev.rl_gI fun _ => ?_
    refine Ev.rl_gI fun _ => ?_
    refine Ev.rl_gI fun _ => ?_
    refine Ev.rl_gI fun _ => ?_
    refine Ev.rl_gI fun _ => ?_
    refine Ev.rl_gB fun _ => ?_
    refine Ev.rl_gB fun _ => ?_
    refine Ev.rl_gB fun _ => ?_
    refine Ev.rl_gB fun _ => ?_
    exact h _
  · exact Ev.Rl.none
theorem rl_d_law17_Caps {S : (Value × Ev.AH) → Ev.Res → Prop} {v : Value} {c c2 : T_law17_Caps → Ev.Res} (h : ∀ a, Ev.Rl S (c a) (c2 a)) : Ev.Rl S (d_law17_Caps v c) (d_law17_Caps v c2) := by
  unfold d_law17_Caps
  split
  · refine Ev.rl_gI fun _ => ?_
    refine Ev.rl_gI fun _ => ?_
    exact h _
  · exact Ev.Rl.none
noncomputable def MtTt : Ev.Mats := { slots := fun f i => [], cells := fun f i => [], own := fun f => Nat.beq f 175 }
-- stockadelaw15.opened
-- DEEP law15_opened 38 - Int → Int → T_law17_Caps → Option (T_api_Conn × Bool)
noncomputable def e_law15_opened (x : T_api_Conn × Bool) : Value := .tuple ⟨[v_api_Conn (x.1), .bool (x.2)]⟩
noncomputable def E_law15_opened (x : T_api_Conn × Bool) : Value × Ev.AH := (e_law15_opened x, ⟨[], 0, []⟩)
noncomputable def s_law15_opened (F : Int → Int → T_law17_Caps → Option (T_api_Conn × Bool)) : Ev.Sp := fun vs k => Ev.kU vs fun a0 r0 => Ev.kU r0 fun a1 r1 => Ev.kU r1 fun a2 r2 => Ev.kE r2 <| Ev.gI .u32 a0 fun x0 => Ev.gI .u32 a1 fun x1 => d_law17_Caps a2 fun x2 => Ev.bnd (F x0 x1 x2) fun x => k (e_law15_opened x)
theorem rs_law15_opened (F : Int → Int → T_law17_Caps → Option (T_api_Conn × Bool)) : Ev.SpRl (s_law15_opened F) := by
  intro S vs k k2 hk
  unfold s_law15_opened
  refine Ev.rl_kU fun _ _ => ?_
  refine Ev.rl_kU fun _ _ => ?_
  refine Ev.rl_kU fun _ _ => ?_
  refine Ev.rl_kE ?_
  refine Ev.rl_gI fun _ => ?_
  refine Ev.rl_gI fun _ => ?_
  refine rl_d_law17_Caps fun _ => ?_
  exact Ev.Rl.bnd fun x => hk _
noncomputable def Ew_law15_opened (F_tcp_Begin : Int → Int → Int → Int → (T_api_Conn × Int)) (F_tcp_Step : T_api_Conn → Int → T_r15_Segment → (T_api_Conn × Int)) : Ev.Env := Ev.Env.with Ed []
noncomputable def Es_law15_opened (F_tcp_Begin : Int → Int → Int → Int → (T_api_Conn × Int)) (F_tcp_Step : T_api_Conn → Int → T_r15_Segment → (T_api_Conn × Int)) : Ev.Env := Ev.Env.inl (Ew_law15_opened F_tcp_Begin F_tcp_Step) MtTt [(28, s_tcp_Begin F_tcp_Begin), (35, s_tcp_Step F_tcp_Step)] 40 12
noncomputable def O_law15_opened (F_tcp_Begin : Int → Int → Int → Int → (T_api_Conn × Int)) (F_tcp_Step : T_api_Conn → Int → T_r15_Segment → (T_api_Conn × Int)) : Ev.Orc := fun _ _ _ => none
noncomputable def N_law15_opened (F_tcp_Begin : Int → Int → Int → Int → (T_api_Conn × Int)) (F_tcp_Step : T_api_Conn → Int → T_r15_Segment → (T_api_Conn × Int)) (m : Nat) (x0 : Int) (x1 : Int) (x2 : T_law17_Caps) : Option (T_api_Conn × Bool) := bif (F_tcp_Begin 2 x0 x2.c0 0).snd == 0 then bif (F_tcp_Step (F_tcp_Begin 2 x0 x2.c0 0).fst 1 (T_r15_Segment.mk 18 x2.c1 0 x1 (IntKind.wrap IntKind.u32 (x0 + 1)))).snd == 0 then bif (F_tcp_Step (F_tcp_Step (F_tcp_Begin 2 x0 x2.c0 0).fst 1 (T_r15_Segment.mk 18 x2.c1 0 x1 (IntKind.wrap IntKind.u32 (x0 + 1)))).fst 0 (T_r15_Segment.mk 16 x2.c0 0 (IntKind.wrap IntKind.u32 (x0 + 1)) (IntKind.wrap IntKind.u32 (x1 + 1)))).snd == 0 then some ((F_tcp_Step (F_tcp_Step (F_tcp_Begin 2 x0 x2.c0 0).fst 1 (T_r15_Segment.mk 18 x2.c1 0 x1 (IntKind.wrap IntKind.u32 (x0 + 1)))).fst 0 (T_r15_Segment.mk 16 x2.c0 0 (IntKind.wrap IntKind.u32 (x0 + 1)) (IntKind.wrap IntKind.u32 (x1 + 1)))).fst, (F_tcp_Step (F_tcp_Step (F_tcp_Begin 2 x0 x2.c0 0).fst 1 (T_r15_Segment.mk 18 x2.c1 0 x1 (IntKind.wrap IntKind.u32 (x0 + 1)))).fst 0 (T_r15_Segment.mk 16 x2.c0 0 (IntKind.wrap IntKind.u32 (x0 + 1)) (IntKind.wrap IntKind.u32 (x1 + 1)))).fst.State == 3) else some ((F_tcp_Step (F_tcp_Step (F_tcp_Begin 2 x0 x2.c0 0).fst 1 (T_r15_Segment.mk 18 x2.c1 0 x1 (IntKind.wrap IntKind.u32 (x0 + 1)))).fst 0 (T_r15_Segment.mk 16 x2.c0 0 (IntKind.wrap IntKind.u32 (x0 + 1)) (IntKind.wrap IntKind.u32 (x1 + 1)))).fst, false) else some ((F_tcp_Step (F_tcp_Step (F_tcp_Begin 2 x0 x2.c0 0).fst 1 (T_r15_Segment.mk 18 x2.c1 0 x1 (IntKind.wrap IntKind.u32 (x0 + 1)))).fst 0 (T_r15_Segment.mk 16 x2.c0 0 (IntKind.wrap IntKind.u32 (x0 + 1)) (IntKind.wrap IntKind.u32 (x1 + 1)))).fst, false) else some ((F_tcp_Step (F_tcp_Step (F_tcp_Begin 2 x0 x2.c0 0).fst 1 (T_r15_Segment.mk 18 x2.c1 0 x1 (IntKind.wrap IntKind.u32 (x0 + 1)))).fst 0 (T_r15_Segment.mk 16 x2.c0 0 (IntKind.wrap IntKind.u32 (x0 + 1)) (IntKind.wrap IntKind.u32 (x1 + 1)))).fst, false)
theorem pr_law15_opened (F_tcp_Begin : Int → Int → Int → Int → (T_api_Conn × Int)) (F_tcp_Step : T_api_Conn → Int → T_r15_Segment → (T_api_Conn × Int)) (m : Nat) (x0 : Int) (x1 : Int) (x2 : T_law17_Caps) : Ev.evBodyD (Es_law15_opened F_tcp_Begin F_tcp_Step) MtTt (O_law15_opened F_tcp_Begin F_tcp_Step) m 38 [.int .u32 x0, .int .u32 x1, v_law17_Caps x2] = Ev.oE E_law15_opened (N_law15_opened F_tcp_Begin F_tcp_Step m x0 x1 x2) := by
  simp only [N_law15_opened, Ev.oE_some, Ev.oE_none, Ev.oE_cond, Ev.oE_bnd]
  kernel_rfl
noncomputable def F_law15_opened : Int → Int → T_law17_Caps → Option (T_api_Conn × Bool) := fun x0 x1 x2 => N_law15_opened F_tcp_Begin F_tcp_Step 0 x0 x1 x2
theorem ok_law15_opened : Ev.EnvOk (Ew_law15_opened F_tcp_Begin F_tcp_Step) := Ev.envOk_with envOkd Ev.SpsOk.nil
theorem ro_law15_opened (F_tcp_Begin : Int → Int → Int → Int → (T_api_Conn × Int)) (F_tcp_Step : T_api_Conn → Int → T_r15_Segment → (T_api_Conn × Int)) : Ev.SpecRl (Ew_law15_opened F_tcp_Begin F_tcp_Step) := Ev.specRl_with rfl Ev.SpsRl.nil
theorem g_law15_opened : Ev.SpOk Try.prog false 38 (s_law15_opened F_law15_opened) := by
  refine Ev.SpOk.mkF fun vs k r g0 => ?_
  unfold s_law15_opened at g0
  obtain ⟨a0, r0, rfl, g1⟩ := Ev.kU_ok g0
  obtain ⟨a1, r1, rfl, g2⟩ := Ev.kU_ok g1
  obtain ⟨a2, r2, rfl, g3⟩ := Ev.kU_ok g2
  obtain ⟨rfl, g4⟩ := Ev.kE_ok g3
  obtain ⟨x0, rfl, g5⟩ := Ev.gI_ok g4
  obtain ⟨x1, rfl, g6⟩ := Ev.gI_ok g5
  obtain ⟨x2, rfl, g7⟩ := d_law17_Caps_ok g6
  obtain ⟨x, hx, h⟩ := Ev.bnd_get g7
  have h1 := pr_law15_opened F_tcp_Begin F_tcp_Step 0 x0 x1 x2
  rw [show N_law15_opened F_tcp_Begin F_tcp_Step 0 x0 x1 x2 = some x from hx] at h1
  exact ⟨_, h, Ev.good_of_inl ok_law15_opened (ro_law15_opened F_tcp_Begin F_tcp_Step) rfl rfl (Ev.TabOk.cons g_tcp_Begin (Ev.TabOk.cons g_tcp_Step Ev.TabOk.nil)) 40 12 _ h1⟩
-- stockadelaw15.TcpTalks
-- DEEP law15_TcpTalks 7 - Int → Int → (List Value) → Option Bool
noncomputable def e_law15_TcpTalks (x : Bool) : Value := .bool x
noncomputable def E_law15_TcpTalks (x : Bool) : Value × Ev.AH := (e_law15_TcpTalks x, ⟨[], 0, []⟩)
noncomputable def s_law15_TcpTalks (F : Int → Int → (List Value) → Option Bool) : Ev.Sp := fun vs k => Ev.kU vs fun a0 r0 => Ev.kU r0 fun a1 r1 => Ev.kU r1 fun a2 r2 => Ev.kE r2 <| Ev.gI .u32 a0 fun x0 => Ev.gI .u32 a1 fun x1 => Ev.kL 1 a2 fun x2 => Ev.bnd (F x0 x1 x2) fun x => k (e_law15_TcpTalks x)
theorem rs_law15_TcpTalks (F : Int → Int → (List Value) → Option Bool) : Ev.SpRl (s_law15_TcpTalks F) := by
  intro S vs k k2 hk
  unfold s_law15_TcpTalks
  refine Ev.rl_kU fun _ _ => ?_
  refine Ev.rl_kU fun _ _ => ?_
  refine Ev.rl_kU fun _ _ => ?_
  refine Ev.rl_kE ?_
  refine Ev.rl_gI fun _ => ?_
  refine Ev.rl_gI fun _ => ?_
  refine Ev.rl_kL fun _ => ?_
  exact Ev.Rl.bnd fun x => hk _
noncomputable def Ew_law15_TcpTalks (F_law15_alive : Bool) (F_tcp_Step : T_api_Conn → Int → T_r15_Segment → (T_api_Conn × Int)) (F_law15_opened : Int → Int → T_law17_Caps → Option (T_api_Conn × Bool)) : Ev.Env := Ev.Env.with Ed [(38, s_law15_opened F_law15_opened)]
noncomputable def Es_law15_TcpTalks (F_law15_alive : Bool) (F_tcp_Step : T_api_Conn → Int → T_r15_Segment → (T_api_Conn × Int)) (F_law15_opened : Int → Int → T_law17_Caps → Option (T_api_Conn × Bool)) : Ev.Env := Ev.Env.inl (Ew_law15_TcpTalks F_law15_alive F_tcp_Step F_law15_opened) MtTt [(30, s_law15_alive F_law15_alive), (35, s_tcp_Step F_tcp_Step)] 40 12
noncomputable def O_law15_TcpTalks (F_law15_alive : Bool) (F_tcp_Step : T_api_Conn → Int → T_r15_Segment → (T_api_Conn × Int)) (F_law15_opened : Int → Int → T_law17_Caps → Option (T_api_Conn × Bool)) : Ev.Orc := fun _ _ _ => none
noncomputable def L_law15_TcpTalks_7 (F_law15_alive : Bool) (F_tcp_Step : T_api_Conn → Int → T_r15_Segment → (T_api_Conn × Int)) (F_law15_opened : Int → Int → T_law17_Caps → Option (T_api_Conn × Bool)) (m : Nat)  (n_7 : Nat) (w1 : List Value) (w2 : Int) (w3 : Int) (w4 : Int) (w5 : Int) (w6 : Int) (w7 : Int) (w8 : Int) (w9 : Int) (w10 : Int) (w11 : Bool) (w12 : Bool) (w13 : Bool) (w14 : Bool) (w15 : Int) (w16 : Int) : Ev.Res := Ev.loopAtD (Es_law15_TcpTalks F_law15_alive F_tcp_Step F_law15_opened) MtTt (O_law15_TcpTalks F_law15_alive F_tcp_Step F_law15_opened) m 7 [1, 1, 1, 1, 1, 0, 1, 0] [] n_7 [none, none, none, none, none, none, none, some (Value.pointer (some (Addr.mk 0 0 none))), some (Value.pointer (some (Addr.mk 1 0 none))), none, some (Value.pointer (some (Addr.mk 2 0 none))), none, none, none, none, none, none, none, none, none, none, none, none, none, none, none, none, none, none, none, none, none, none, none, none, none, none, none, none, none, some (Value.iface 1 (Value.agg (Array.mk (Value.chan (some 0) :: w1)))), some (Value.int IntKind.i64 w2), some (Value.int IntKind.i64 w3), none, none, none, none, none, none, none, none, none, none, none, none, none, none, none, none, none, none, none, none, none, none, none, none, none, none, none, none, none, none, none, none, none, none, none, none, none, none, none, none, none, none, none, none, none, none, none, none, none, none, none, none, none, none, none, none, none, none, none, none, none, none, none, none, none, none, none, none, none, none, none, none, none, none, none, none, none, none, none, none, none, none, none, none, none, none, none, none] ⟨[Ev.Blk.cells [Value.int IntKind.i64 w4, Value.int IntKind.i64 w5], Ev.Blk.cells [Value.int IntKind.i64 w6, Value.int IntKind.u32 w7, Value.int IntKind.u32 w8, Value.int IntKind.u32 w9, Value.int IntKind.u32 w10, Value.bool w11, Value.bool w12, Value.bool w13, Value.bool w14], Ev.Blk.cells [Value.int IntKind.u32 w15, Value.int IntKind.u32 w16]], 0, []⟩
theorem lz_law15_TcpTalks_7 (F_law15_alive : Bool) (F_tcp_Step : T_api_Conn → Int → T_r15_Segment → (T_api_Conn × Int)) (F_law15_opened : Int → Int → T_law17_Caps → Option (T_api_Conn × Bool)) (m : Nat)  (w1 : List Value) (w2 : Int) (w3 : Int) (w4 : Int) (w5 : Int) (w6 : Int) (w7 : Int) (w8 : Int) (w9 : Int) (w10 : Int) (w11 : Bool) (w12 : Bool) (w13 : Bool) (w14 : Bool) (w15 : Int) (w16 : Int) : L_law15_TcpTalks_7 F_law15_alive F_tcp_Step F_law15_opened m 0 w1 w2 w3 w4 w5 w6 w7 w8 w9 w10 w11 w12 w13 w14 w15 w16 = none := by kernel_rfl
noncomputable def N_law15_TcpTalks_7 (F_law15_alive : Bool) (F_tcp_Step : T_api_Conn → Int → T_r15_Segment → (T_api_Conn × Int)) (F_law15_opened : Int → Int → T_law17_Caps → Option (T_api_Conn × Bool)) (m : Nat)  : Nat → (List Value) → Int → Int → Int → Int → Int → Int → Int → Int → Int → Bool → Bool → Bool → Bool → Int → Int → Option Bool
  | 0, _, _, _, _, _, _, _, _, _, _, _, _, _, _, _, _ => none
  | n_7 + 1, w1, w2, w3, w4, w5, w6, w7, w8, w9, w10, w11, w12, w13, w14, w15, w16 => bif Ev.ltI w3 w2 then bif true && (decide (0 ≤ w3) && decide (w3 < (↑(Ev.dlen 1 w1) : Int))) then bif true && Ev.okD [(Ev.Kd.int IntKind.u16, 0)] w1 (Int.toNat w3 * 1) then bif Ev.bitsOp BinOp.and IntKind.i64 w3 1 == 0 then bif (F_tcp_Step (T_api_Conn.mk w6 w7 w8 w9 w10 w11 w12 w13 w14) 0 (T_r15_Segment.mk 16 w4 (Int.tmod (IntKind.wrap IntKind.i64 (Ev.uI (Ev.nthC w1 (Int.toNat w3 * 1)))) 10000) w15 w16)).snd != 0 then some false else bif (F_tcp_Step (T_api_Conn.mk w6 w7 w8 w9 w10 w11 w12 w13 w14) 0 (T_r15_Segment.mk 16 w4 (Int.tmod (IntKind.wrap IntKind.i64 (Ev.uI (Ev.nthC w1 (Int.toNat w3 * 1)))) 10000) w15 w16)).fst.State != 3 then some false else bif !((F_tcp_Step (T_api_Conn.mk w6 w7 w8 w9 w10 w11 w12 w13 w14) 0 (T_r15_Segment.mk 16 w4 (Int.tmod (IntKind.wrap IntKind.i64 (Ev.uI (Ev.nthC w1 (Int.toNat w3 * 1)))) 10000) w15 w16)).fst.Next_c0 == IntKind.wrap IntKind.u32 (w15 + IntKind.wrap IntKind.u32 (Int.tmod (IntKind.wrap IntKind.i64 (Ev.uI (Ev.nthC w1 (Int.toNat w3 * 1)))) 10000)) && ((F_tcp_Step (T_api_Conn.mk w6 w7 w8 w9 w10 w11 w12 w13 w14) 0 (T_r15_Segment.mk 16 w4 (Int.tmod (IntKind.wrap IntKind.i64 (Ev.uI (Ev.nthC w1 (Int.toNat w3 * 1)))) 10000) w15 w16)).fst.Next_c1 == w16 && true)) then some false else N_law15_TcpTalks_7 F_law15_alive F_tcp_Step F_law15_opened m n_7 w1 w2 (IntKind.wrap IntKind.i64 (w3 + 1)) w4 w5 (F_tcp_Step (T_api_Conn.mk w6 w7 w8 w9 w10 w11 w12 w13 w14) 0 (T_r15_Segment.mk 16 w4 (Int.tmod (IntKind.wrap IntKind.i64 (Ev.uI (Ev.nthC w1 (Int.toNat w3 * 1)))) 10000) w15 w16)).fst.State (F_tcp_Step (T_api_Conn.mk w6 w7 w8 w9 w10 w11 w12 w13 w14) 0 (T_r15_Segment.mk 16 w4 (Int.tmod (IntKind.wrap IntKind.i64 (Ev.uI (Ev.nthC w1 (Int.toNat w3 * 1)))) 10000) w15 w16)).fst.Next_c0 (F_tcp_Step (T_api_Conn.mk w6 w7 w8 w9 w10 w11 w12 w13 w14) 0 (T_r15_Segment.mk 16 w4 (Int.tmod (IntKind.wrap IntKind.i64 (Ev.uI (Ev.nthC w1 (Int.toNat w3 * 1)))) 10000) w15 w16)).fst.Next_c1 (F_tcp_Step (T_api_Conn.mk w6 w7 w8 w9 w10 w11 w12 w13 w14) 0 (T_r15_Segment.mk 16 w4 (Int.tmod (IntKind.wrap IntKind.i64 (Ev.uI (Ev.nthC w1 (Int.toNat w3 * 1)))) 10000) w15 w16)).fst.Edge_c0 (F_tcp_Step (T_api_Conn.mk w6 w7 w8 w9 w10 w11 w12 w13 w14) 0 (T_r15_Segment.mk 16 w4 (Int.tmod (IntKind.wrap IntKind.i64 (Ev.uI (Ev.nthC w1 (Int.toNat w3 * 1)))) 10000) w15 w16)).fst.Edge_c1 (F_tcp_Step (T_api_Conn.mk w6 w7 w8 w9 w10 w11 w12 w13 w14) 0 (T_r15_Segment.mk 16 w4 (Int.tmod (IntKind.wrap IntKind.i64 (Ev.uI (Ev.nthC w1 (Int.toNat w3 * 1)))) 10000) w15 w16)).fst.Known_c0 (F_tcp_Step (T_api_Conn.mk w6 w7 w8 w9 w10 w11 w12 w13 w14) 0 (T_r15_Segment.mk 16 w4 (Int.tmod (IntKind.wrap IntKind.i64 (Ev.uI (Ev.nthC w1 (Int.toNat w3 * 1)))) 10000) w15 w16)).fst.Known_c1 (F_tcp_Step (T_api_Conn.mk w6 w7 w8 w9 w10 w11 w12 w13 w14) 0 (T_r15_Segment.mk 16 w4 (Int.tmod (IntKind.wrap IntKind.i64 (Ev.uI (Ev.nthC w1 (Int.toNat w3 * 1)))) 10000) w15 w16)).fst.Ended_c0 (F_tcp_Step (T_api_Conn.mk w6 w7 w8 w9 w10 w11 w12 w13 w14) 0 (T_r15_Segment.mk 16 w4 (Int.tmod (IntKind.wrap IntKind.i64 (Ev.uI (Ev.nthC w1 (Int.toNat w3 * 1)))) 10000) w15 w16)).fst.Ended_c1 (IntKind.wrap IntKind.u32 (w15 + IntKind.wrap IntKind.u32 (Int.tmod (IntKind.wrap IntKind.i64 (Ev.uI (Ev.nthC w1 (Int.toNat w3 * 1)))) 10000))) w16 else bif Ev.bitsOp BinOp.and IntKind.i64 w3 1 == 1 then bif (F_tcp_Step (T_api_Conn.mk w6 w7 w8 w9 w10 w11 w12 w13 w14) 1 (T_r15_Segment.mk 16 w5 (Int.tmod (IntKind.wrap IntKind.i64 (Ev.uI (Ev.nthC w1 (Int.toNat w3 * 1)))) 10000) w16 w15)).snd != 0 then some false else bif (F_tcp_Step (T_api_Conn.mk w6 w7 w8 w9 w10 w11 w12 w13 w14) 1 (T_r15_Segment.mk 16 w5 (Int.tmod (IntKind.wrap IntKind.i64 (Ev.uI (Ev.nthC w1 (Int.toNat w3 * 1)))) 10000) w16 w15)).fst.State != 3 then some false else bif !((F_tcp_Step (T_api_Conn.mk w6 w7 w8 w9 w10 w11 w12 w13 w14) 1 (T_r15_Segment.mk 16 w5 (Int.tmod (IntKind.wrap IntKind.i64 (Ev.uI (Ev.nthC w1 (Int.toNat w3 * 1)))) 10000) w16 w15)).fst.Next_c0 == w15 && ((F_tcp_Step (T_api_Conn.mk w6 w7 w8 w9 w10 w11 w12 w13 w14) 1 (T_r15_Segment.mk 16 w5 (Int.tmod (IntKind.wrap IntKind.i64 (Ev.uI (Ev.nthC w1 (Int.toNat w3 * 1)))) 10000) w16 w15)).fst.Next_c1 == IntKind.wrap IntKind.u32 (w16 + IntKind.wrap IntKind.u32 (Int.tmod (IntKind.wrap IntKind.i64 (Ev.uI (Ev.nthC w1 (Int.toNat w3 * 1)))) 10000)) && true)) then some false else N_law15_TcpTalks_7 F_law15_alive F_tcp_Step F_law15_opened m n_7 w1 w2 (IntKind.wrap IntKind.i64 (w3 + 1)) w4 w5 (F_tcp_Step (T_api_Conn.mk w6 w7 w8 w9 w10 w11 w12 w13 w14) 1 (T_r15_Segment.mk 16 w5 (Int.tmod (IntKind.wrap IntKind.i64 (Ev.uI (Ev.nthC w1 (Int.toNat w3 * 1)))) 10000) w16 w15)).fst.State (F_tcp_Step (T_api_Conn.mk w6 w7 w8 w9 w10 w11 w12 w13 w14) 1 (T_r15_Segment.mk 16 w5 (Int.tmod (IntKind.wrap IntKind.i64 (Ev.uI (Ev.nthC w1 (Int.toNat w3 * 1)))) 10000) w16 w15)).fst.Next_c0 (F_tcp_Step (T_api_Conn.mk w6 w7 w8 w9 w10 w11 w12 w13 w14) 1 (T_r15_Segment.mk 16 w5 (Int.tmod (IntKind.wrap IntKind.i64 (Ev.uI (Ev.nthC w1 (Int.toNat w3 * 1)))) 10000) w16 w15)).fst.Next_c1 (F_tcp_Step (T_api_Conn.mk w6 w7 w8 w9 w10 w11 w12 w13 w14) 1 (T_r15_Segment.mk 16 w5 (Int.tmod (IntKind.wrap IntKind.i64 (Ev.uI (Ev.nthC w1 (Int.toNat w3 * 1)))) 10000) w16 w15)).fst.Edge_c0 (F_tcp_Step (T_api_Conn.mk w6 w7 w8 w9 w10 w11 w12 w13 w14) 1 (T_r15_Segment.mk 16 w5 (Int.tmod (IntKind.wrap IntKind.i64 (Ev.uI (Ev.nthC w1 (Int.toNat w3 * 1)))) 10000) w16 w15)).fst.Edge_c1 (F_tcp_Step (T_api_Conn.mk w6 w7 w8 w9 w10 w11 w12 w13 w14) 1 (T_r15_Segment.mk 16 w5 (Int.tmod (IntKind.wrap IntKind.i64 (Ev.uI (Ev.nthC w1 (Int.toNat w3 * 1)))) 10000) w16 w15)).fst.Known_c0 (F_tcp_Step (T_api_Conn.mk w6 w7 w8 w9 w10 w11 w12 w13 w14) 1 (T_r15_Segment.mk 16 w5 (Int.tmod (IntKind.wrap IntKind.i64 (Ev.uI (Ev.nthC w1 (Int.toNat w3 * 1)))) 10000) w16 w15)).fst.Known_c1 (F_tcp_Step (T_api_Conn.mk w6 w7 w8 w9 w10 w11 w12 w13 w14) 1 (T_r15_Segment.mk 16 w5 (Int.tmod (IntKind.wrap IntKind.i64 (Ev.uI (Ev.nthC w1 (Int.toNat w3 * 1)))) 10000) w16 w15)).fst.Ended_c0 (F_tcp_Step (T_api_Conn.mk w6 w7 w8 w9 w10 w11 w12 w13 w14) 1 (T_r15_Segment.mk 16 w5 (Int.tmod (IntKind.wrap IntKind.i64 (Ev.uI (Ev.nthC w1 (Int.toNat w3 * 1)))) 10000) w16 w15)).fst.Ended_c1 w15 (IntKind.wrap IntKind.u32 (w16 + IntKind.wrap IntKind.u32 (Int.tmod (IntKind.wrap IntKind.i64 (Ev.uI (Ev.nthC w1 (Int.toNat w3 * 1)))) 10000))) else none else none else none else bif (F_tcp_Step (T_api_Conn.mk w6 w7 w8 w9 w10 w11 w12 w13 w14) 0 (T_r15_Segment.mk 17 w4 0 w15 w16)).snd == 0 then bif (F_tcp_Step (T_api_Conn.mk w6 w7 w8 w9 w10 w11 w12 w13 w14) 0 (T_r15_Segment.mk 17 w4 0 w15 w16)).fst.State == 4 then bif (F_tcp_Step (F_tcp_Step (T_api_Conn.mk w6 w7 w8 w9 w10 w11 w12 w13 w14) 0 (T_r15_Segment.mk 17 w4 0 w15 w16)).fst 1 (T_r15_Segment.mk 17 w5 0 w16 (IntKind.wrap IntKind.u32 (w15 + 1)))).snd == 0 then some ((F_tcp_Step (F_tcp_Step (T_api_Conn.mk w6 w7 w8 w9 w10 w11 w12 w13 w14) 0 (T_r15_Segment.mk 17 w4 0 w15 w16)).fst 1 (T_r15_Segment.mk 17 w5 0 w16 (IntKind.wrap IntKind.u32 (w15 + 1)))).fst.State == 5) else some false else some false else some false
theorem pl_law15_TcpTalks_7 (F_law15_alive : Bool) (F_tcp_Step : T_api_Conn → Int → T_r15_Segment → (T_api_Conn × Int)) (F_law15_opened : Int → Int → T_law17_Caps → Option (T_api_Conn × Bool)) (m : Nat)    : ∀ (n_7 : Nat) (w1 : List Value) (w2 : Int) (w3 : Int) (w4 : Int) (w5 : Int) (w6 : Int) (w7 : Int) (w8 : Int) (w9 : Int) (w10 : Int) (w11 : Bool) (w12 : Bool) (w13 : Bool) (w14 : Bool) (w15 : Int) (w16 : Int), L_law15_TcpTalks_7 F_law15_alive F_tcp_Step F_law15_opened m n_7 w1 w2 w3 w4 w5 w6 w7 w8 w9 w10 w11 w12 w13 w14 w15 w16 = Ev.oE E_law15_TcpTalks (N_law15_TcpTalks_7 F_law15_alive F_tcp_Step F_law15_opened m n_7 w1 w2 w3 w4 w5 w6 w7 w8 w9 w10 w11 w12 w13 w14 w15 w16) := by
  intro n_7
  induction n_7 with
  | zero => intro w1 w2 w3 w4 w5 w6 w7 w8 w9 w10 w11 w12 w13 w14 w15 w16; rw [lz_law15_TcpTalks_7]; rfl
  | succ n_7 ih =>
    intro w1 w2 w3 w4 w5 w6 w7 w8 w9 w10 w11 w12 w13 w14 w15 w16
    simp only [N_law15_TcpTalks_7, Ev.oE_some, Ev.oE_none, Ev.oE_cond, Ev.oE_bnd, ← ih]
    kernel_rfl
noncomputable def N_law15_TcpTalks (F_law15_alive : Bool) (F_tcp_Step : T_api_Conn → Int → T_r15_Segment → (T_api_Conn × Int)) (F_law15_opened : Int → Int → T_law17_Caps → Option (T_api_Conn × Bool)) (m : Nat) (x0 : Int) (x1 : Int) (x2 : List Value) : Option Bool := Ev.bnd (F_law15_opened x0 x1 (T_law17_Caps.mk 20000 30000)) fun v0 => bif !v0.snd then some false else bif !F_law15_alive then some false else N_law15_TcpTalks_7 F_law15_alive F_tcp_Step F_law15_opened m m x2 (↑(Ev.dlen 1 x2) : Int) 0 20000 30000 v0.fst.State v0.fst.Next_c0 v0.fst.Next_c1 v0.fst.Edge_c0 v0.fst.Edge_c1 v0.fst.Known_c0 v0.fst.Known_c1 v0.fst.Ended_c0 v0.fst.Ended_c1 (IntKind.wrap IntKind.u32 (x0 + 1)) (IntKind.wrap IntKind.u32 (x1 + 1))
theorem pr_law15_TcpTalks (F_law15_alive : Bool) (F_tcp_Step : T_api_Conn → Int → T_r15_Segment → (T_api_Conn × Int)) (F_law15_opened : Int → Int → T_law17_Caps → Option (T_api_Conn × Bool)) (m : Nat) (x0 : Int) (x1 : Int) (x2 : List Value) : Ev.evBodyD (Es_law15_TcpTalks F_law15_alive F_tcp_Step F_law15_opened) MtTt (O_law15_TcpTalks F_law15_alive F_tcp_Step F_law15_opened) m 7 [.int .u32 x0, .int .u32 x1, Ev.dS 1 x2] = Ev.oE E_law15_TcpTalks (N_law15_TcpTalks F_law15_alive F_tcp_Step F_law15_opened m x0 x1 x2) := by
  simp only [N_law15_TcpTalks, Ev.oE_some, Ev.oE_none, Ev.oE_cond, Ev.oE_bnd, ← pl_law15_TcpTalks_7 F_law15_alive F_tcp_Step F_law15_opened m]
  kernel_rfl
noncomputable def F_law15_TcpTalks : Int → Int → (List Value) → Option Bool := fun x0 x1 x2 => Ev.lim fun m => N_law15_TcpTalks F_law15_alive F_tcp_Step F_law15_opened m x0 x1 x2
theorem ok_law15_TcpTalks : Ev.EnvOk (Ew_law15_TcpTalks F_law15_alive F_tcp_Step F_law15_opened) := Ev.envOk_with envOkd (Ev.SpsOk.add (b := false) g_law15_opened (by kernel_rfl) Ev.SpsOk.nil)
theorem ro_law15_TcpTalks (F_law15_alive : Bool) (F_tcp_Step : T_api_Conn → Int → T_r15_Segment → (T_api_Conn × Int)) (F_law15_opened : Int → Int → T_law17_Caps → Option (T_api_Conn × Bool)) : Ev.SpecRl (Ew_law15_TcpTalks F_law15_alive F_tcp_Step F_law15_opened) := Ev.specRl_with rfl (Ev.SpsRl.cons (rs_law15_opened _) Ev.SpsRl.nil)
theorem g_law15_TcpTalks : Ev.SpOk Try.prog false 7 (s_law15_TcpTalks F_law15_TcpTalks) := by
  refine Ev.SpOk.mkF fun vs k r g0 => ?_
  unfold s_law15_TcpTalks at g0
  obtain ⟨a0, r0, rfl, g1⟩ := Ev.kU_ok g0
  obtain ⟨a1, r1, rfl, g2⟩ := Ev.kU_ok g1
  obtain ⟨a2, r2, rfl, g3⟩ := Ev.kU_ok g2
  obtain ⟨rfl, g4⟩ := Ev.kE_ok g3
  obtain ⟨x0, rfl, g5⟩ := Ev.gI_ok g4
  obtain ⟨x1, rfl, g6⟩ := Ev.gI_ok g5
  obtain ⟨x2, rfl, g7⟩ := Ev.kL_ok g6
  obtain ⟨x, hx, h⟩ := Ev.bnd_get g7
  obtain ⟨m, hm⟩ := Ev.lim_some hx
  have h1 := pr_law15_TcpTalks F_law15_alive F_tcp_Step F_law15_opened m x0 x1 x2
  rw [hm] at h1
  exact ⟨_, h, Ev.good_of_inl ok_law15_TcpTalks (ro_law15_TcpTalks F_law15_alive F_tcp_Step F_law15_opened) rfl rfl (Ev.TabOk.cons g_law15_alive (Ev.TabOk.cons g_tcp_Step Ev.TabOk.nil)) 40 12 _ h1⟩
end Go.Proofs.Yteljeekapcenlaa
