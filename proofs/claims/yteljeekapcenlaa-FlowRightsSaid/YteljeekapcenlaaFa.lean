/-
  Functions of the seat's program, printed by a program of ours: what each comes to, and that it is so. No conditions.
-/
import Derived.Test.YteljeekapcenlaaTa
namespace Go.Proofs.Yteljeekapcenlaa
open Go
set_option linter.unusedVariables false
set_option linter.unusedSimpArgs false
@[ext] structure T_api_Addr where
  Fam : Int
  Hi : Int
  Lo : Int
noncomputable def c_api_Addr (x : T_api_Addr) : List Value := [.int .i64 x.Fam, .int .u64 x.Hi, .int .u64 x.Lo]
noncomputable def v_api_Addr (x : T_api_Addr) : Value := .agg ⟨[.int .i64 x.Fam, .int .u64 x.Hi, .int .u64 x.Lo]⟩
noncomputable def u_api_Addr (v : Value) : T_api_Addr := match v with | .agg ⟨[a0, a1, a2]⟩ => ⟨Ev.uI a0, Ev.uI a1, Ev.uI a2⟩ | _ => ⟨0, 0, 0⟩
noncomputable def d_api_Addr (v : Value) (c : T_api_Addr → Ev.Res) : Ev.Res := match v with | .agg ⟨[a0, a1, a2]⟩ => Ev.gI .i64 a0 fun b0 => Ev.gI .u64 a1 fun b1 => Ev.gI .u64 a2 fun b2 => c ⟨b0, b1, b2⟩ | _ => none
theorem d_api_Addr_ok {v : Value} {c : T_api_Addr → Ev.Res} {r : Value × Ev.AH} (h : d_api_Addr v c = some r) : ∃ x, v = v_api_Addr x ∧ c x = some r := by
  unfold d_api_Addr at h
  split at h
  · obtain ⟨b0, rfl, h0⟩ := Ev.gI_ok h
    obtain ⟨b1, rfl, h1⟩ := Ev.gI_ok h0
    obtain ⟨b2, rfl, h2⟩ := Ev.gI_ok h1
    exact ⟨⟨b0, b1, b2⟩, rfl, h2⟩
  · cases h
@[ext] structure T_api_Tuple where
  Fam : Int
  Proto : Int
  Src_Fam : Int
  Src_Hi : Int
  Src_Lo : Int
  Dst_Fam : Int
  Dst_Hi : Int
  Dst_Lo : Int
  Sport : Int
  Dport : Int
noncomputable def c_api_Tuple (x : T_api_Tuple) : List Value := [.int .i64 x.Fam, .int .i64 x.Proto, .int .i64 x.Src_Fam, .int .u64 x.Src_Hi, .int .u64 x.Src_Lo, .int .i64 x.Dst_Fam, .int .u64 x.Dst_Hi, .int .u64 x.Dst_Lo, .int .i64 x.Sport, .int .i64 x.Dport]
noncomputable def v_api_Tuple (x : T_api_Tuple) : Value := .agg ⟨[.int .i64 x.Fam, .int .i64 x.Proto, .int .i64 x.Src_Fam, .int .u64 x.Src_Hi, .int .u64 x.Src_Lo, .int .i64 x.Dst_Fam, .int .u64 x.Dst_Hi, .int .u64 x.Dst_Lo, .int .i64 x.Sport, .int .i64 x.Dport]⟩
noncomputable def u_api_Tuple (v : Value) : T_api_Tuple := match v with | .agg ⟨[a0, a1, a2, a3, a4, a5, a6, a7, a8, a9]⟩ => ⟨Ev.uI a0, Ev.uI a1, Ev.uI a2, Ev.uI a3, Ev.uI a4, Ev.uI a5, Ev.uI a6, Ev.uI a7, Ev.uI a8, Ev.uI a9⟩ | _ => ⟨0, 0, 0, 0, 0, 0, 0, 0, 0, 0⟩
noncomputable def d_api_Tuple (v : Value) (c : T_api_Tuple → Ev.Res) : Ev.Res := match v with | .agg ⟨[a0, a1, a2, a3, a4, a5, a6, a7, a8, a9]⟩ => Ev.gI .i64 a0 fun b0 => Ev.gI .i64 a1 fun b1 => Ev.gI .i64 a2 fun b2 => Ev.gI .u64 a3 fun b3 => Ev.gI .u64 a4 fun b4 => Ev.gI .i64 a5 fun b5 => Ev.gI .u64 a6 fun b6 => Ev.gI .u64 a7 fun b7 => Ev.gI .i64 a8 fun b8 => Ev.gI .i64 a9 fun b9 => c ⟨b0, b1, b2, b3, b4, b5, b6, b7, b8, b9⟩ | _ => none
theorem d_api_Tuple_ok {v : Value} {c : T_api_Tuple → Ev.Res} {r : Value × Ev.AH} (h : d_api_Tuple v c = some r) : ∃ x, v = v_api_Tuple x ∧ c x = some r := by
  unfold d_api_Tuple at h
  split at h
  · obtain ⟨b0, rfl, h0⟩ := Ev.gI_ok h
    obtain ⟨b1, rfl, h1⟩ := Ev.gI_ok h0
    obtain ⟨b2, rfl, h2⟩ := Ev.gI_ok h1
    obtain ⟨b3, rfl, h3⟩ := Ev.gI_ok h2
    obtain ⟨b4, rfl, h4⟩ := Ev.gI_ok h3
    obtain ⟨b5, rfl, h5⟩ := Ev.gI_ok h4
    obtain ⟨b6, rfl, h6⟩ := Ev.gI_ok h5
    obtain ⟨b7, rfl, h7⟩ := Ev.gI_ok h6
    obtain ⟨b8, rfl, h8⟩ := Ev.gI_ok h7
    obtain ⟨b9, rfl, h9⟩ := Ev.gI_ok h8
    exact ⟨⟨b0, b1, b2, b3, b4, b5, b6, b7, b8, b9⟩, rfl, h9⟩
  · cases h
@[ext] structure T_api_Flow where
  Tuple_Fam : Int
  Tuple_Proto : Int
  Tuple_Src_Fam : Int
  Tuple_Src_Hi : Int
  Tuple_Src_Lo : Int
  Tuple_Dst_Fam : Int
  Tuple_Dst_Hi : Int
  Tuple_Dst_Lo : Int
  Tuple_Sport : Int
  Tuple_Dport : Int
  Conn_State : Int
  Conn_Next_c0 : Int
  Conn_Next_c1 : Int
  Conn_Edge_c0 : Int
  Conn_Edge_c1 : Int
  Conn_Known_c0 : Bool
  Conn_Known_c1 : Bool
  Conn_Ended_c0 : Bool
  Conn_Ended_c1 : Bool
  Ends : Int
  Help : Int
  Both : Bool
noncomputable def c_api_Flow (x : T_api_Flow) : List Value := [.int .i64 x.Tuple_Fam, .int .i64 x.Tuple_Proto, .int .i64 x.Tuple_Src_Fam, .int .u64 x.Tuple_Src_Hi, .int .u64 x.Tuple_Src_Lo, .int .i64 x.Tuple_Dst_Fam, .int .u64 x.Tuple_Dst_Hi, .int .u64 x.Tuple_Dst_Lo, .int .i64 x.Tuple_Sport, .int .i64 x.Tuple_Dport, .int .i64 x.Conn_State, .int .u32 x.Conn_Next_c0, .int .u32 x.Conn_Next_c1, .int .u32 x.Conn_Edge_c0, .int .u32 x.Conn_Edge_c1, .bool x.Conn_Known_c0, .bool x.Conn_Known_c1, .bool x.Conn_Ended_c0, .bool x.Conn_Ended_c1, .int .i64 x.Ends, .int .i64 x.Help, .bool x.Both]
noncomputable def v_api_Flow (x : T_api_Flow) : Value := .agg ⟨[.int .i64 x.Tuple_Fam, .int .i64 x.Tuple_Proto, .int .i64 x.Tuple_Src_Fam, .int .u64 x.Tuple_Src_Hi, .int .u64 x.Tuple_Src_Lo, .int .i64 x.Tuple_Dst_Fam, .int .u64 x.Tuple_Dst_Hi, .int .u64 x.Tuple_Dst_Lo, .int .i64 x.Tuple_Sport, .int .i64 x.Tuple_Dport, .int .i64 x.Conn_State, .int .u32 x.Conn_Next_c0, .int .u32 x.Conn_Next_c1, .int .u32 x.Conn_Edge_c0, .int .u32 x.Conn_Edge_c1, .bool x.Conn_Known_c0, .bool x.Conn_Known_c1, .bool x.Conn_Ended_c0, .bool x.Conn_Ended_c1, .int .i64 x.Ends, .int .i64 x.Help, .bool x.Both]⟩
noncomputable def u_api_Flow (v : Value) : T_api_Flow := match v with | .agg ⟨[a0, a1, a2, a3, a4, a5, a6, a7, a8, a9, a10, a11, a12, a13, a14, a15, a16, a17, a18, a19, a20, a21]⟩ => ⟨Ev.uI a0, Ev.uI a1, Ev.uI a2, Ev.uI a3, Ev.uI a4, Ev.uI a5, Ev.uI a6, Ev.uI a7, Ev.uI a8, Ev.uI a9, Ev.uI a10, Ev.uI a11, Ev.uI a12, Ev.uI a13, Ev.uI a14, Ev.uB a15, Ev.uB a16, Ev.uB a17, Ev.uB a18, Ev.uI a19, Ev.uI a20, Ev.uB a21⟩ | _ => ⟨0, 0, 0, 0, 0, 0, 0, 0, 0, 0, 0, 0, 0, 0, 0, false, false, false, false, 0, 0, false⟩
noncomputable def d_api_Flow (v : Value) (c : T_api_Flow → Ev.Res) : Ev.Res := match v with | .agg ⟨[a0, a1, a2, a3, a4, a5, a6, a7, a8, a9, a10, a11, a12, a13, a14, a15, a16, a17, a18, a19, a20, a21]⟩ => Ev.gI .i64 a0 fun b0 => Ev.gI .i64 a1 fun b1 => Ev.gI .i64 a2 fun b2 => Ev.gI .u64 a3 fun b3 => Ev.gI .u64 a4 fun b4 => Ev.gI .i64 a5 fun b5 => Ev.gI .u64 a6 fun b6 => Ev.gI .u64 a7 fun b7 => Ev.gI .i64 a8 fun b8 => Ev.gI .i64 a9 fun b9 => Ev.gI .i64 a10 fun b10 => Ev.gI .u32 a11 fun b11 => Ev.gI .u32 a12 fun b12 => Ev.gI .u32 a13 fun b13 => Ev.gI .u32 a14 fun b14 => Ev.gB a15 fun b15 => Ev.gB a16 fun b16 => Ev.gB a17 fun b17 => Ev.gB a18 fun b18 => Ev.gI .i64 a19 fun b19 => Ev.gI .i64 a20 fun b20 => Ev.gB a21 fun b21 => c ⟨b0, b1, b2, b3, b4, b5, b6, b7, b8, b9, b10, b11, b12, b13, b14, b15, b16, b17, b18, b19, b20, b21⟩ | _ => none
theorem d_api_Flow_ok {v : Value} {c : T_api_Flow → Ev.Res} {r : Value × Ev.AH} (h : d_api_Flow v c = some r) : ∃ x, v = v_api_Flow x ∧ c x = some r := by
  unfold d_api_Flow at h
  split at h
  · obtain ⟨b0, rfl, h0⟩ := Ev.gI_ok h
    obtain ⟨b1, rfl, h1⟩ := Ev.gI_ok h0
    obtain ⟨b2, rfl, h2⟩ := Ev.gI_ok h1
    obtain ⟨b3, rfl, h3⟩ := Ev.gI_ok h2
    obtain ⟨b4, rfl, h4⟩ := Ev.gI_ok h3
    obtain ⟨b5, rfl, h5⟩ := Ev.gI_ok h4
    obtain ⟨b6, rfl, h6⟩ := Ev.gI_ok h5
    obtain ⟨b7, rfl, h7⟩ := Ev.gI_ok h6
    obtain ⟨b8, rfl, h8⟩ := Ev.gI_ok h7
    obtain ⟨b9, rfl, h9⟩ := Ev.gI_ok h8
    obtain ⟨b10, rfl, h10⟩ := Ev.gI_ok h9
    obtain ⟨b11, rfl, h11⟩ := Ev.gI_ok h10
    obtain ⟨b12, rfl, h12⟩ := Ev.gI_ok h11
    obtain ⟨b13, rfl, h13⟩ := Ev.gI_ok h12
    obtain ⟨b14, rfl, h14⟩ := Ev.gI_ok h13
    obtain ⟨b15, rfl, h15⟩ := Ev.gB_ok h14
    obtain ⟨b16, rfl, h16⟩ := Ev.gB_ok h15
    obtain ⟨b17, rfl, h17⟩ := Ev.gB_ok h16
    obtain ⟨b18, rfl, h18⟩ := Ev.gB_ok h17
    obtain ⟨b19, rfl, h19⟩ := Ev.gI_ok h18
    obtain ⟨b20, rfl, h20⟩ := Ev.gI_ok h19
    obtain ⟨b21, rfl, h21⟩ := Ev.gB_ok h20
    exact ⟨⟨b0, b1, b2, b3, b4, b5, b6, b7, b8, b9, b10, b11, b12, b13, b14, b15, b16, b17, b18, b19, b20, b21⟩, rfl, h21⟩
  · cases h
@[ext] structure D_api_Seg where
  Tuple_Fam : Int
  Tuple_Proto : Int
  Tuple_Src_Fam : Int
  Tuple_Src_Hi : Int
  Tuple_Src_Lo : Int
  Tuple_Dst_Fam : Int
  Tuple_Dst_Hi : Int
  Tuple_Dst_Lo : Int
  Tuple_Sport : Int
  Tuple_Dport : Int
  Flags : Int
  Seq : Int
  Ack : Int
  Win : Int
  Type_ : Int
  Code : Int
  Err : Bool
  Inner_Fam : Int
  Inner_Proto : Int
  Inner_Src_Fam : Int
  Inner_Src_Hi : Int
  Inner_Src_Lo : Int
  Inner_Dst_Fam : Int
  Inner_Dst_Hi : Int
  Inner_Dst_Lo : Int
  Inner_Sport : Int
  Inner_Dport : Int
  Data : List Value
noncomputable def c_api_Seg (x : D_api_Seg) : List Value := [.int .i64 x.Tuple_Fam, .int .i64 x.Tuple_Proto, .int .i64 x.Tuple_Src_Fam, .int .u64 x.Tuple_Src_Hi, .int .u64 x.Tuple_Src_Lo, .int .i64 x.Tuple_Dst_Fam, .int .u64 x.Tuple_Dst_Hi, .int .u64 x.Tuple_Dst_Lo, .int .i64 x.Tuple_Sport, .int .i64 x.Tuple_Dport, .int .i64 x.Flags, .int .u32 x.Seq, .int .u32 x.Ack, .int .i64 x.Win, .int .i64 x.Type_, .int .i64 x.Code, .bool x.Err, .int .i64 x.Inner_Fam, .int .i64 x.Inner_Proto, .int .i64 x.Inner_Src_Fam, .int .u64 x.Inner_Src_Hi, .int .u64 x.Inner_Src_Lo, .int .i64 x.Inner_Dst_Fam, .int .u64 x.Inner_Dst_Hi, .int .u64 x.Inner_Dst_Lo, .int .i64 x.Inner_Sport, .int .i64 x.Inner_Dport, Ev.dS 1 x.Data]
noncomputable def v_api_Seg (x : D_api_Seg) : Value := .agg ⟨[.int .i64 x.Tuple_Fam, .int .i64 x.Tuple_Proto, .int .i64 x.Tuple_Src_Fam, .int .u64 x.Tuple_Src_Hi, .int .u64 x.Tuple_Src_Lo, .int .i64 x.Tuple_Dst_Fam, .int .u64 x.Tuple_Dst_Hi, .int .u64 x.Tuple_Dst_Lo, .int .i64 x.Tuple_Sport, .int .i64 x.Tuple_Dport, .int .i64 x.Flags, .int .u32 x.Seq, .int .u32 x.Ack, .int .i64 x.Win, .int .i64 x.Type_, .int .i64 x.Code, .bool x.Err, .int .i64 x.Inner_Fam, .int .i64 x.Inner_Proto, .int .i64 x.Inner_Src_Fam, .int .u64 x.Inner_Src_Hi, .int .u64 x.Inner_Src_Lo, .int .i64 x.Inner_Dst_Fam, .int .u64 x.Inner_Dst_Hi, .int .u64 x.Inner_Dst_Lo, .int .i64 x.Inner_Sport, .int .i64 x.Inner_Dport, Ev.dS 1 x.Data]⟩
noncomputable def u_api_Seg (v : Value) : D_api_Seg := match v with | .agg ⟨[a0, a1, a2, a3, a4, a5, a6, a7, a8, a9, a10, a11, a12, a13, a14, a15, a16, a17, a18, a19, a20, a21, a22, a23, a24, a25, a26, a27]⟩ => ⟨Ev.uI a0, Ev.uI a1, Ev.uI a2, Ev.uI a3, Ev.uI a4, Ev.uI a5, Ev.uI a6, Ev.uI a7, Ev.uI a8, Ev.uI a9, Ev.uI a10, Ev.uI a11, Ev.uI a12, Ev.uI a13, Ev.uI a14, Ev.uI a15, Ev.uB a16, Ev.uI a17, Ev.uI a18, Ev.uI a19, Ev.uI a20, Ev.uI a21, Ev.uI a22, Ev.uI a23, Ev.uI a24, Ev.uI a25, Ev.uI a26, Ev.uL a27⟩ | _ => ⟨0, 0, 0, 0, 0, 0, 0, 0, 0, 0, 0, 0, 0, 0, 0, 0, false, 0, 0, 0, 0, 0, 0, 0, 0, 0, 0, []⟩
noncomputable def d_api_Seg (v : Value) (c : D_api_Seg → Ev.Res) : Ev.Res := match v with | .agg ⟨[a0, a1, a2, a3, a4, a5, a6, a7, a8, a9, a10, a11, a12, a13, a14, a15, a16, a17, a18, a19, a20, a21, a22, a23, a24, a25, a26, a27]⟩ => Ev.gI .i64 a0 fun b0 => Ev.gI .i64 a1 fun b1 => Ev.gI .i64 a2 fun b2 => Ev.gI .u64 a3 fun b3 => Ev.gI .u64 a4 fun b4 => Ev.gI .i64 a5 fun b5 => Ev.gI .u64 a6 fun b6 => Ev.gI .u64 a7 fun b7 => Ev.gI .i64 a8 fun b8 => Ev.gI .i64 a9 fun b9 => Ev.gI .i64 a10 fun b10 => Ev.gI .u32 a11 fun b11 => Ev.gI .u32 a12 fun b12 => Ev.gI .i64 a13 fun b13 => Ev.gI .i64 a14 fun b14 => Ev.gI .i64 a15 fun b15 => Ev.gB a16 fun b16 => Ev.gI .i64 a17 fun b17 => Ev.gI .i64 a18 fun b18 => Ev.gI .i64 a19 fun b19 => Ev.gI .u64 a20 fun b20 => Ev.gI .u64 a21 fun b21 => Ev.gI .i64 a22 fun b22 => Ev.gI .u64 a23 fun b23 => Ev.gI .u64 a24 fun b24 => Ev.gI .i64 a25 fun b25 => Ev.gI .i64 a26 fun b26 => Ev.kL 1 a27 fun b27 => c ⟨b0, b1, b2, b3, b4, b5, b6, b7, b8, b9, b10, b11, b12, b13, b14, b15, b16, b17, b18, b19, b20, b21, b22, b23, b24, b25, b26, b27⟩ | _ => none
theorem d_api_Seg_ok {v : Value} {c : D_api_Seg → Ev.Res} {r : Value × Ev.AH} (h : d_api_Seg v c = some r) : ∃ x, v = v_api_Seg x ∧ c x = some r := by
  unfold d_api_Seg at h
  split at h
  · obtain ⟨b0, rfl, h0⟩ := Ev.gI_ok h
    obtain ⟨b1, rfl, h1⟩ := Ev.gI_ok h0
    obtain ⟨b2, rfl, h2⟩ := Ev.gI_ok h1
    obtain ⟨b3, rfl, h3⟩ := Ev.gI_ok h2
    obtain ⟨b4, rfl, h4⟩ := Ev.gI_ok h3
    obtain ⟨b5, rfl, h5⟩ := Ev.gI_ok h4
    obtain ⟨b6, rfl, h6⟩ := Ev.gI_ok h5
    obtain ⟨b7, rfl, h7⟩ := Ev.gI_ok h6
    obtain ⟨b8, rfl, h8⟩ := Ev.gI_ok h7
    obtain ⟨b9, rfl, h9⟩ := Ev.gI_ok h8
    obtain ⟨b10, rfl, h10⟩ := Ev.gI_ok h9
    obtain ⟨b11, rfl, h11⟩ := Ev.gI_ok h10
    obtain ⟨b12, rfl, h12⟩ := Ev.gI_ok h11
    obtain ⟨b13, rfl, h13⟩ := Ev.gI_ok h12
    obtain ⟨b14, rfl, h14⟩ := Ev.gI_ok h13
    obtain ⟨b15, rfl, h15⟩ := Ev.gI_ok h14
    obtain ⟨b16, rfl, h16⟩ := Ev.gB_ok h15
    obtain ⟨b17, rfl, h17⟩ := Ev.gI_ok h16
    obtain ⟨b18, rfl, h18⟩ := Ev.gI_ok h17
    obtain ⟨b19, rfl, h19⟩ := Ev.gI_ok h18
    obtain ⟨b20, rfl, h20⟩ := Ev.gI_ok h19
    obtain ⟨b21, rfl, h21⟩ := Ev.gI_ok h20
    obtain ⟨b22, rfl, h22⟩ := Ev.gI_ok h21
    obtain ⟨b23, rfl, h23⟩ := Ev.gI_ok h22
    obtain ⟨b24, rfl, h24⟩ := Ev.gI_ok h23
    obtain ⟨b25, rfl, h25⟩ := Ev.gI_ok h24
    obtain ⟨b26, rfl, h26⟩ := Ev.gI_ok h25
    obtain ⟨b27, rfl, h27⟩ := Ev.kL_ok h26
    exact ⟨⟨b0, b1, b2, b3, b4, b5, b6, b7, b8, b9, b10, b11, b12, b13, b14, b15, b16, b17, b18, b19, b20, b21, b22, b23, b24, b25, b26, b27⟩, rfl, h27⟩
  · cases h
theorem rl_d_api_Addr {S : (Value × Ev.AH) → Ev.Res → Prop} {v : Value} {c c2 : T_api_Addr → Ev.Res} (h : ∀ a, Ev.Rl S (c a) (c2 a)) : Ev.Rl S (d_api_Addr v c) (d_api_Addr v c2) := by
  unfold d_api_Addr
  split
  · refine Ev.rl_gI fun _ => ?_
    refine Ev.rl_gI fun _ => ?_
    refine Ev.rl_gI fun _ => ?_
    exact h _
  · exact Ev.Rl.none
theorem rl_d_api_Tuple {S : (Value × Ev.AH) → Ev.Res → Prop} {v : Value} {c c2 : T_api_Tuple → Ev.Res} (h : ∀ a, Ev.Rl S (c a) (c2 a)) : Ev.Rl S (d_api_Tuple v c) (d_api_Tuple v c2) := by
  unfold d_api_Tuple
  split
  · refine Ev.rl_gI fun _ => ?_
    refine Ev.rl_gI fun _ => ?_
    refine Ev.rl_gI fun _ => ?_
    refine Ev.rl_gI fun _ => ?_
    refine Ev.rl_gI fun _ => ?_
    refine Ev.rl_gI fun _ => ?_
    refine Ev.rl_gI fun _ => ?_
    refine Ev.rl_gI fun _ => ?_
    refine Ev.rl_gI fun _ => ?_
    refine Ev.rl_gI fun _ => ?_
    exact h _
  · exact Ev.Rl.none
theorem rl_d_api_Flow {S : (Value × Ev.AH) → Ev.Res → Prop} {v : Value} {c c2 : T_api_Flow → Ev.Res} (h : ∀ a, Ev.Rl S (c a) (c2 a)) : Ev.Rl S (d_api_Flow v c) (d_api_Flow v c2) := by
  unfold d_api_Flow
  split
  · refine Ev.rl_gI fun _ => ?_
    refine Ev.rl_gI fun _ => ?_
    refine Ev.rl_gI fun _ => ?_
    refine Ev.rl_gI fun _ => ?_
    refine Ev.rl_gI fun _ => ?_
    refine Ev.rl_gI fun _ => ?_
    refine Ev.rl_gI fun _ => ?_
    refine Ev.rl_gI fun _ => ?_
    refine Ev.rl_gI fun _ => ?_
    refine Ev.rl_gI fun _ => ?_
    refine Ev.rl_gI fun _ => ?_
    refine Ev.rl_gI fun _ => ?_
    refine Ev.rl_gI fun _ => ?_
    refine Ev.rl_gI fun _ => ?_
    refine Ev.rl_gI fun _ => ?_
    refine Ev.rl_gB fun _ => ?_
    refine Ev.rl_gB fun _ => ?_
    refine Ev.rl_gB fun _ => ?_
    refine Ev.rl_gB fun _ => ?_
    refine Ev.rl_gI fun _ => ?_
    refine Ev.rl_gI fun _ => ?_
    refine Ev.rl_gB fun _ => ?_
    exact h _
  · exact Ev.Rl.none
theorem rl_d_api_Seg {S : (Value × Ev.AH) → Ev.Res → Prop} {v : Value} {c c2 : D_api_Seg → Ev.Res} (h : ∀ a, Ev.Rl S (c a) (c2 a)) : Ev.Rl S (d_api_Seg v c) (d_api_Seg v c2) := by
  unfold d_api_Seg
  split
  · refine Ev.rl_gI fun _ => ?_
    refine Ev.rl_gI fun _ => ?_
    refine Ev.rl_gI fun _ => ?_
    refine Ev.rl_gI fun _ => ?_
    refine Ev.rl_gI fun _ => ?_
    refine Ev.rl_gI fun _ => ?_
    refine Ev.rl_gI fun _ => ?_
    refine Ev.rl_gI fun _ => ?_
    refine Ev.rl_gI fun _ => ?_
    refine Ev.rl_gI fun _ => ?_
    refine Ev.rl_gI fun _ => ?_
    refine Ev.rl_gI fun _ => ?_
    refine Ev.rl_gI fun _ => ?_
    refine Ev.rl_gI fun _ => ?_
    refine Ev.rl_gI fun _ => ?_
    refine Ev.rl_gI fun _ => ?_
    refine Ev.rl_gB fun _ => ?_
    refine Ev.rl_gI fun _ => ?_
    refine Ev.rl_gI fun _ => ?_
    refine Ev.rl_gI fun _ => ?_
    refine Ev.rl_gI fun _ => ?_
    refine Ev.rl_gI fun _ => ?_
    refine Ev.rl_gI fun _ => ?_
    refine Ev.rl_gI fun _ => ?_
    refine Ev.rl_gI fun _ => ?_
    refine Ev.rl_gI fun _ => ?_
    refine Ev.rl_gI fun _ => ?_
    refine Ev.rl_kL fun _ => ?_
    exact h _
  · exact Ev.Rl.none
noncomputable def MtFa : Ev.Mats := { slots := fun f i => [], cells := fun f i => [], own := fun f => false }
-- addr.Right
-- DEEP addr_Right 140 - T_api_Addr → Option Bool
noncomputable def e_addr_Right (x : Bool) : Value := .bool x
noncomputable def E_addr_Right (x : Bool) : Value × Ev.AH := (e_addr_Right x, ⟨[], 0, []⟩)
noncomputable def s_addr_Right (F : T_api_Addr → Option Bool) : Ev.Sp := fun vs k => Ev.kU vs fun a0 r0 => Ev.kE r0 <| d_api_Addr a0 fun x0 => Ev.bnd (F x0) fun x => k (e_addr_Right x)
theorem rs_addr_Right (F : T_api_Addr → Option Bool) : Ev.SpRl (s_addr_Right F) := by
  intro S vs k k2 hk
  unfold s_addr_Right
  refine Ev.rl_kU fun _ _ => ?_
  refine Ev.rl_kE ?_
  refine rl_d_api_Addr fun _ => ?_
  exact Ev.Rl.bnd fun x => hk _
noncomputable def Ew_addr_Right : Ev.Env := Ev.Env.with Ed []
noncomputable def Es_addr_Right : Ev.Env := Ev.Env.inl (Ew_addr_Right ) MtFa [] 40 12
noncomputable def O_addr_Right : Ev.Orc := fun _ _ _ => none
noncomputable def N_addr_Right (m : Nat) (x0 : T_api_Addr) : Option Bool := bif x0.Fam == 4 then bif x0.Hi == 0 then some (Int.fdiv x0.Lo 4294967296 == 0) else some false else bif x0.Fam == 6 then some true else some false
theorem pr_addr_Right (m : Nat) (x0 : T_api_Addr) : Ev.evBodyD (Es_addr_Right ) MtFa (O_addr_Right ) m 140 [v_api_Addr x0] = Ev.oE E_addr_Right (N_addr_Right m x0) := by
  simp only [N_addr_Right, Ev.oE_some, Ev.oE_none, Ev.oE_cond, Ev.oE_bnd]
  kernel_rfl
noncomputable def F_addr_Right : T_api_Addr → Option Bool := fun x0 => N_addr_Right 0 x0
theorem ok_addr_Right : Ev.EnvOk (Ew_addr_Right ) := Ev.envOk_with envOkd Ev.SpsOk.nil
theorem ro_addr_Right : Ev.SpecRl (Ew_addr_Right ) := Ev.specRl_with rfl Ev.SpsRl.nil
theorem g_addr_Right : Ev.SpOk Try.prog false 140 (s_addr_Right F_addr_Right) := by
  refine Ev.SpOk.mkF fun vs k r g0 => ?_
  unfold s_addr_Right at g0
  obtain ⟨a0, r0, rfl, g1⟩ := Ev.kU_ok g0
  obtain ⟨rfl, g2⟩ := Ev.kE_ok g1
  obtain ⟨x0, rfl, g3⟩ := d_api_Addr_ok g2
  obtain ⟨x, hx, h⟩ := Ev.bnd_get g3
  have h1 := pr_addr_Right  0 x0
  rw [show N_addr_Right  0 x0 = some x from hx] at h1
  exact ⟨_, h, Ev.good_of_inl ok_addr_Right (ro_addr_Right ) rfl rfl Ev.TabOk.nil 40 12 _ h1⟩
-- tuple.word
-- DEEP tuple_word 150 - Int → Int → Option ByteArray
noncomputable def e_tuple_word (x : ByteArray) : Value := .string x
noncomputable def E_tuple_word (x : ByteArray) : Value × Ev.AH := (e_tuple_word x, ⟨[], 0, []⟩)
noncomputable def s_tuple_word (F : Int → Int → Option ByteArray) : Ev.Sp := fun vs k => Ev.kU vs fun a0 r0 => Ev.kU r0 fun a1 r1 => Ev.kE r1 <| Ev.gI .i64 a0 fun x0 => Ev.gI .i64 a1 fun x1 => Ev.bnd (F x0 x1) fun x => k (e_tuple_word x)
theorem rs_tuple_word (F : Int → Int → Option ByteArray) : Ev.SpRl (s_tuple_word F) := by
  intro S vs k k2 hk
  unfold s_tuple_word
  refine Ev.rl_kU fun _ _ => ?_
  refine Ev.rl_kU fun _ _ => ?_
  refine Ev.rl_kE ?_
  refine Ev.rl_gI fun _ => ?_
  refine Ev.rl_gI fun _ => ?_
  exact Ev.Rl.bnd fun x => hk _
noncomputable def Ew_tuple_word : Ev.Env := Ev.Env.with Ed []
noncomputable def Es_tuple_word : Ev.Env := Ev.Env.inl (Ew_tuple_word ) MtFa [] 40 12
noncomputable def O_tuple_word : Ev.Orc := fun _ _ _ => none
noncomputable def N_tuple_word (m : Nat) (x0 : Int) (x1 : Int) : Option ByteArray := bif x1 == 6 then some (ByteArray.mk (Array.mk [UInt8.ofBitVec (BitVec.ofFin (Fin.mk 116 (Nat.mod_lt 116 (BitVec.ofNat._proof_1 8)))), UInt8.ofBitVec (BitVec.ofFin (Fin.mk 99 (Nat.mod_lt 99 (BitVec.ofNat._proof_1 8)))), UInt8.ofBitVec (BitVec.ofFin (Fin.mk 112 (Nat.mod_lt 112 (BitVec.ofNat._proof_1 8))))])) else bif x1 == 17 then some (ByteArray.mk (Array.mk [UInt8.ofBitVec (BitVec.ofFin (Fin.mk 117 (Nat.mod_lt 117 (BitVec.ofNat._proof_1 8)))), UInt8.ofBitVec (BitVec.ofFin (Fin.mk 100 (Nat.mod_lt 100 (BitVec.ofNat._proof_1 8)))), UInt8.ofBitVec (BitVec.ofFin (Fin.mk 112 (Nat.mod_lt 112 (BitVec.ofNat._proof_1 8))))])) else bif x1 == 1 then bif x0 == 4 then some (ByteArray.mk (Array.mk [UInt8.ofBitVec (BitVec.ofFin (Fin.mk 105 (Nat.mod_lt 105 (BitVec.ofNat._proof_1 8)))), UInt8.ofBitVec (BitVec.ofFin (Fin.mk 99 (Nat.mod_lt 99 (BitVec.ofNat._proof_1 8)))), UInt8.ofBitVec (BitVec.ofFin (Fin.mk 109 (Nat.mod_lt 109 (BitVec.ofNat._proof_1 8)))), UInt8.ofBitVec (BitVec.ofFin (Fin.mk 112 (Nat.mod_lt 112 (BitVec.ofNat._proof_1 8))))])) else bif x1 == 58 then bif x0 == 6 then some (ByteArray.mk (Array.mk [UInt8.ofBitVec (BitVec.ofFin (Fin.mk 105 (Nat.mod_lt 105 (BitVec.ofNat._proof_1 8)))), UInt8.ofBitVec (BitVec.ofFin (Fin.mk 99 (Nat.mod_lt 99 (BitVec.ofNat._proof_1 8)))), UInt8.ofBitVec (BitVec.ofFin (Fin.mk 109 (Nat.mod_lt 109 (BitVec.ofNat._proof_1 8)))), UInt8.ofBitVec (BitVec.ofFin (Fin.mk 112 (Nat.mod_lt 112 (BitVec.ofNat._proof_1 8)))), UInt8.ofBitVec (BitVec.ofFin (Fin.mk 54 (Nat.mod_lt 54 (BitVec.ofNat._proof_1 8))))])) else some (ByteArray.mk (Array.mk [])) else some (ByteArray.mk (Array.mk [])) else bif x1 == 58 then bif x0 == 6 then some (ByteArray.mk (Array.mk [UInt8.ofBitVec (BitVec.ofFin (Fin.mk 105 (Nat.mod_lt 105 (BitVec.ofNat._proof_1 8)))), UInt8.ofBitVec (BitVec.ofFin (Fin.mk 99 (Nat.mod_lt 99 (BitVec.ofNat._proof_1 8)))), UInt8.ofBitVec (BitVec.ofFin (Fin.mk 109 (Nat.mod_lt 109 (BitVec.ofNat._proof_1 8)))), UInt8.ofBitVec (BitVec.ofFin (Fin.mk 112 (Nat.mod_lt 112 (BitVec.ofNat._proof_1 8)))), UInt8.ofBitVec (BitVec.ofFin (Fin.mk 54 (Nat.mod_lt 54 (BitVec.ofNat._proof_1 8))))])) else some (ByteArray.mk (Array.mk [])) else some (ByteArray.mk (Array.mk []))
theorem pr_tuple_word (m : Nat) (x0 : Int) (x1 : Int) : Ev.evBodyD (Es_tuple_word ) MtFa (O_tuple_word ) m 150 [.int .i64 x0, .int .i64 x1] = Ev.oE E_tuple_word (N_tuple_word m x0 x1) := by
  simp only [N_tuple_word, Ev.oE_some, Ev.oE_none, Ev.oE_cond, Ev.oE_bnd]
  kernel_rfl
noncomputable def F_tuple_word : Int → Int → Option ByteArray := fun x0 x1 => N_tuple_word 0 x0 x1
theorem ok_tuple_word : Ev.EnvOk (Ew_tuple_word ) := Ev.envOk_with envOkd Ev.SpsOk.nil
theorem ro_tuple_word : Ev.SpecRl (Ew_tuple_word ) := Ev.specRl_with rfl Ev.SpsRl.nil
theorem g_tuple_word : Ev.SpOk Try.prog false 150 (s_tuple_word F_tuple_word) := by
  refine Ev.SpOk.mkF fun vs k r g0 => ?_
  unfold s_tuple_word at g0
  obtain ⟨a0, r0, rfl, g1⟩ := Ev.kU_ok g0
  obtain ⟨a1, r1, rfl, g2⟩ := Ev.kU_ok g1
  obtain ⟨rfl, g3⟩ := Ev.kE_ok g2
  obtain ⟨x0, rfl, g4⟩ := Ev.gI_ok g3
  obtain ⟨x1, rfl, g5⟩ := Ev.gI_ok g4
  obtain ⟨x, hx, h⟩ := Ev.bnd_get g5
  have h1 := pr_tuple_word  0 x0 x1
  rw [show N_tuple_word  0 x0 x1 = some x from hx] at h1
  exact ⟨_, h, Ev.good_of_inl ok_tuple_word (ro_tuple_word ) rfl rfl Ev.TabOk.nil 40 12 _ h1⟩
-- tuple.port
-- DEEP tuple_port 151 - Int → Option Bool
noncomputable def e_tuple_port (x : Bool) : Value := .bool x
noncomputable def E_tuple_port (x : Bool) : Value × Ev.AH := (e_tuple_port x, ⟨[], 0, []⟩)
noncomputable def s_tuple_port (F : Int → Option Bool) : Ev.Sp := fun vs k => Ev.kU vs fun a0 r0 => Ev.kE r0 <| Ev.gI .i64 a0 fun x0 => Ev.bnd (F x0) fun x => k (e_tuple_port x)
theorem rs_tuple_port (F : Int → Option Bool) : Ev.SpRl (s_tuple_port F) := by
  intro S vs k k2 hk
  unfold s_tuple_port
  refine Ev.rl_kU fun _ _ => ?_
  refine Ev.rl_kE ?_
  refine Ev.rl_gI fun _ => ?_
  exact Ev.Rl.bnd fun x => hk _
noncomputable def Ew_tuple_port : Ev.Env := Ev.Env.with Ed []
noncomputable def Es_tuple_port : Ev.Env := Ev.Env.inl (Ew_tuple_port ) MtFa [] 40 12
noncomputable def O_tuple_port : Ev.Orc := fun _ _ _ => none
noncomputable def N_tuple_port (m : Nat) (x0 : Int) : Option Bool := bif Ev.leI 0 x0 then some (Ev.leI x0 65535) else some false
theorem pr_tuple_port (m : Nat) (x0 : Int) : Ev.evBodyD (Es_tuple_port ) MtFa (O_tuple_port ) m 151 [.int .i64 x0] = Ev.oE E_tuple_port (N_tuple_port m x0) := by
  simp only [N_tuple_port, Ev.oE_some, Ev.oE_none, Ev.oE_cond, Ev.oE_bnd]
  kernel_rfl
noncomputable def F_tuple_port : Int → Option Bool := fun x0 => N_tuple_port 0 x0
theorem ok_tuple_port : Ev.EnvOk (Ew_tuple_port ) := Ev.envOk_with envOkd Ev.SpsOk.nil
theorem ro_tuple_port : Ev.SpecRl (Ew_tuple_port ) := Ev.specRl_with rfl Ev.SpsRl.nil
theorem g_tuple_port : Ev.SpOk Try.prog false 151 (s_tuple_port F_tuple_port) := by
  refine Ev.SpOk.mkF fun vs k r g0 => ?_
  unfold s_tuple_port at g0
  obtain ⟨a0, r0, rfl, g1⟩ := Ev.kU_ok g0
  obtain ⟨rfl, g2⟩ := Ev.kE_ok g1
  obtain ⟨x0, rfl, g3⟩ := Ev.gI_ok g2
  obtain ⟨x, hx, h⟩ := Ev.bnd_get g3
  have h1 := pr_tuple_port  0 x0
  rw [show N_tuple_port  0 x0 = some x from hx] at h1
  exact ⟨_, h, Ev.good_of_inl ok_tuple_port (ro_tuple_port ) rfl rfl Ev.TabOk.nil 40 12 _ h1⟩
-- tuple.Right
-- DEEP tuple_Right 104 - T_api_Tuple → Option Bool
noncomputable def e_tuple_Right (x : Bool) : Value := .bool x
noncomputable def E_tuple_Right (x : Bool) : Value × Ev.AH := (e_tuple_Right x, ⟨[], 0, []⟩)
noncomputable def s_tuple_Right (F : T_api_Tuple → Option Bool) : Ev.Sp := fun vs k => Ev.kU vs fun a0 r0 => Ev.kE r0 <| d_api_Tuple a0 fun x0 => Ev.bnd (F x0) fun x => k (e_tuple_Right x)
theorem rs_tuple_Right (F : T_api_Tuple → Option Bool) : Ev.SpRl (s_tuple_Right F) := by
  intro S vs k k2 hk
  unfold s_tuple_Right
  refine Ev.rl_kU fun _ _ => ?_
  refine Ev.rl_kE ?_
  refine rl_d_api_Tuple fun _ => ?_
  exact Ev.Rl.bnd fun x => hk _
noncomputable def Ew_tuple_Right (F_addr_Right : T_api_Addr → Option Bool) (F_tuple_word : Int → Int → Option ByteArray) (F_tuple_port : Int → Option Bool) : Ev.Env := Ev.Env.with Ed [(140, s_addr_Right F_addr_Right), (150, s_tuple_word F_tuple_word), (151, s_tuple_port F_tuple_port)]
noncomputable def Es_tuple_Right (F_addr_Right : T_api_Addr → Option Bool) (F_tuple_word : Int → Int → Option ByteArray) (F_tuple_port : Int → Option Bool) : Ev.Env := Ev.Env.inl (Ew_tuple_Right F_addr_Right F_tuple_word F_tuple_port) MtFa [] 40 12
noncomputable def O_tuple_Right (F_addr_Right : T_api_Addr → Option Bool) (F_tuple_word : Int → Int → Option ByteArray) (F_tuple_port : Int → Option Bool) : Ev.Orc := fun _ _ _ => none
noncomputable def N_tuple_Right (F_addr_Right : T_api_Addr → Option Bool) (F_tuple_word : Int → Int → Option ByteArray) (F_tuple_port : Int → Option Bool) (m : Nat) (x0 : T_api_Tuple) : Option Bool := bif x0.Src_Fam == x0.Fam then bif x0.Dst_Fam == x0.Fam then Ev.bnd (F_addr_Right (T_api_Addr.mk x0.Src_Fam x0.Src_Hi x0.Src_Lo)) fun v0 => bif v0 then Ev.bnd (F_addr_Right (T_api_Addr.mk x0.Dst_Fam x0.Dst_Hi x0.Dst_Lo)) fun v1 => bif v1 then Ev.bnd (F_tuple_word x0.Fam x0.Proto) fun v2 => bif !ByteArray.toList v2 == [] then Ev.bnd (F_tuple_port x0.Sport) fun v3 => bif v3 then Ev.bnd (F_tuple_port x0.Dport) fun v4 => some v4 else some false else some false else some false else some false else some false else some false
theorem pr_tuple_Right (F_addr_Right : T_api_Addr → Option Bool) (F_tuple_word : Int → Int → Option ByteArray) (F_tuple_port : Int → Option Bool) (m : Nat) (x0 : T_api_Tuple) : Ev.evBodyD (Es_tuple_Right F_addr_Right F_tuple_word F_tuple_port) MtFa (O_tuple_Right F_addr_Right F_tuple_word F_tuple_port) m 104 [v_api_Tuple x0] = Ev.oE E_tuple_Right (N_tuple_Right F_addr_Right F_tuple_word F_tuple_port m x0) := by
  simp only [N_tuple_Right, Ev.oE_some, Ev.oE_none, Ev.oE_cond, Ev.oE_bnd]
  kernel_rfl
noncomputable def F_tuple_Right : T_api_Tuple → Option Bool := fun x0 => N_tuple_Right F_addr_Right F_tuple_word F_tuple_port 0 x0
theorem ok_tuple_Right : Ev.EnvOk (Ew_tuple_Right F_addr_Right F_tuple_word F_tuple_port) := Ev.envOk_with envOkd (Ev.SpsOk.add (b := false) g_addr_Right (by kernel_rfl) (Ev.SpsOk.add (b := false) g_tuple_word (by kernel_rfl) (Ev.SpsOk.add (b := false) g_tuple_port (by kernel_rfl) Ev.SpsOk.nil)))
theorem ro_tuple_Right (F_addr_Right : T_api_Addr → Option Bool) (F_tuple_word : Int → Int → Option ByteArray) (F_tuple_port : Int → Option Bool) : Ev.SpecRl (Ew_tuple_Right F_addr_Right F_tuple_word F_tuple_port) := Ev.specRl_with rfl (Ev.SpsRl.cons (rs_addr_Right _) (Ev.SpsRl.cons (rs_tuple_word _) (Ev.SpsRl.cons (rs_tuple_port _) Ev.SpsRl.nil)))
theorem g_tuple_Right : Ev.SpOk Try.prog false 104 (s_tuple_Right F_tuple_Right) := by
  refine Ev.SpOk.mkF fun vs k r g0 => ?_
  unfold s_tuple_Right at g0
  obtain ⟨a0, r0, rfl, g1⟩ := Ev.kU_ok g0
  obtain ⟨rfl, g2⟩ := Ev.kE_ok g1
  obtain ⟨x0, rfl, g3⟩ := d_api_Tuple_ok g2
  obtain ⟨x, hx, h⟩ := Ev.bnd_get g3
  have h1 := pr_tuple_Right F_addr_Right F_tuple_word F_tuple_port 0 x0
  rw [show N_tuple_Right F_addr_Right F_tuple_word F_tuple_port 0 x0 = some x from hx] at h1
  exact ⟨_, h, Ev.good_of_inl ok_tuple_Right (ro_tuple_Right F_addr_Right F_tuple_word F_tuple_port) rfl rfl Ev.TabOk.nil 40 12 _ h1⟩
-- tuple.Reverse
-- DEEP tuple_Reverse 112 - T_api_Tuple → Option T_api_Tuple
noncomputable def e_tuple_Reverse (x : T_api_Tuple) : Value := v_api_Tuple x
noncomputable def E_tuple_Reverse (x : T_api_Tuple) : Value × Ev.AH := (e_tuple_Reverse x, ⟨[], 0, []⟩)
noncomputable def s_tuple_Reverse (F : T_api_Tuple → Option T_api_Tuple) : Ev.Sp := fun vs k => Ev.kU vs fun a0 r0 => Ev.kE r0 <| d_api_Tuple a0 fun x0 => Ev.bnd (F x0) fun x => k (e_tuple_Reverse x)
theorem rs_tuple_Reverse (F : T_api_Tuple → Option T_api_Tuple) : Ev.SpRl (s_tuple_Reverse F) := by
  intro S vs k k2 hk
  unfold s_tuple_Reverse
  refine Ev.rl_kU fun _ _ => ?_
  refine Ev.rl_kE ?_
  refine rl_d_api_Tuple fun _ => ?_
  exact Ev.Rl.bnd fun x => hk _
noncomputable def Ew_tuple_Reverse : Ev.Env := Ev.Env.with Ed []
noncomputable def Es_tuple_Reverse : Ev.Env := Ev.Env.inl (Ew_tuple_Reverse ) MtFa [] 40 12
noncomputable def O_tuple_Reverse : Ev.Orc := fun _ _ _ => none
noncomputable def N_tuple_Reverse (m : Nat) (x0 : T_api_Tuple) : Option T_api_Tuple := some (T_api_Tuple.mk x0.Fam x0.Proto x0.Dst_Fam x0.Dst_Hi x0.Dst_Lo x0.Src_Fam x0.Src_Hi x0.Src_Lo x0.Dport x0.Sport)
theorem pr_tuple_Reverse (m : Nat) (x0 : T_api_Tuple) : Ev.evBodyD (Es_tuple_Reverse ) MtFa (O_tuple_Reverse ) m 112 [v_api_Tuple x0] = Ev.oE E_tuple_Reverse (N_tuple_Reverse m x0) := by
  simp only [N_tuple_Reverse, Ev.oE_some, Ev.oE_none, Ev.oE_cond, Ev.oE_bnd]
  kernel_rfl
noncomputable def F_tuple_Reverse : T_api_Tuple → Option T_api_Tuple := fun x0 => N_tuple_Reverse 0 x0
theorem ok_tuple_Reverse : Ev.EnvOk (Ew_tuple_Reverse ) := Ev.envOk_with envOkd Ev.SpsOk.nil
theorem ro_tuple_Reverse : Ev.SpecRl (Ew_tuple_Reverse ) := Ev.specRl_with rfl Ev.SpsRl.nil
theorem g_tuple_Reverse : Ev.SpOk Try.prog false 112 (s_tuple_Reverse F_tuple_Reverse) := by
  refine Ev.SpOk.mkF fun vs k r g0 => ?_
  unfold s_tuple_Reverse at g0
  obtain ⟨a0, r0, rfl, g1⟩ := Ev.kU_ok g0
  obtain ⟨rfl, g2⟩ := Ev.kE_ok g1
  obtain ⟨x0, rfl, g3⟩ := d_api_Tuple_ok g2
  obtain ⟨x, hx, h⟩ := Ev.bnd_get g3
  have h1 := pr_tuple_Reverse  0 x0
  rw [show N_tuple_Reverse  0 x0 = some x from hx] at h1
  exact ⟨_, h, Ev.good_of_inl ok_tuple_Reverse (ro_tuple_Reverse ) rfl rfl Ev.TabOk.nil 40 12 _ h1⟩
-- flow.within
-- DEEP flow_within 105 - Int → Int → Option Bool
noncomputable def e_flow_within (x : Bool) : Value := .bool x
noncomputable def E_flow_within (x : Bool) : Value × Ev.AH := (e_flow_within x, ⟨[], 0, []⟩)
noncomputable def s_flow_within (F : Int → Int → Option Bool) : Ev.Sp := fun vs k => Ev.kU vs fun a0 r0 => Ev.kU r0 fun a1 r1 => Ev.kE r1 <| Ev.gI .i64 a0 fun x0 => Ev.gI .i64 a1 fun x1 => Ev.bnd (F x0 x1) fun x => k (e_flow_within x)
theorem rs_flow_within (F : Int → Int → Option Bool) : Ev.SpRl (s_flow_within F) := by
  intro S vs k k2 hk
  unfold s_flow_within
  refine Ev.rl_kU fun _ _ => ?_
  refine Ev.rl_kU fun _ _ => ?_
  refine Ev.rl_kE ?_
  refine Ev.rl_gI fun _ => ?_
  refine Ev.rl_gI fun _ => ?_
  exact Ev.Rl.bnd fun x => hk _
noncomputable def Ew_flow_within : Ev.Env := Ev.Env.with Ed []
noncomputable def Es_flow_within : Ev.Env := Ev.Env.inl (Ew_flow_within ) MtFa [] 40 12
noncomputable def O_flow_within : Ev.Orc := fun _ _ _ => none
noncomputable def N_flow_within (m : Nat) (x0 : Int) (x1 : Int) : Option Bool := bif Ev.leI 0 x0 then some (Ev.leI x0 x1) else some false
theorem pr_flow_within (m : Nat) (x0 : Int) (x1 : Int) : Ev.evBodyD (Es_flow_within ) MtFa (O_flow_within ) m 105 [.int .i64 x0, .int .i64 x1] = Ev.oE E_flow_within (N_flow_within m x0 x1) := by
  simp only [N_flow_within, Ev.oE_some, Ev.oE_none, Ev.oE_cond, Ev.oE_bnd]
  kernel_rfl
noncomputable def F_flow_within : Int → Int → Option Bool := fun x0 x1 => N_flow_within 0 x0 x1
theorem ok_flow_within : Ev.EnvOk (Ew_flow_within ) := Ev.envOk_with envOkd Ev.SpsOk.nil
theorem ro_flow_within : Ev.SpecRl (Ew_flow_within ) := Ev.specRl_with rfl Ev.SpsRl.nil
theorem g_flow_within : Ev.SpOk Try.prog false 105 (s_flow_within F_flow_within) := by
  refine Ev.SpOk.mkF fun vs k r g0 => ?_
  unfold s_flow_within at g0
  obtain ⟨a0, r0, rfl, g1⟩ := Ev.kU_ok g0
  obtain ⟨a1, r1, rfl, g2⟩ := Ev.kU_ok g1
  obtain ⟨rfl, g3⟩ := Ev.kE_ok g2
  obtain ⟨x0, rfl, g4⟩ := Ev.gI_ok g3
  obtain ⟨x1, rfl, g5⟩ := Ev.gI_ok g4
  obtain ⟨x, hx, h⟩ := Ev.bnd_get g5
  have h1 := pr_flow_within  0 x0 x1
  rw [show N_flow_within  0 x0 x1 = some x from hx] at h1
  exact ⟨_, h, Ev.good_of_inl ok_flow_within (ro_flow_within ) rfl rfl Ev.TabOk.nil 40 12 _ h1⟩
-- flow.Right
-- DEEP flow_Right 41 - T_api_Flow → Option Bool
noncomputable def e_flow_Right (x : Bool) : Value := .bool x
noncomputable def E_flow_Right (x : Bool) : Value × Ev.AH := (e_flow_Right x, ⟨[], 0, []⟩)
noncomputable def s_flow_Right (F : T_api_Flow → Option Bool) : Ev.Sp := fun vs k => Ev.kU vs fun a0 r0 => Ev.kE r0 <| d_api_Flow a0 fun x0 => Ev.bnd (F x0) fun x => k (e_flow_Right x)
theorem rs_flow_Right (F : T_api_Flow → Option Bool) : Ev.SpRl (s_flow_Right F) := by
  intro S vs k k2 hk
  unfold s_flow_Right
  refine Ev.rl_kU fun _ _ => ?_
  refine Ev.rl_kE ?_
  refine rl_d_api_Flow fun _ => ?_
  exact Ev.Rl.bnd fun x => hk _
noncomputable def Ew_flow_Right (F_tcp_Right : T_api_Conn → Bool) (F_tuple_Right : T_api_Tuple → Option Bool) (F_flow_within : Int → Int → Option Bool) : Ev.Env := Ev.Env.with Ed [(104, s_tuple_Right F_tuple_Right), (105, s_flow_within F_flow_within)]
noncomputable def Es_flow_Right (F_tcp_Right : T_api_Conn → Bool) (F_tuple_Right : T_api_Tuple → Option Bool) (F_flow_within : Int → Int → Option Bool) : Ev.Env := Ev.Env.inl (Ew_flow_Right F_tcp_Right F_tuple_Right F_flow_within) MtFa [(31, s_tcp_Right F_tcp_Right)] 40 12
noncomputable def O_flow_Right (F_tcp_Right : T_api_Conn → Bool) (F_tuple_Right : T_api_Tuple → Option Bool) (F_flow_within : Int → Int → Option Bool) : Ev.Orc := fun _ _ _ => none
noncomputable def N_flow_Right (F_tcp_Right : T_api_Conn → Bool) (F_tuple_Right : T_api_Tuple → Option Bool) (F_flow_within : Int → Int → Option Bool) (m : Nat) (x0 : T_api_Flow) : Option Bool := Ev.bnd (F_tuple_Right (T_api_Tuple.mk x0.Tuple_Fam x0.Tuple_Proto x0.Tuple_Src_Fam x0.Tuple_Src_Hi x0.Tuple_Src_Lo x0.Tuple_Dst_Fam x0.Tuple_Dst_Hi x0.Tuple_Dst_Lo x0.Tuple_Sport x0.Tuple_Dport)) fun v0 => bif !v0 then some false else Ev.bnd (F_flow_within x0.Ends 4611686018427387904) fun v1 => bif !v1 then some false else Ev.bnd (F_flow_within x0.Help 3) fun v2 => bif !v2 then some false else bif x0.Tuple_Proto == 6 then some (F_tcp_Right (T_api_Conn.mk x0.Conn_State x0.Conn_Next_c0 x0.Conn_Next_c1 x0.Conn_Edge_c0 x0.Conn_Edge_c1 x0.Conn_Known_c0 x0.Conn_Known_c1 x0.Conn_Ended_c0 x0.Conn_Ended_c1)) else some (x0.Conn_State == 0 && (x0.Conn_Next_c0 == 0 && (x0.Conn_Next_c1 == 0 && (x0.Conn_Edge_c0 == 0 && (x0.Conn_Edge_c1 == 0 && (x0.Conn_Known_c0 == false && (x0.Conn_Known_c1 == false && (x0.Conn_Ended_c0 == false && (x0.Conn_Ended_c1 == false && true)))))))))
theorem pr_flow_Right (F_tcp_Right : T_api_Conn → Bool) (F_tuple_Right : T_api_Tuple → Option Bool) (F_flow_within : Int → Int → Option Bool) (m : Nat) (x0 : T_api_Flow) : Ev.evBodyD (Es_flow_Right F_tcp_Right F_tuple_Right F_flow_within) MtFa (O_flow_Right F_tcp_Right F_tuple_Right F_flow_within) m 41 [v_api_Flow x0] = Ev.oE E_flow_Right (N_flow_Right F_tcp_Right F_tuple_Right F_flow_within m x0) := by
  simp only [N_flow_Right, Ev.oE_some, Ev.oE_none, Ev.oE_cond, Ev.oE_bnd]
  kernel_rfl
noncomputable def F_flow_Right : T_api_Flow → Option Bool := fun x0 => N_flow_Right F_tcp_Right F_tuple_Right F_flow_within 0 x0
theorem ok_flow_Right : Ev.EnvOk (Ew_flow_Right F_tcp_Right F_tuple_Right F_flow_within) := Ev.envOk_with envOkd (Ev.SpsOk.add (b := false) g_tuple_Right (by kernel_rfl) (Ev.SpsOk.add (b := false) g_flow_within (by kernel_rfl) Ev.SpsOk.nil))
theorem ro_flow_Right (F_tcp_Right : T_api_Conn → Bool) (F_tuple_Right : T_api_Tuple → Option Bool) (F_flow_within : Int → Int → Option Bool) : Ev.SpecRl (Ew_flow_Right F_tcp_Right F_tuple_Right F_flow_within) := Ev.specRl_with rfl (Ev.SpsRl.cons (rs_tuple_Right _) (Ev.SpsRl.cons (rs_flow_within _) Ev.SpsRl.nil))
theorem g_flow_Right : Ev.SpOk Try.prog false 41 (s_flow_Right F_flow_Right) := by
  refine Ev.SpOk.mkF fun vs k r g0 => ?_
  unfold s_flow_Right at g0
  obtain ⟨a0, r0, rfl, g1⟩ := Ev.kU_ok g0
  obtain ⟨rfl, g2⟩ := Ev.kE_ok g1
  obtain ⟨x0, rfl, g3⟩ := d_api_Flow_ok g2
  obtain ⟨x, hx, h⟩ := Ev.bnd_get g3
  have h1 := pr_flow_Right F_tcp_Right F_tuple_Right F_flow_within 0 x0
  rw [show N_flow_Right F_tcp_Right F_tuple_Right F_flow_within 0 x0 = some x from hx] at h1
  exact ⟨_, h, Ev.good_of_inl ok_flow_Right (ro_flow_Right F_tcp_Right F_tuple_Right F_flow_within) rfl rfl (Ev.TabOk.cons g_tcp_Right Ev.TabOk.nil) 40 12 _ h1⟩
-- flow.kept
-- DEEP flow_kept 107 - T_api_Flow → Int → Option T_api_Flow
noncomputable def e_flow_kept (x : T_api_Flow) : Value := v_api_Flow x
noncomputable def E_flow_kept (x : T_api_Flow) : Value × Ev.AH := (e_flow_kept x, ⟨[], 0, []⟩)
noncomputable def s_flow_kept (F : T_api_Flow → Int → Option T_api_Flow) : Ev.Sp := fun vs k => Ev.kU vs fun a0 r0 => Ev.kU r0 fun a1 r1 => Ev.kE r1 <| d_api_Flow a0 fun x0 => Ev.gI .i64 a1 fun x1 => Ev.bnd (F x0 x1) fun x => k (e_flow_kept x)
theorem rs_flow_kept (F : T_api_Flow → Int → Option T_api_Flow) : Ev.SpRl (s_flow_kept F) := by
  intro S vs k k2 hk
  unfold s_flow_kept
  refine Ev.rl_kU fun _ _ => ?_
  refine Ev.rl_kU fun _ _ => ?_
  refine Ev.rl_kE ?_
  refine rl_d_api_Flow fun _ => ?_
  refine Ev.rl_gI fun _ => ?_
  exact Ev.Rl.bnd fun x => hk _
noncomputable def Ew_flow_kept (F_tcp_Life : T_api_Conn → Int) : Ev.Env := Ev.Env.with Ed []
noncomputable def Es_flow_kept (F_tcp_Life : T_api_Conn → Int) : Ev.Env := Ev.Env.inl (Ew_flow_kept F_tcp_Life) MtFa [(33, s_tcp_Life F_tcp_Life)] 40 12
noncomputable def O_flow_kept (F_tcp_Life : T_api_Conn → Int) : Ev.Orc := fun _ _ _ => none
noncomputable def N_flow_kept (F_tcp_Life : T_api_Conn → Int) (m : Nat) (x0 : T_api_Flow) (x1 : Int) : Option T_api_Flow := bif x0.Tuple_Proto == 6 then some (T_api_Flow.mk x0.Tuple_Fam x0.Tuple_Proto x0.Tuple_Src_Fam x0.Tuple_Src_Hi x0.Tuple_Src_Lo x0.Tuple_Dst_Fam x0.Tuple_Dst_Hi x0.Tuple_Dst_Lo x0.Tuple_Sport x0.Tuple_Dport x0.Conn_State x0.Conn_Next_c0 x0.Conn_Next_c1 x0.Conn_Edge_c0 x0.Conn_Edge_c1 x0.Conn_Known_c0 x0.Conn_Known_c1 x0.Conn_Ended_c0 x0.Conn_Ended_c1 (IntKind.wrap IntKind.i64 (x1 + F_tcp_Life (T_api_Conn.mk x0.Conn_State x0.Conn_Next_c0 x0.Conn_Next_c1 x0.Conn_Edge_c0 x0.Conn_Edge_c1 x0.Conn_Known_c0 x0.Conn_Known_c1 x0.Conn_Ended_c0 x0.Conn_Ended_c1))) x0.Help x0.Both) else bif x0.Tuple_Proto == 17 then bif x0.Both then some (T_api_Flow.mk x0.Tuple_Fam x0.Tuple_Proto x0.Tuple_Src_Fam x0.Tuple_Src_Hi x0.Tuple_Src_Lo x0.Tuple_Dst_Fam x0.Tuple_Dst_Hi x0.Tuple_Dst_Lo x0.Tuple_Sport x0.Tuple_Dport x0.Conn_State x0.Conn_Next_c0 x0.Conn_Next_c1 x0.Conn_Edge_c0 x0.Conn_Edge_c1 x0.Conn_Known_c0 x0.Conn_Known_c1 x0.Conn_Ended_c0 x0.Conn_Ended_c1 (IntKind.wrap IntKind.i64 (x1 + 180)) x0.Help x0.Both) else some (T_api_Flow.mk x0.Tuple_Fam x0.Tuple_Proto x0.Tuple_Src_Fam x0.Tuple_Src_Hi x0.Tuple_Src_Lo x0.Tuple_Dst_Fam x0.Tuple_Dst_Hi x0.Tuple_Dst_Lo x0.Tuple_Sport x0.Tuple_Dport x0.Conn_State x0.Conn_Next_c0 x0.Conn_Next_c1 x0.Conn_Edge_c0 x0.Conn_Edge_c1 x0.Conn_Known_c0 x0.Conn_Known_c1 x0.Conn_Ended_c0 x0.Conn_Ended_c1 (IntKind.wrap IntKind.i64 (x1 + 30)) x0.Help x0.Both) else some (T_api_Flow.mk x0.Tuple_Fam x0.Tuple_Proto x0.Tuple_Src_Fam x0.Tuple_Src_Hi x0.Tuple_Src_Lo x0.Tuple_Dst_Fam x0.Tuple_Dst_Hi x0.Tuple_Dst_Lo x0.Tuple_Sport x0.Tuple_Dport x0.Conn_State x0.Conn_Next_c0 x0.Conn_Next_c1 x0.Conn_Edge_c0 x0.Conn_Edge_c1 x0.Conn_Known_c0 x0.Conn_Known_c1 x0.Conn_Ended_c0 x0.Conn_Ended_c1 (IntKind.wrap IntKind.i64 (x1 + 10)) x0.Help x0.Both)
theorem pr_flow_kept (F_tcp_Life : T_api_Conn → Int) (m : Nat) (x0 : T_api_Flow) (x1 : Int) : Ev.evBodyD (Es_flow_kept F_tcp_Life) MtFa (O_flow_kept F_tcp_Life) m 107 [v_api_Flow x0, .int .i64 x1] = Ev.oE E_flow_kept (N_flow_kept F_tcp_Life m x0 x1) := by
  simp only [N_flow_kept, Ev.oE_some, Ev.oE_none, Ev.oE_cond, Ev.oE_bnd]
  kernel_rfl
noncomputable def F_flow_kept : T_api_Flow → Int → Option T_api_Flow := fun x0 x1 => N_flow_kept F_tcp_Life 0 x0 x1
theorem ok_flow_kept : Ev.EnvOk (Ew_flow_kept F_tcp_Life) := Ev.envOk_with envOkd Ev.SpsOk.nil
theorem ro_flow_kept (F_tcp_Life : T_api_Conn → Int) : Ev.SpecRl (Ew_flow_kept F_tcp_Life) := Ev.specRl_with rfl Ev.SpsRl.nil
theorem g_flow_kept : Ev.SpOk Try.prog false 107 (s_flow_kept F_flow_kept) := by
  refine Ev.SpOk.mkF fun vs k r g0 => ?_
  unfold s_flow_kept at g0
  obtain ⟨a0, r0, rfl, g1⟩ := Ev.kU_ok g0
  obtain ⟨a1, r1, rfl, g2⟩ := Ev.kU_ok g1
  obtain ⟨rfl, g3⟩ := Ev.kE_ok g2
  obtain ⟨x0, rfl, g4⟩ := d_api_Flow_ok g3
  obtain ⟨x1, rfl, g5⟩ := Ev.gI_ok g4
  obtain ⟨x, hx, h⟩ := Ev.bnd_get g5
  have h1 := pr_flow_kept F_tcp_Life 0 x0 x1
  rw [show N_flow_kept F_tcp_Life 0 x0 x1 = some x from hx] at h1
  exact ⟨_, h, Ev.good_of_inl ok_flow_kept (ro_flow_kept F_tcp_Life) rfl rfl (Ev.TabOk.cons g_tcp_Life Ev.TabOk.nil) 40 12 _ h1⟩
-- flow.echo
-- DEEP flow_echo 106 - D_api_Seg → Int → Option Bool
noncomputable def e_flow_echo (x : Bool) : Value := .bool x
noncomputable def E_flow_echo (x : Bool) : Value × Ev.AH := (e_flow_echo x, ⟨[], 0, []⟩)
noncomputable def s_flow_echo (F : D_api_Seg → Int → Option Bool) : Ev.Sp := fun vs k => Ev.kU vs fun a0 r0 => Ev.kU r0 fun a1 r1 => Ev.kE r1 <| d_api_Seg a0 fun x0 => Ev.gI .i64 a1 fun x1 => Ev.bnd (F x0 x1) fun x => k (e_flow_echo x)
theorem rs_flow_echo (F : D_api_Seg → Int → Option Bool) : Ev.SpRl (s_flow_echo F) := by
  intro S vs k k2 hk
  unfold s_flow_echo
  refine Ev.rl_kU fun _ _ => ?_
  refine Ev.rl_kU fun _ _ => ?_
  refine Ev.rl_kE ?_
  refine rl_d_api_Seg fun _ => ?_
  refine Ev.rl_gI fun _ => ?_
  exact Ev.Rl.bnd fun x => hk _
noncomputable def Ew_flow_echo : Ev.Env := Ev.Env.with Ed []
noncomputable def Es_flow_echo : Ev.Env := Ev.Env.inl (Ew_flow_echo ) MtFa [] 40 12
noncomputable def O_flow_echo : Ev.Orc := fun _ _ _ => none
noncomputable def N_flow_echo__v0 (m : Nat) (x0 : D_api_Seg) : Option Bool := bif x0.Tuple_Fam == 6 then bif x0.Type_ == 128 then some (x0.Code == 0) else some false else bif x0.Type_ == 8 then some (x0.Code == 0) else some false
theorem pr_flow_echo__v0 (m : Nat) (x0 : D_api_Seg) : Ev.evBodyD (Es_flow_echo ) MtFa (O_flow_echo ) m 106 [v_api_Seg x0, .int .i64 (0 : Int)] = Ev.oE E_flow_echo (N_flow_echo__v0 m x0) := by
  simp only [N_flow_echo__v0, Ev.oE_some, Ev.oE_none, Ev.oE_cond, Ev.oE_bnd]
  kernel_rfl
noncomputable def N_flow_echo__v1 (m : Nat) (x0 : D_api_Seg) : Option Bool := bif x0.Tuple_Fam == 6 then bif x0.Type_ == 129 then some (x0.Code == 0) else some false else bif x0.Type_ == 0 then some (x0.Code == 0) else some false
theorem pr_flow_echo__v1 (m : Nat) (x0 : D_api_Seg) : Ev.evBodyD (Es_flow_echo ) MtFa (O_flow_echo ) m 106 [v_api_Seg x0, .int .i64 (1 : Int)] = Ev.oE E_flow_echo (N_flow_echo__v1 m x0) := by
  simp only [N_flow_echo__v1, Ev.oE_some, Ev.oE_none, Ev.oE_cond, Ev.oE_bnd]
  kernel_rfl
noncomputable def F_flow_echo : D_api_Seg → Int → Option Bool := fun x0 x1 => bif x1 == 0 then N_flow_echo__v0 0 x0 else bif x1 == 1 then N_flow_echo__v1 0 x0 else none
theorem ok_flow_echo : Ev.EnvOk (Ew_flow_echo ) := Ev.envOk_with envOkd Ev.SpsOk.nil
theorem ro_flow_echo : Ev.SpecRl (Ew_flow_echo ) := Ev.specRl_with rfl Ev.SpsRl.nil
theorem g_flow_echo : Ev.SpOk Try.prog false 106 (s_flow_echo F_flow_echo) := by
  refine Ev.SpOk.mkF fun vs k r g0 => ?_
  unfold s_flow_echo at g0
  obtain ⟨a0, r0, rfl, g1⟩ := Ev.kU_ok g0
  obtain ⟨a1, r1, rfl, g2⟩ := Ev.kU_ok g1
  obtain ⟨rfl, g3⟩ := Ev.kE_ok g2
  obtain ⟨x0, rfl, g4⟩ := d_api_Seg_ok g3
  obtain ⟨x1, rfl, g5⟩ := Ev.gI_ok g4
  obtain ⟨x, hx, h⟩ := Ev.bnd_get g5
  unfold F_flow_echo at hx
  cases hc__v0 : (x1 == 0) with
  | true =>
    rw [hc__v0, cond_true] at hx
    obtain rfl : x1 = 0 := by simpa using hc__v0
    have h1 := pr_flow_echo__v0  0 x0
    rw [hx] at h1
    exact ⟨_, h, Ev.good_of_inl ok_flow_echo (ro_flow_echo ) rfl rfl Ev.TabOk.nil 40 12 _ h1⟩
  | false =>
  rw [hc__v0, cond_false] at hx
  cases hc__v1 : (x1 == 1) with
  | true =>
    rw [hc__v1, cond_true] at hx
    obtain rfl : x1 = 1 := by simpa using hc__v1
    have h1 := pr_flow_echo__v1  0 x0
    rw [hx] at h1
    exact ⟨_, h, Ev.good_of_inl ok_flow_echo (ro_flow_echo ) rfl rfl Ev.TabOk.nil 40 12 _ h1⟩
  | false =>
  rw [hc__v1, cond_false] at hx
  cases hx
-- flow.Start
-- DEEP flow_Start 39 - D_api_Seg → Int → Int → Option (T_api_Flow × Int)
noncomputable def e_flow_Start (x : T_api_Flow × Int) : Value := .tuple ⟨[v_api_Flow (x.1), .int .i64 (x.2)]⟩
noncomputable def E_flow_Start (x : T_api_Flow × Int) : Value × Ev.AH := (e_flow_Start x, ⟨[], 0, []⟩)
noncomputable def s_flow_Start (F : D_api_Seg → Int → Int → Option (T_api_Flow × Int)) : Ev.Sp := fun vs k => Ev.kU vs fun a0 r0 => Ev.kU r0 fun a1 r1 => Ev.kU r1 fun a2 r2 => Ev.kE r2 <| d_api_Seg a0 fun x0 => Ev.gI .i64 a1 fun x1 => Ev.gI .i64 a2 fun x2 => Ev.bnd (F x0 x1 x2) fun x => k (e_flow_Start x)
theorem rs_flow_Start (F : D_api_Seg → Int → Int → Option (T_api_Flow × Int)) : Ev.SpRl (s_flow_Start F) := by
  intro S vs k k2 hk
  unfold s_flow_Start
  refine Ev.rl_kU fun _ _ => ?_
  refine Ev.rl_kU fun _ _ => ?_
  refine Ev.rl_kU fun _ _ => ?_
  refine Ev.rl_kE ?_
  refine rl_d_api_Seg fun _ => ?_
  refine Ev.rl_gI fun _ => ?_
  refine Ev.rl_gI fun _ => ?_
  exact Ev.Rl.bnd fun x => hk _
noncomputable def Ew_flow_Start (F_tcp_Begin : Int → Int → Int → Int → (T_api_Conn × Int)) (F_tuple_Right : T_api_Tuple → Option Bool) (F_flow_within : Int → Int → Option Bool) (F_flow_echo : D_api_Seg → Int → Option Bool) (F_flow_kept : T_api_Flow → Int → Option T_api_Flow) : Ev.Env := Ev.Env.with Ed [(104, s_tuple_Right F_tuple_Right), (105, s_flow_within F_flow_within), (106, s_flow_echo F_flow_echo), (107, s_flow_kept F_flow_kept)]
noncomputable def Es_flow_Start (F_tcp_Begin : Int → Int → Int → Int → (T_api_Conn × Int)) (F_tuple_Right : T_api_Tuple → Option Bool) (F_flow_within : Int → Int → Option Bool) (F_flow_echo : D_api_Seg → Int → Option Bool) (F_flow_kept : T_api_Flow → Int → Option T_api_Flow) : Ev.Env := Ev.Env.inl (Ew_flow_Start F_tcp_Begin F_tuple_Right F_flow_within F_flow_echo F_flow_kept) MtFa [(28, s_tcp_Begin F_tcp_Begin)] 40 12
noncomputable def O_flow_Start (F_tcp_Begin : Int → Int → Int → Int → (T_api_Conn × Int)) (F_tuple_Right : T_api_Tuple → Option Bool) (F_flow_within : Int → Int → Option Bool) (F_flow_echo : D_api_Seg → Int → Option Bool) (F_flow_kept : T_api_Flow → Int → Option T_api_Flow) : Ev.Orc := fun _ _ _ => none
noncomputable def N_flow_Start (F_tcp_Begin : Int → Int → Int → Int → (T_api_Conn × Int)) (F_tuple_Right : T_api_Tuple → Option Bool) (F_flow_within : Int → Int → Option Bool) (F_flow_echo : D_api_Seg → Int → Option Bool) (F_flow_kept : T_api_Flow → Int → Option T_api_Flow) (m : Nat) (x0 : D_api_Seg) (x1 : Int) (x2 : Int) : Option (T_api_Flow × Int) := Ev.bnd (F_tuple_Right (T_api_Tuple.mk x0.Tuple_Fam x0.Tuple_Proto x0.Tuple_Src_Fam x0.Tuple_Src_Hi x0.Tuple_Src_Lo x0.Tuple_Dst_Fam x0.Tuple_Dst_Hi x0.Tuple_Dst_Lo x0.Tuple_Sport x0.Tuple_Dport)) fun v0 => bif !v0 then some (T_api_Flow.mk 0 0 0 0 0 0 0 0 0 0 0 0 0 0 0 false false false false 0 0 false, 1) else Ev.bnd (F_flow_within x1 4611686018427384304) fun v1 => bif !v1 then some (T_api_Flow.mk 0 0 0 0 0 0 0 0 0 0 0 0 0 0 0 false false false false 0 0 false, 1) else Ev.bnd (F_flow_within x2 3) fun v2 => bif !v2 then some (T_api_Flow.mk 0 0 0 0 0 0 0 0 0 0 0 0 0 0 0 false false false false 0 0 false, 1) else bif x0.Tuple_Proto == 6 then bif (F_tcp_Begin x0.Flags x0.Seq x0.Win ↑(Ev.dlen 1 x0.Data)).snd != 0 then some (T_api_Flow.mk 0 0 0 0 0 0 0 0 0 0 0 0 0 0 0 false false false false 0 0 false, (F_tcp_Begin x0.Flags x0.Seq x0.Win ↑(Ev.dlen 1 x0.Data)).snd) else Ev.bnd (F_flow_kept (T_api_Flow.mk x0.Tuple_Fam x0.Tuple_Proto x0.Tuple_Src_Fam x0.Tuple_Src_Hi x0.Tuple_Src_Lo x0.Tuple_Dst_Fam x0.Tuple_Dst_Hi x0.Tuple_Dst_Lo x0.Tuple_Sport x0.Tuple_Dport (F_tcp_Begin x0.Flags x0.Seq x0.Win ↑(Ev.dlen 1 x0.Data)).fst.State (F_tcp_Begin x0.Flags x0.Seq x0.Win ↑(Ev.dlen 1 x0.Data)).fst.Next_c0 (F_tcp_Begin x0.Flags x0.Seq x0.Win ↑(Ev.dlen 1 x0.Data)).fst.Next_c1 (F_tcp_Begin x0.Flags x0.Seq x0.Win ↑(Ev.dlen 1 x0.Data)).fst.Edge_c0 (F_tcp_Begin x0.Flags x0.Seq x0.Win ↑(Ev.dlen 1 x0.Data)).fst.Edge_c1 (F_tcp_Begin x0.Flags x0.Seq x0.Win ↑(Ev.dlen 1 x0.Data)).fst.Known_c0 (F_tcp_Begin x0.Flags x0.Seq x0.Win ↑(Ev.dlen 1 x0.Data)).fst.Known_c1 (F_tcp_Begin x0.Flags x0.Seq x0.Win ↑(Ev.dlen 1 x0.Data)).fst.Ended_c0 (F_tcp_Begin x0.Flags x0.Seq x0.Win ↑(Ev.dlen 1 x0.Data)).fst.Ended_c1 0 x2 false) x1) fun v3 => some (v3, 0) else bif x0.Tuple_Proto == 1 then Ev.bnd (F_flow_echo x0 0) fun v4 => bif !v4 then some (T_api_Flow.mk 0 0 0 0 0 0 0 0 0 0 0 0 0 0 0 false false false false 0 0 false, 23) else Ev.bnd (F_flow_kept (T_api_Flow.mk x0.Tuple_Fam x0.Tuple_Proto x0.Tuple_Src_Fam x0.Tuple_Src_Hi x0.Tuple_Src_Lo x0.Tuple_Dst_Fam x0.Tuple_Dst_Hi x0.Tuple_Dst_Lo x0.Tuple_Sport x0.Tuple_Dport 0 0 0 0 0 false false false false 0 x2 false) x1) fun v5 => some (v5, 0) else bif x0.Tuple_Proto == 58 then Ev.bnd (F_flow_echo x0 0) fun v6 => bif !v6 then some (T_api_Flow.mk 0 0 0 0 0 0 0 0 0 0 0 0 0 0 0 false false false false 0 0 false, 23) else Ev.bnd (F_flow_kept (T_api_Flow.mk x0.Tuple_Fam x0.Tuple_Proto x0.Tuple_Src_Fam x0.Tuple_Src_Hi x0.Tuple_Src_Lo x0.Tuple_Dst_Fam x0.Tuple_Dst_Hi x0.Tuple_Dst_Lo x0.Tuple_Sport x0.Tuple_Dport 0 0 0 0 0 false false false false 0 x2 false) x1) fun v7 => some (v7, 0) else Ev.bnd (F_flow_kept (T_api_Flow.mk x0.Tuple_Fam x0.Tuple_Proto x0.Tuple_Src_Fam x0.Tuple_Src_Hi x0.Tuple_Src_Lo x0.Tuple_Dst_Fam x0.Tuple_Dst_Hi x0.Tuple_Dst_Lo x0.Tuple_Sport x0.Tuple_Dport 0 0 0 0 0 false false false false 0 x2 false) x1) fun v8 => some (v8, 0)
theorem pr_flow_Start (F_tcp_Begin : Int → Int → Int → Int → (T_api_Conn × Int)) (F_tuple_Right : T_api_Tuple → Option Bool) (F_flow_within : Int → Int → Option Bool) (F_flow_echo : D_api_Seg → Int → Option Bool) (F_flow_kept : T_api_Flow → Int → Option T_api_Flow) (m : Nat) (x0 : D_api_Seg) (x1 : Int) (x2 : Int) : Ev.evBodyD (Es_flow_Start F_tcp_Begin F_tuple_Right F_flow_within F_flow_echo F_flow_kept) MtFa (O_flow_Start F_tcp_Begin F_tuple_Right F_flow_within F_flow_echo F_flow_kept) m 39 [v_api_Seg x0, .int .i64 x1, .int .i64 x2] = Ev.oE E_flow_Start (N_flow_Start F_tcp_Begin F_tuple_Right F_flow_within F_flow_echo F_flow_kept m x0 x1 x2) := by
  simp only [N_flow_Start, Ev.oE_some, Ev.oE_none, Ev.oE_cond, Ev.oE_bnd]
  kernel_rfl
noncomputable def F_flow_Start : D_api_Seg → Int → Int → Option (T_api_Flow × Int) := fun x0 x1 x2 => N_flow_Start F_tcp_Begin F_tuple_Right F_flow_within F_flow_echo F_flow_kept 0 x0 x1 x2
theorem ok_flow_Start : Ev.EnvOk (Ew_flow_Start F_tcp_Begin F_tuple_Right F_flow_within F_flow_echo F_flow_kept) := Ev.envOk_with envOkd (Ev.SpsOk.add (b := false) g_tuple_Right (by kernel_rfl) (Ev.SpsOk.add (b := false) g_flow_within (by kernel_rfl) (Ev.SpsOk.add (b := false) g_flow_echo (by kernel_rfl) (Ev.SpsOk.add (b := false) g_flow_kept (by kernel_rfl) Ev.SpsOk.nil))))
theorem ro_flow_Start (F_tcp_Begin : Int → Int → Int → Int → (T_api_Conn × Int)) (F_tuple_Right : T_api_Tuple → Option Bool) (F_flow_within : Int → Int → Option Bool) (F_flow_echo : D_api_Seg → Int → Option Bool) (F_flow_kept : T_api_Flow → Int → Option T_api_Flow) : Ev.SpecRl (Ew_flow_Start F_tcp_Begin F_tuple_Right F_flow_within F_flow_echo F_flow_kept) := Ev.specRl_with rfl (Ev.SpsRl.cons (rs_tuple_Right _) (Ev.SpsRl.cons (rs_flow_within _) (Ev.SpsRl.cons (rs_flow_echo _) (Ev.SpsRl.cons (rs_flow_kept _) Ev.SpsRl.nil))))
theorem g_flow_Start : Ev.SpOk Try.prog false 39 (s_flow_Start F_flow_Start) := by
  refine Ev.SpOk.mkF fun vs k r g0 => ?_
  unfold s_flow_Start at g0
  obtain ⟨a0, r0, rfl, g1⟩ := Ev.kU_ok g0
  obtain ⟨a1, r1, rfl, g2⟩ := Ev.kU_ok g1
  obtain ⟨a2, r2, rfl, g3⟩ := Ev.kU_ok g2
  obtain ⟨rfl, g4⟩ := Ev.kE_ok g3
  obtain ⟨x0, rfl, g5⟩ := d_api_Seg_ok g4
  obtain ⟨x1, rfl, g6⟩ := Ev.gI_ok g5
  obtain ⟨x2, rfl, g7⟩ := Ev.gI_ok g6
  obtain ⟨x, hx, h⟩ := Ev.bnd_get g7
  have h1 := pr_flow_Start F_tcp_Begin F_tuple_Right F_flow_within F_flow_echo F_flow_kept 0 x0 x1 x2
  rw [show N_flow_Start F_tcp_Begin F_tuple_Right F_flow_within F_flow_echo F_flow_kept 0 x0 x1 x2 = some x from hx] at h1
  exact ⟨_, h, Ev.good_of_inl ok_flow_Start (ro_flow_Start F_tcp_Begin F_tuple_Right F_flow_within F_flow_echo F_flow_kept) rfl rfl (Ev.TabOk.cons g_tcp_Begin Ev.TabOk.nil) 40 12 _ h1⟩
-- flow.Go
-- DEEP flow_Go 44 - T_api_Flow → Int → D_api_Seg → Int → Option (T_api_Flow × Int)
noncomputable def e_flow_Go (x : T_api_Flow × Int) : Value := .tuple ⟨[v_api_Flow (x.1), .int .i64 (x.2)]⟩
noncomputable def E_flow_Go (x : T_api_Flow × Int) : Value × Ev.AH := (e_flow_Go x, ⟨[], 0, []⟩)
noncomputable def s_flow_Go (F : T_api_Flow → Int → D_api_Seg → Int → Option (T_api_Flow × Int)) : Ev.Sp := fun vs k => Ev.kU vs fun a0 r0 => Ev.kU r0 fun a1 r1 => Ev.kU r1 fun a2 r2 => Ev.kU r2 fun a3 r3 => Ev.kE r3 <| d_api_Flow a0 fun x0 => Ev.gI .i64 a1 fun x1 => d_api_Seg a2 fun x2 => Ev.gI .i64 a3 fun x3 => Ev.bnd (F x0 x1 x2 x3) fun x => k (e_flow_Go x)
theorem rs_flow_Go (F : T_api_Flow → Int → D_api_Seg → Int → Option (T_api_Flow × Int)) : Ev.SpRl (s_flow_Go F) := by
  intro S vs k k2 hk
  unfold s_flow_Go
  refine Ev.rl_kU fun _ _ => ?_
  refine Ev.rl_kU fun _ _ => ?_
  refine Ev.rl_kU fun _ _ => ?_
  refine Ev.rl_kU fun _ _ => ?_
  refine Ev.rl_kE ?_
  refine rl_d_api_Flow fun _ => ?_
  refine Ev.rl_gI fun _ => ?_
  refine rl_d_api_Seg fun _ => ?_
  refine Ev.rl_gI fun _ => ?_
  exact Ev.Rl.bnd fun x => hk _
noncomputable def Ew_flow_Go (F_tcp_Step : T_api_Conn → Int → T_r15_Segment → (T_api_Conn × Int)) (F_flow_Right : T_api_Flow → Option Bool) (F_flow_within : Int → Int → Option Bool) (F_tuple_Reverse : T_api_Tuple → Option T_api_Tuple) (F_flow_echo : D_api_Seg → Int → Option Bool) (F_flow_kept : T_api_Flow → Int → Option T_api_Flow) : Ev.Env := Ev.Env.with Ed [(41, s_flow_Right F_flow_Right), (105, s_flow_within F_flow_within), (112, s_tuple_Reverse F_tuple_Reverse), (106, s_flow_echo F_flow_echo), (107, s_flow_kept F_flow_kept)]
noncomputable def Es_flow_Go (F_tcp_Step : T_api_Conn → Int → T_r15_Segment → (T_api_Conn × Int)) (F_flow_Right : T_api_Flow → Option Bool) (F_flow_within : Int → Int → Option Bool) (F_tuple_Reverse : T_api_Tuple → Option T_api_Tuple) (F_flow_echo : D_api_Seg → Int → Option Bool) (F_flow_kept : T_api_Flow → Int → Option T_api_Flow) : Ev.Env := Ev.Env.inl (Ew_flow_Go F_tcp_Step F_flow_Right F_flow_within F_tuple_Reverse F_flow_echo F_flow_kept) MtFa [(35, s_tcp_Step F_tcp_Step)] 40 12
noncomputable def O_flow_Go (F_tcp_Step : T_api_Conn → Int → T_r15_Segment → (T_api_Conn × Int)) (F_flow_Right : T_api_Flow → Option Bool) (F_flow_within : Int → Int → Option Bool) (F_tuple_Reverse : T_api_Tuple → Option T_api_Tuple) (F_flow_echo : D_api_Seg → Int → Option Bool) (F_flow_kept : T_api_Flow → Int → Option T_api_Flow) : Ev.Orc := fun _ _ _ => none
noncomputable def N_flow_Go (F_tcp_Step : T_api_Conn → Int → T_r15_Segment → (T_api_Conn × Int)) (F_flow_Right : T_api_Flow → Option Bool) (F_flow_within : Int → Int → Option Bool) (F_tuple_Reverse : T_api_Tuple → Option T_api_Tuple) (F_flow_echo : D_api_Seg → Int → Option Bool) (F_flow_kept : T_api_Flow → Int → Option T_api_Flow) (m : Nat) (x0 : T_api_Flow) (x1 : Int) (x2 : D_api_Seg) (x3 : Int) : Option (T_api_Flow × Int) := Ev.bnd (F_flow_Right x0) fun v0 => bif !v0 then some (T_api_Flow.mk 0 0 0 0 0 0 0 0 0 0 0 0 0 0 0 false false false false 0 0 false, 1) else Ev.bnd (F_flow_within x1 1) fun v1 => bif !v1 then some (T_api_Flow.mk 0 0 0 0 0 0 0 0 0 0 0 0 0 0 0 false false false false 0 0 false, 1) else Ev.bnd (F_flow_within x3 4611686018427384304) fun v2 => bif !v2 then some (T_api_Flow.mk 0 0 0 0 0 0 0 0 0 0 0 0 0 0 0 false false false false 0 0 false, 1) else bif x1 == 1 then Ev.bnd (F_tuple_Reverse (T_api_Tuple.mk x0.Tuple_Fam x0.Tuple_Proto x0.Tuple_Src_Fam x0.Tuple_Src_Hi x0.Tuple_Src_Lo x0.Tuple_Dst_Fam x0.Tuple_Dst_Hi x0.Tuple_Dst_Lo x0.Tuple_Sport x0.Tuple_Dport)) fun v3 => bif !(x2.Tuple_Fam == v3.Fam && (x2.Tuple_Proto == v3.Proto && (x2.Tuple_Src_Fam == v3.Src_Fam && (x2.Tuple_Src_Hi == v3.Src_Hi && (x2.Tuple_Src_Lo == v3.Src_Lo && (x2.Tuple_Dst_Fam == v3.Dst_Fam && (x2.Tuple_Dst_Hi == v3.Dst_Hi && (x2.Tuple_Dst_Lo == v3.Dst_Lo && (x2.Tuple_Sport == v3.Sport && (x2.Tuple_Dport == v3.Dport && true)))))))))) then some (T_api_Flow.mk 0 0 0 0 0 0 0 0 0 0 0 0 0 0 0 false false false false 0 0 false, 23) else bif v3.Proto == 6 then bif (F_tcp_Step (T_api_Conn.mk x0.Conn_State x0.Conn_Next_c0 x0.Conn_Next_c1 x0.Conn_Edge_c0 x0.Conn_Edge_c1 x0.Conn_Known_c0 x0.Conn_Known_c1 x0.Conn_Ended_c0 x0.Conn_Ended_c1) x1 (T_r15_Segment.mk x2.Flags x2.Win (↑(Ev.dlen 1 x2.Data)) x2.Seq x2.Ack)).snd != 0 then some (T_api_Flow.mk 0 0 0 0 0 0 0 0 0 0 0 0 0 0 0 false false false false 0 0 false, (F_tcp_Step (T_api_Conn.mk x0.Conn_State x0.Conn_Next_c0 x0.Conn_Next_c1 x0.Conn_Edge_c0 x0.Conn_Edge_c1 x0.Conn_Known_c0 x0.Conn_Known_c1 x0.Conn_Ended_c0 x0.Conn_Ended_c1) x1 (T_r15_Segment.mk x2.Flags x2.Win (↑(Ev.dlen 1 x2.Data)) x2.Seq x2.Ack)).snd) else bif x0.Both then Ev.bnd (F_flow_kept (T_api_Flow.mk x0.Tuple_Fam x0.Tuple_Proto x0.Tuple_Src_Fam x0.Tuple_Src_Hi x0.Tuple_Src_Lo x0.Tuple_Dst_Fam x0.Tuple_Dst_Hi x0.Tuple_Dst_Lo x0.Tuple_Sport x0.Tuple_Dport (F_tcp_Step (T_api_Conn.mk x0.Conn_State x0.Conn_Next_c0 x0.Conn_Next_c1 x0.Conn_Edge_c0 x0.Conn_Edge_c1 x0.Conn_Known_c0 x0.Conn_Known_c1 x0.Conn_Ended_c0 x0.Conn_Ended_c1) x1 (T_r15_Segment.mk x2.Flags x2.Win (↑(Ev.dlen 1 x2.Data)) x2.Seq x2.Ack)).fst.State (F_tcp_Step (T_api_Conn.mk x0.Conn_State x0.Conn_Next_c0 x0.Conn_Next_c1 x0.Conn_Edge_c0 x0.Conn_Edge_c1 x0.Conn_Known_c0 x0.Conn_Known_c1 x0.Conn_Ended_c0 x0.Conn_Ended_c1) x1 (T_r15_Segment.mk x2.Flags x2.Win (↑(Ev.dlen 1 x2.Data)) x2.Seq x2.Ack)).fst.Next_c0 (F_tcp_Step (T_api_Conn.mk x0.Conn_State x0.Conn_Next_c0 x0.Conn_Next_c1 x0.Conn_Edge_c0 x0.Conn_Edge_c1 x0.Conn_Known_c0 x0.Conn_Known_c1 x0.Conn_Ended_c0 x0.Conn_Ended_c1) x1 (T_r15_Segment.mk x2.Flags x2.Win (↑(Ev.dlen 1 x2.Data)) x2.Seq x2.Ack)).fst.Next_c1 (F_tcp_Step (T_api_Conn.mk x0.Conn_State x0.Conn_Next_c0 x0.Conn_Next_c1 x0.Conn_Edge_c0 x0.Conn_Edge_c1 x0.Conn_Known_c0 x0.Conn_Known_c1 x0.Conn_Ended_c0 x0.Conn_Ended_c1) x1 (T_r15_Segment.mk x2.Flags x2.Win (↑(Ev.dlen 1 x2.Data)) x2.Seq x2.Ack)).fst.Edge_c0 (F_tcp_Step (T_api_Conn.mk x0.Conn_State x0.Conn_Next_c0 x0.Conn_Next_c1 x0.Conn_Edge_c0 x0.Conn_Edge_c1 x0.Conn_Known_c0 x0.Conn_Known_c1 x0.Conn_Ended_c0 x0.Conn_Ended_c1) x1 (T_r15_Segment.mk x2.Flags x2.Win (↑(Ev.dlen 1 x2.Data)) x2.Seq x2.Ack)).fst.Edge_c1 (F_tcp_Step (T_api_Conn.mk x0.Conn_State x0.Conn_Next_c0 x0.Conn_Next_c1 x0.Conn_Edge_c0 x0.Conn_Edge_c1 x0.Conn_Known_c0 x0.Conn_Known_c1 x0.Conn_Ended_c0 x0.Conn_Ended_c1) x1 (T_r15_Segment.mk x2.Flags x2.Win (↑(Ev.dlen 1 x2.Data)) x2.Seq x2.Ack)).fst.Known_c0 (F_tcp_Step (T_api_Conn.mk x0.Conn_State x0.Conn_Next_c0 x0.Conn_Next_c1 x0.Conn_Edge_c0 x0.Conn_Edge_c1 x0.Conn_Known_c0 x0.Conn_Known_c1 x0.Conn_Ended_c0 x0.Conn_Ended_c1) x1 (T_r15_Segment.mk x2.Flags x2.Win (↑(Ev.dlen 1 x2.Data)) x2.Seq x2.Ack)).fst.Known_c1 (F_tcp_Step (T_api_Conn.mk x0.Conn_State x0.Conn_Next_c0 x0.Conn_Next_c1 x0.Conn_Edge_c0 x0.Conn_Edge_c1 x0.Conn_Known_c0 x0.Conn_Known_c1 x0.Conn_Ended_c0 x0.Conn_Ended_c1) x1 (T_r15_Segment.mk x2.Flags x2.Win (↑(Ev.dlen 1 x2.Data)) x2.Seq x2.Ack)).fst.Ended_c0 (F_tcp_Step (T_api_Conn.mk x0.Conn_State x0.Conn_Next_c0 x0.Conn_Next_c1 x0.Conn_Edge_c0 x0.Conn_Edge_c1 x0.Conn_Known_c0 x0.Conn_Known_c1 x0.Conn_Ended_c0 x0.Conn_Ended_c1) x1 (T_r15_Segment.mk x2.Flags x2.Win (↑(Ev.dlen 1 x2.Data)) x2.Seq x2.Ack)).fst.Ended_c1 x0.Ends x0.Help true) x3) fun v4 => some (v4, 0) else Ev.bnd (F_flow_kept (T_api_Flow.mk x0.Tuple_Fam x0.Tuple_Proto x0.Tuple_Src_Fam x0.Tuple_Src_Hi x0.Tuple_Src_Lo x0.Tuple_Dst_Fam x0.Tuple_Dst_Hi x0.Tuple_Dst_Lo x0.Tuple_Sport x0.Tuple_Dport (F_tcp_Step (T_api_Conn.mk x0.Conn_State x0.Conn_Next_c0 x0.Conn_Next_c1 x0.Conn_Edge_c0 x0.Conn_Edge_c1 x0.Conn_Known_c0 x0.Conn_Known_c1 x0.Conn_Ended_c0 x0.Conn_Ended_c1) x1 (T_r15_Segment.mk x2.Flags x2.Win (↑(Ev.dlen 1 x2.Data)) x2.Seq x2.Ack)).fst.State (F_tcp_Step (T_api_Conn.mk x0.Conn_State x0.Conn_Next_c0 x0.Conn_Next_c1 x0.Conn_Edge_c0 x0.Conn_Edge_c1 x0.Conn_Known_c0 x0.Conn_Known_c1 x0.Conn_Ended_c0 x0.Conn_Ended_c1) x1 (T_r15_Segment.mk x2.Flags x2.Win (↑(Ev.dlen 1 x2.Data)) x2.Seq x2.Ack)).fst.Next_c0 (F_tcp_Step (T_api_Conn.mk x0.Conn_State x0.Conn_Next_c0 x0.Conn_Next_c1 x0.Conn_Edge_c0 x0.Conn_Edge_c1 x0.Conn_Known_c0 x0.Conn_Known_c1 x0.Conn_Ended_c0 x0.Conn_Ended_c1) x1 (T_r15_Segment.mk x2.Flags x2.Win (↑(Ev.dlen 1 x2.Data)) x2.Seq x2.Ack)).fst.Next_c1 (F_tcp_Step (T_api_Conn.mk x0.Conn_State x0.Conn_Next_c0 x0.Conn_Next_c1 x0.Conn_Edge_c0 x0.Conn_Edge_c1 x0.Conn_Known_c0 x0.Conn_Known_c1 x0.Conn_Ended_c0 x0.Conn_Ended_c1) x1 (T_r15_Segment.mk x2.Flags x2.Win (↑(Ev.dlen 1 x2.Data)) x2.Seq x2.Ack)).fst.Edge_c0 (F_tcp_Step (T_api_Conn.mk x0.Conn_State x0.Conn_Next_c0 x0.Conn_Next_c1 x0.Conn_Edge_c0 x0.Conn_Edge_c1 x0.Conn_Known_c0 x0.Conn_Known_c1 x0.Conn_Ended_c0 x0.Conn_Ended_c1) x1 (T_r15_Segment.mk x2.Flags x2.Win (↑(Ev.dlen 1 x2.Data)) x2.Seq x2.Ack)).fst.Edge_c1 (F_tcp_Step (T_api_Conn.mk x0.Conn_State x0.Conn_Next_c0 x0.Conn_Next_c1 x0.Conn_Edge_c0 x0.Conn_Edge_c1 x0.Conn_Known_c0 x0.Conn_Known_c1 x0.Conn_Ended_c0 x0.Conn_Ended_c1) x1 (T_r15_Segment.mk x2.Flags x2.Win (↑(Ev.dlen 1 x2.Data)) x2.Seq x2.Ack)).fst.Known_c0 (F_tcp_Step (T_api_Conn.mk x0.Conn_State x0.Conn_Next_c0 x0.Conn_Next_c1 x0.Conn_Edge_c0 x0.Conn_Edge_c1 x0.Conn_Known_c0 x0.Conn_Known_c1 x0.Conn_Ended_c0 x0.Conn_Ended_c1) x1 (T_r15_Segment.mk x2.Flags x2.Win (↑(Ev.dlen 1 x2.Data)) x2.Seq x2.Ack)).fst.Known_c1 (F_tcp_Step (T_api_Conn.mk x0.Conn_State x0.Conn_Next_c0 x0.Conn_Next_c1 x0.Conn_Edge_c0 x0.Conn_Edge_c1 x0.Conn_Known_c0 x0.Conn_Known_c1 x0.Conn_Ended_c0 x0.Conn_Ended_c1) x1 (T_r15_Segment.mk x2.Flags x2.Win (↑(Ev.dlen 1 x2.Data)) x2.Seq x2.Ack)).fst.Ended_c0 (F_tcp_Step (T_api_Conn.mk x0.Conn_State x0.Conn_Next_c0 x0.Conn_Next_c1 x0.Conn_Edge_c0 x0.Conn_Edge_c1 x0.Conn_Known_c0 x0.Conn_Known_c1 x0.Conn_Ended_c0 x0.Conn_Ended_c1) x1 (T_r15_Segment.mk x2.Flags x2.Win (↑(Ev.dlen 1 x2.Data)) x2.Seq x2.Ack)).fst.Ended_c1 x0.Ends x0.Help (x1 == 1)) x3) fun v5 => some (v5, 0) else bif v3.Proto == 1 then Ev.bnd (F_flow_echo x2 x1) fun v6 => bif !v6 then some (T_api_Flow.mk 0 0 0 0 0 0 0 0 0 0 0 0 0 0 0 false false false false 0 0 false, 23) else bif x0.Both then Ev.bnd (F_flow_kept (T_api_Flow.mk x0.Tuple_Fam x0.Tuple_Proto x0.Tuple_Src_Fam x0.Tuple_Src_Hi x0.Tuple_Src_Lo x0.Tuple_Dst_Fam x0.Tuple_Dst_Hi x0.Tuple_Dst_Lo x0.Tuple_Sport x0.Tuple_Dport x0.Conn_State x0.Conn_Next_c0 x0.Conn_Next_c1 x0.Conn_Edge_c0 x0.Conn_Edge_c1 x0.Conn_Known_c0 x0.Conn_Known_c1 x0.Conn_Ended_c0 x0.Conn_Ended_c1 x0.Ends x0.Help true) x3) fun v7 => some (v7, 0) else Ev.bnd (F_flow_kept (T_api_Flow.mk x0.Tuple_Fam x0.Tuple_Proto x0.Tuple_Src_Fam x0.Tuple_Src_Hi x0.Tuple_Src_Lo x0.Tuple_Dst_Fam x0.Tuple_Dst_Hi x0.Tuple_Dst_Lo x0.Tuple_Sport x0.Tuple_Dport x0.Conn_State x0.Conn_Next_c0 x0.Conn_Next_c1 x0.Conn_Edge_c0 x0.Conn_Edge_c1 x0.Conn_Known_c0 x0.Conn_Known_c1 x0.Conn_Ended_c0 x0.Conn_Ended_c1 x0.Ends x0.Help (x1 == 1)) x3) fun v8 => some (v8, 0) else bif v3.Proto == 58 then Ev.bnd (F_flow_echo x2 x1) fun v9 => bif !v9 then some (T_api_Flow.mk 0 0 0 0 0 0 0 0 0 0 0 0 0 0 0 false false false false 0 0 false, 23) else bif x0.Both then Ev.bnd (F_flow_kept (T_api_Flow.mk x0.Tuple_Fam x0.Tuple_Proto x0.Tuple_Src_Fam x0.Tuple_Src_Hi x0.Tuple_Src_Lo x0.Tuple_Dst_Fam x0.Tuple_Dst_Hi x0.Tuple_Dst_Lo x0.Tuple_Sport x0.Tuple_Dport x0.Conn_State x0.Conn_Next_c0 x0.Conn_Next_c1 x0.Conn_Edge_c0 x0.Conn_Edge_c1 x0.Conn_Known_c0 x0.Conn_Known_c1 x0.Conn_Ended_c0 x0.Conn_Ended_c1 x0.Ends x0.Help true) x3) fun v10 => some (v10, 0) else Ev.bnd (F_flow_kept (T_api_Flow.mk x0.Tuple_Fam x0.Tuple_Proto x0.Tuple_Src_Fam x0.Tuple_Src_Hi x0.Tuple_Src_Lo x0.Tuple_Dst_Fam x0.Tuple_Dst_Hi x0.Tuple_Dst_Lo x0.Tuple_Sport x0.Tuple_Dport x0.Conn_State x0.Conn_Next_c0 x0.Conn_Next_c1 x0.Conn_Edge_c0 x0.Conn_Edge_c1 x0.Conn_Known_c0 x0.Conn_Known_c1 x0.Conn_Ended_c0 x0.Conn_Ended_c1 x0.Ends x0.Help (x1 == 1)) x3) fun v11 => some (v11, 0) else bif x0.Both then Ev.bnd (F_flow_kept (T_api_Flow.mk x0.Tuple_Fam x0.Tuple_Proto x0.Tuple_Src_Fam x0.Tuple_Src_Hi x0.Tuple_Src_Lo x0.Tuple_Dst_Fam x0.Tuple_Dst_Hi x0.Tuple_Dst_Lo x0.Tuple_Sport x0.Tuple_Dport x0.Conn_State x0.Conn_Next_c0 x0.Conn_Next_c1 x0.Conn_Edge_c0 x0.Conn_Edge_c1 x0.Conn_Known_c0 x0.Conn_Known_c1 x0.Conn_Ended_c0 x0.Conn_Ended_c1 x0.Ends x0.Help true) x3) fun v12 => some (v12, 0) else Ev.bnd (F_flow_kept (T_api_Flow.mk x0.Tuple_Fam x0.Tuple_Proto x0.Tuple_Src_Fam x0.Tuple_Src_Hi x0.Tuple_Src_Lo x0.Tuple_Dst_Fam x0.Tuple_Dst_Hi x0.Tuple_Dst_Lo x0.Tuple_Sport x0.Tuple_Dport x0.Conn_State x0.Conn_Next_c0 x0.Conn_Next_c1 x0.Conn_Edge_c0 x0.Conn_Edge_c1 x0.Conn_Known_c0 x0.Conn_Known_c1 x0.Conn_Ended_c0 x0.Conn_Ended_c1 x0.Ends x0.Help (x1 == 1)) x3) fun v13 => some (v13, 0) else bif !(x2.Tuple_Fam == x0.Tuple_Fam && (x2.Tuple_Proto == x0.Tuple_Proto && (x2.Tuple_Src_Fam == x0.Tuple_Src_Fam && (x2.Tuple_Src_Hi == x0.Tuple_Src_Hi && (x2.Tuple_Src_Lo == x0.Tuple_Src_Lo && (x2.Tuple_Dst_Fam == x0.Tuple_Dst_Fam && (x2.Tuple_Dst_Hi == x0.Tuple_Dst_Hi && (x2.Tuple_Dst_Lo == x0.Tuple_Dst_Lo && (x2.Tuple_Sport == x0.Tuple_Sport && (x2.Tuple_Dport == x0.Tuple_Dport && true)))))))))) then some (T_api_Flow.mk 0 0 0 0 0 0 0 0 0 0 0 0 0 0 0 false false false false 0 0 false, 23) else bif x0.Tuple_Proto == 6 then bif (F_tcp_Step (T_api_Conn.mk x0.Conn_State x0.Conn_Next_c0 x0.Conn_Next_c1 x0.Conn_Edge_c0 x0.Conn_Edge_c1 x0.Conn_Known_c0 x0.Conn_Known_c1 x0.Conn_Ended_c0 x0.Conn_Ended_c1) x1 (T_r15_Segment.mk x2.Flags x2.Win (↑(Ev.dlen 1 x2.Data)) x2.Seq x2.Ack)).snd != 0 then some (T_api_Flow.mk 0 0 0 0 0 0 0 0 0 0 0 0 0 0 0 false false false false 0 0 false, (F_tcp_Step (T_api_Conn.mk x0.Conn_State x0.Conn_Next_c0 x0.Conn_Next_c1 x0.Conn_Edge_c0 x0.Conn_Edge_c1 x0.Conn_Known_c0 x0.Conn_Known_c1 x0.Conn_Ended_c0 x0.Conn_Ended_c1) x1 (T_r15_Segment.mk x2.Flags x2.Win (↑(Ev.dlen 1 x2.Data)) x2.Seq x2.Ack)).snd) else bif x0.Both then Ev.bnd (F_flow_kept (T_api_Flow.mk x0.Tuple_Fam x0.Tuple_Proto x0.Tuple_Src_Fam x0.Tuple_Src_Hi x0.Tuple_Src_Lo x0.Tuple_Dst_Fam x0.Tuple_Dst_Hi x0.Tuple_Dst_Lo x0.Tuple_Sport x0.Tuple_Dport (F_tcp_Step (T_api_Conn.mk x0.Conn_State x0.Conn_Next_c0 x0.Conn_Next_c1 x0.Conn_Edge_c0 x0.Conn_Edge_c1 x0.Conn_Known_c0 x0.Conn_Known_c1 x0.Conn_Ended_c0 x0.Conn_Ended_c1) x1 (T_r15_Segment.mk x2.Flags x2.Win (↑(Ev.dlen 1 x2.Data)) x2.Seq x2.Ack)).fst.State (F_tcp_Step (T_api_Conn.mk x0.Conn_State x0.Conn_Next_c0 x0.Conn_Next_c1 x0.Conn_Edge_c0 x0.Conn_Edge_c1 x0.Conn_Known_c0 x0.Conn_Known_c1 x0.Conn_Ended_c0 x0.Conn_Ended_c1) x1 (T_r15_Segment.mk x2.Flags x2.Win (↑(Ev.dlen 1 x2.Data)) x2.Seq x2.Ack)).fst.Next_c0 (F_tcp_Step (T_api_Conn.mk x0.Conn_State x0.Conn_Next_c0 x0.Conn_Next_c1 x0.Conn_Edge_c0 x0.Conn_Edge_c1 x0.Conn_Known_c0 x0.Conn_Known_c1 x0.Conn_Ended_c0 x0.Conn_Ended_c1) x1 (T_r15_Segment.mk x2.Flags x2.Win (↑(Ev.dlen 1 x2.Data)) x2.Seq x2.Ack)).fst.Next_c1 (F_tcp_Step (T_api_Conn.mk x0.Conn_State x0.Conn_Next_c0 x0.Conn_Next_c1 x0.Conn_Edge_c0 x0.Conn_Edge_c1 x0.Conn_Known_c0 x0.Conn_Known_c1 x0.Conn_Ended_c0 x0.Conn_Ended_c1) x1 (T_r15_Segment.mk x2.Flags x2.Win (↑(Ev.dlen 1 x2.Data)) x2.Seq x2.Ack)).fst.Edge_c0 (F_tcp_Step (T_api_Conn.mk x0.Conn_State x0.Conn_Next_c0 x0.Conn_Next_c1 x0.Conn_Edge_c0 x0.Conn_Edge_c1 x0.Conn_Known_c0 x0.Conn_Known_c1 x0.Conn_Ended_c0 x0.Conn_Ended_c1) x1 (T_r15_Segment.mk x2.Flags x2.Win (↑(Ev.dlen 1 x2.Data)) x2.Seq x2.Ack)).fst.Edge_c1 (F_tcp_Step (T_api_Conn.mk x0.Conn_State x0.Conn_Next_c0 x0.Conn_Next_c1 x0.Conn_Edge_c0 x0.Conn_Edge_c1 x0.Conn_Known_c0 x0.Conn_Known_c1 x0.Conn_Ended_c0 x0.Conn_Ended_c1) x1 (T_r15_Segment.mk x2.Flags x2.Win (↑(Ev.dlen 1 x2.Data)) x2.Seq x2.Ack)).fst.Known_c0 (F_tcp_Step (T_api_Conn.mk x0.Conn_State x0.Conn_Next_c0 x0.Conn_Next_c1 x0.Conn_Edge_c0 x0.Conn_Edge_c1 x0.Conn_Known_c0 x0.Conn_Known_c1 x0.Conn_Ended_c0 x0.Conn_Ended_c1) x1 (T_r15_Segment.mk x2.Flags x2.Win (↑(Ev.dlen 1 x2.Data)) x2.Seq x2.Ack)).fst.Known_c1 (F_tcp_Step (T_api_Conn.mk x0.Conn_State x0.Conn_Next_c0 x0.Conn_Next_c1 x0.Conn_Edge_c0 x0.Conn_Edge_c1 x0.Conn_Known_c0 x0.Conn_Known_c1 x0.Conn_Ended_c0 x0.Conn_Ended_c1) x1 (T_r15_Segment.mk x2.Flags x2.Win (↑(Ev.dlen 1 x2.Data)) x2.Seq x2.Ack)).fst.Ended_c0 (F_tcp_Step (T_api_Conn.mk x0.Conn_State x0.Conn_Next_c0 x0.Conn_Next_c1 x0.Conn_Edge_c0 x0.Conn_Edge_c1 x0.Conn_Known_c0 x0.Conn_Known_c1 x0.Conn_Ended_c0 x0.Conn_Ended_c1) x1 (T_r15_Segment.mk x2.Flags x2.Win (↑(Ev.dlen 1 x2.Data)) x2.Seq x2.Ack)).fst.Ended_c1 x0.Ends x0.Help true) x3) fun v14 => some (v14, 0) else Ev.bnd (F_flow_kept (T_api_Flow.mk x0.Tuple_Fam x0.Tuple_Proto x0.Tuple_Src_Fam x0.Tuple_Src_Hi x0.Tuple_Src_Lo x0.Tuple_Dst_Fam x0.Tuple_Dst_Hi x0.Tuple_Dst_Lo x0.Tuple_Sport x0.Tuple_Dport (F_tcp_Step (T_api_Conn.mk x0.Conn_State x0.Conn_Next_c0 x0.Conn_Next_c1 x0.Conn_Edge_c0 x0.Conn_Edge_c1 x0.Conn_Known_c0 x0.Conn_Known_c1 x0.Conn_Ended_c0 x0.Conn_Ended_c1) x1 (T_r15_Segment.mk x2.Flags x2.Win (↑(Ev.dlen 1 x2.Data)) x2.Seq x2.Ack)).fst.State (F_tcp_Step (T_api_Conn.mk x0.Conn_State x0.Conn_Next_c0 x0.Conn_Next_c1 x0.Conn_Edge_c0 x0.Conn_Edge_c1 x0.Conn_Known_c0 x0.Conn_Known_c1 x0.Conn_Ended_c0 x0.Conn_Ended_c1) x1 (T_r15_Segment.mk x2.Flags x2.Win (↑(Ev.dlen 1 x2.Data)) x2.Seq x2.Ack)).fst.Next_c0 (F_tcp_Step (T_api_Conn.mk x0.Conn_State x0.Conn_Next_c0 x0.Conn_Next_c1 x0.Conn_Edge_c0 x0.Conn_Edge_c1 x0.Conn_Known_c0 x0.Conn_Known_c1 x0.Conn_Ended_c0 x0.Conn_Ended_c1) x1 (T_r15_Segment.mk x2.Flags x2.Win (↑(Ev.dlen 1 x2.Data)) x2.Seq x2.Ack)).fst.Next_c1 (F_tcp_Step (T_api_Conn.mk x0.Conn_State x0.Conn_Next_c0 x0.Conn_Next_c1 x0.Conn_Edge_c0 x0.Conn_Edge_c1 x0.Conn_Known_c0 x0.Conn_Known_c1 x0.Conn_Ended_c0 x0.Conn_Ended_c1) x1 (T_r15_Segment.mk x2.Flags x2.Win (↑(Ev.dlen 1 x2.Data)) x2.Seq x2.Ack)).fst.Edge_c0 (F_tcp_Step (T_api_Conn.mk x0.Conn_State x0.Conn_Next_c0 x0.Conn_Next_c1 x0.Conn_Edge_c0 x0.Conn_Edge_c1 x0.Conn_Known_c0 x0.Conn_Known_c1 x0.Conn_Ended_c0 x0.Conn_Ended_c1) x1 (T_r15_Segment.mk x2.Flags x2.Win (↑(Ev.dlen 1 x2.Data)) x2.Seq x2.Ack)).fst.Edge_c1 (F_tcp_Step (T_api_Conn.mk x0.Conn_State x0.Conn_Next_c0 x0.Conn_Next_c1 x0.Conn_Edge_c0 x0.Conn_Edge_c1 x0.Conn_Known_c0 x0.Conn_Known_c1 x0.Conn_Ended_c0 x0.Conn_Ended_c1) x1 (T_r15_Segment.mk x2.Flags x2.Win (↑(Ev.dlen 1 x2.Data)) x2.Seq x2.Ack)).fst.Known_c0 (F_tcp_Step (T_api_Conn.mk x0.Conn_State x0.Conn_Next_c0 x0.Conn_Next_c1 x0.Conn_Edge_c0 x0.Conn_Edge_c1 x0.Conn_Known_c0 x0.Conn_Known_c1 x0.Conn_Ended_c0 x0.Conn_Ended_c1) x1 (T_r15_Segment.mk x2.Flags x2.Win (↑(Ev.dlen 1 x2.Data)) x2.Seq x2.Ack)).fst.Known_c1 (F_tcp_Step (T_api_Conn.mk x0.Conn_State x0.Conn_Next_c0 x0.Conn_Next_c1 x0.Conn_Edge_c0 x0.Conn_Edge_c1 x0.Conn_Known_c0 x0.Conn_Known_c1 x0.Conn_Ended_c0 x0.Conn_Ended_c1) x1 (T_r15_Segment.mk x2.Flags x2.Win (↑(Ev.dlen 1 x2.Data)) x2.Seq x2.Ack)).fst.Ended_c0 (F_tcp_Step (T_api_Conn.mk x0.Conn_State x0.Conn_Next_c0 x0.Conn_Next_c1 x0.Conn_Edge_c0 x0.Conn_Edge_c1 x0.Conn_Known_c0 x0.Conn_Known_c1 x0.Conn_Ended_c0 x0.Conn_Ended_c1) x1 (T_r15_Segment.mk x2.Flags x2.Win (↑(Ev.dlen 1 x2.Data)) x2.Seq x2.Ack)).fst.Ended_c1 x0.Ends x0.Help (x1 == 1)) x3) fun v15 => some (v15, 0) else bif x0.Tuple_Proto == 1 then Ev.bnd (F_flow_echo x2 x1) fun v16 => bif !v16 then some (T_api_Flow.mk 0 0 0 0 0 0 0 0 0 0 0 0 0 0 0 false false false false 0 0 false, 23) else bif x0.Both then Ev.bnd (F_flow_kept (T_api_Flow.mk x0.Tuple_Fam x0.Tuple_Proto x0.Tuple_Src_Fam x0.Tuple_Src_Hi x0.Tuple_Src_Lo x0.Tuple_Dst_Fam x0.Tuple_Dst_Hi x0.Tuple_Dst_Lo x0.Tuple_Sport x0.Tuple_Dport x0.Conn_State x0.Conn_Next_c0 x0.Conn_Next_c1 x0.Conn_Edge_c0 x0.Conn_Edge_c1 x0.Conn_Known_c0 x0.Conn_Known_c1 x0.Conn_Ended_c0 x0.Conn_Ended_c1 x0.Ends x0.Help true) x3) fun v17 => some (v17, 0) else Ev.bnd (F_flow_kept (T_api_Flow.mk x0.Tuple_Fam x0.Tuple_Proto x0.Tuple_Src_Fam x0.Tuple_Src_Hi x0.Tuple_Src_Lo x0.Tuple_Dst_Fam x0.Tuple_Dst_Hi x0.Tuple_Dst_Lo x0.Tuple_Sport x0.Tuple_Dport x0.Conn_State x0.Conn_Next_c0 x0.Conn_Next_c1 x0.Conn_Edge_c0 x0.Conn_Edge_c1 x0.Conn_Known_c0 x0.Conn_Known_c1 x0.Conn_Ended_c0 x0.Conn_Ended_c1 x0.Ends x0.Help (x1 == 1)) x3) fun v18 => some (v18, 0) else bif x0.Tuple_Proto == 58 then Ev.bnd (F_flow_echo x2 x1) fun v19 => bif !v19 then some (T_api_Flow.mk 0 0 0 0 0 0 0 0 0 0 0 0 0 0 0 false false false false 0 0 false, 23) else bif x0.Both then Ev.bnd (F_flow_kept (T_api_Flow.mk x0.Tuple_Fam x0.Tuple_Proto x0.Tuple_Src_Fam x0.Tuple_Src_Hi x0.Tuple_Src_Lo x0.Tuple_Dst_Fam x0.Tuple_Dst_Hi x0.Tuple_Dst_Lo x0.Tuple_Sport x0.Tuple_Dport x0.Conn_State x0.Conn_Next_c0 x0.Conn_Next_c1 x0.Conn_Edge_c0 x0.Conn_Edge_c1 x0.Conn_Known_c0 x0.Conn_Known_c1 x0.Conn_Ended_c0 x0.Conn_Ended_c1 x0.Ends x0.Help true) x3) fun v20 => some (v20, 0) else Ev.bnd (F_flow_kept (T_api_Flow.mk x0.Tuple_Fam x0.Tuple_Proto x0.Tuple_Src_Fam x0.Tuple_Src_Hi x0.Tuple_Src_Lo x0.Tuple_Dst_Fam x0.Tuple_Dst_Hi x0.Tuple_Dst_Lo x0.Tuple_Sport x0.Tuple_Dport x0.Conn_State x0.Conn_Next_c0 x0.Conn_Next_c1 x0.Conn_Edge_c0 x0.Conn_Edge_c1 x0.Conn_Known_c0 x0.Conn_Known_c1 x0.Conn_Ended_c0 x0.Conn_Ended_c1 x0.Ends x0.Help (x1 == 1)) x3) fun v21 => some (v21, 0) else bif x0.Both then Ev.bnd (F_flow_kept (T_api_Flow.mk x0.Tuple_Fam x0.Tuple_Proto x0.Tuple_Src_Fam x0.Tuple_Src_Hi x0.Tuple_Src_Lo x0.Tuple_Dst_Fam x0.Tuple_Dst_Hi x0.Tuple_Dst_Lo x0.Tuple_Sport x0.Tuple_Dport x0.Conn_State x0.Conn_Next_c0 x0.Conn_Next_c1 x0.Conn_Edge_c0 x0.Conn_Edge_c1 x0.Conn_Known_c0 x0.Conn_Known_c1 x0.Conn_Ended_c0 x0.Conn_Ended_c1 x0.Ends x0.Help true) x3) fun v22 => some (v22, 0) else Ev.bnd (F_flow_kept (T_api_Flow.mk x0.Tuple_Fam x0.Tuple_Proto x0.Tuple_Src_Fam x0.Tuple_Src_Hi x0.Tuple_Src_Lo x0.Tuple_Dst_Fam x0.Tuple_Dst_Hi x0.Tuple_Dst_Lo x0.Tuple_Sport x0.Tuple_Dport x0.Conn_State x0.Conn_Next_c0 x0.Conn_Next_c1 x0.Conn_Edge_c0 x0.Conn_Edge_c1 x0.Conn_Known_c0 x0.Conn_Known_c1 x0.Conn_Ended_c0 x0.Conn_Ended_c1 x0.Ends x0.Help (x1 == 1)) x3) fun v23 => some (v23, 0)
theorem pr_flow_Go (F_tcp_Step : T_api_Conn → Int → T_r15_Segment → (T_api_Conn × Int)) (F_flow_Right : T_api_Flow → Option Bool) (F_flow_within : Int → Int → Option Bool) (F_tuple_Reverse : T_api_Tuple → Option T_api_Tuple) (F_flow_echo : D_api_Seg → Int → Option Bool) (F_flow_kept : T_api_Flow → Int → Option T_api_Flow) (m : Nat) (x0 : T_api_Flow) (x1 : Int) (x2 : D_api_Seg) (x3 : Int) : Ev.evBodyD (Es_flow_Go F_tcp_Step F_flow_Right F_flow_within F_tuple_Reverse F_flow_echo F_flow_kept) MtFa (O_flow_Go F_tcp_Step F_flow_Right F_flow_within F_tuple_Reverse F_flow_echo F_flow_kept) m 44 [v_api_Flow x0, .int .i64 x1, v_api_Seg x2, .int .i64 x3] = Ev.oE E_flow_Go (N_flow_Go F_tcp_Step F_flow_Right F_flow_within F_tuple_Reverse F_flow_echo F_flow_kept m x0 x1 x2 x3) := by
  simp only [N_flow_Go, Ev.oE_some, Ev.oE_none, Ev.oE_cond, Ev.oE_bnd]
  kernel_rfl
noncomputable def F_flow_Go : T_api_Flow → Int → D_api_Seg → Int → Option (T_api_Flow × Int) := fun x0 x1 x2 x3 => N_flow_Go F_tcp_Step F_flow_Right F_flow_within F_tuple_Reverse F_flow_echo F_flow_kept 0 x0 x1 x2 x3
theorem ok_flow_Go : Ev.EnvOk (Ew_flow_Go F_tcp_Step F_flow_Right F_flow_within F_tuple_Reverse F_flow_echo F_flow_kept) := Ev.envOk_with envOkd (Ev.SpsOk.add (b := false) g_flow_Right (by kernel_rfl) (Ev.SpsOk.add (b := false) g_flow_within (by kernel_rfl) (Ev.SpsOk.add (b := false) g_tuple_Reverse (by kernel_rfl) (Ev.SpsOk.add (b := false) g_flow_echo (by kernel_rfl) (Ev.SpsOk.add (b := false) g_flow_kept (by kernel_rfl) Ev.SpsOk.nil)))))
theorem ro_flow_Go (F_tcp_Step : T_api_Conn → Int → T_r15_Segment → (T_api_Conn × Int)) (F_flow_Right : T_api_Flow → Option Bool) (F_flow_within : Int → Int → Option Bool) (F_tuple_Reverse : T_api_Tuple → Option T_api_Tuple) (F_flow_echo : D_api_Seg → Int → Option Bool) (F_flow_kept : T_api_Flow → Int → Option T_api_Flow) : Ev.SpecRl (Ew_flow_Go F_tcp_Step F_flow_Right F_flow_within F_tuple_Reverse F_flow_echo F_flow_kept) := Ev.specRl_with rfl (Ev.SpsRl.cons (rs_flow_Right _) (Ev.SpsRl.cons (rs_flow_within _) (Ev.SpsRl.cons (rs_tuple_Reverse _) (Ev.SpsRl.cons (rs_flow_echo _) (Ev.SpsRl.cons (rs_flow_kept _) Ev.SpsRl.nil)))))
theorem g_flow_Go : Ev.SpOk Try.prog false 44 (s_flow_Go F_flow_Go) := by
  refine Ev.SpOk.mkF fun vs k r g0 => ?_
  unfold s_flow_Go at g0
  obtain ⟨a0, r0, rfl, g1⟩ := Ev.kU_ok g0
  obtain ⟨a1, r1, rfl, g2⟩ := Ev.kU_ok g1
  obtain ⟨a2, r2, rfl, g3⟩ := Ev.kU_ok g2
  obtain ⟨a3, r3, rfl, g4⟩ := Ev.kU_ok g3
  obtain ⟨rfl, g5⟩ := Ev.kE_ok g4
  obtain ⟨x0, rfl, g6⟩ := d_api_Flow_ok g5
  obtain ⟨x1, rfl, g7⟩ := Ev.gI_ok g6
  obtain ⟨x2, rfl, g8⟩ := d_api_Seg_ok g7
  obtain ⟨x3, rfl, g9⟩ := Ev.gI_ok g8
  obtain ⟨x, hx, h⟩ := Ev.bnd_get g9
  have h1 := pr_flow_Go F_tcp_Step F_flow_Right F_flow_within F_tuple_Reverse F_flow_echo F_flow_kept 0 x0 x1 x2 x3
  rw [show N_flow_Go F_tcp_Step F_flow_Right F_flow_within F_tuple_Reverse F_flow_echo F_flow_kept 0 x0 x1 x2 x3 = some x from hx] at h1
  exact ⟨_, h, Ev.good_of_inl ok_flow_Go (ro_flow_Go F_tcp_Step F_flow_Right F_flow_within F_tuple_Reverse F_flow_echo F_flow_kept) rfl rfl (Ev.TabOk.cons g_tcp_Step Ev.TabOk.nil) 40 12 _ h1⟩
end Go.Proofs.Yteljeekapcenlaa
