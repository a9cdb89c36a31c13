/-
  'FlowNobody', evaluated whole. No conditions.
-/
import Derived.Test.YteljeekapcenlaaEnv
namespace Go.Proofs.Yteljeekapcenlaa
open Go
set_option linter.unusedVariables false
set_option linter.unusedSimpArgs false
@[ext] structure T_api_Flow where
  Tuple_Fam : Int
  Tuple_Proto : Int
  Tuple_Src_Fam : Int
  Tuple_Src_Hi : Int
  Tuple_Src_Lo : Int
  Tuple_Dst_Fam : Int
  Tuple_Dst_Hi : Int
  Tuple_Dst_Lo : Int
  Tuple_Sport : Int
  Tuple_Dport : Int
  Conn_State : Int
  Conn_Next_c0 : Int
  Conn_Next_c1 : Int
  Conn_Edge_c0 : Int
  Conn_Edge_c1 : Int
  Conn_Known_c0 : Bool
  Conn_Known_c1 : Bool
  Conn_Ended_c0 : Bool
  Conn_Ended_c1 : Bool
  Ends : Int
  Help : Int
  Both : Bool
noncomputable def c_api_Flow (x : T_api_Flow) : List Value := [.int .i64 x.Tuple_Fam, .int .i64 x.Tuple_Proto, .int .i64 x.Tuple_Src_Fam, .int .u64 x.Tuple_Src_Hi, .int .u64 x.Tuple_Src_Lo, .int .i64 x.Tuple_Dst_Fam, .int .u64 x.Tuple_Dst_Hi, .int .u64 x.Tuple_Dst_Lo, .int .i64 x.Tuple_Sport, .int .i64 x.Tuple_Dport, .int .i64 x.Conn_State, .int .u32 x.Conn_Next_c0, .int .u32 x.Conn_Next_c1, .int .u32 x.Conn_Edge_c0, .int .u32 x.Conn_Edge_c1, .bool x.Conn_Known_c0, .bool x.Conn_Known_c1, .bool x.Conn_Ended_c0, .bool x.Conn_Ended_c1, .int .i64 x.Ends, .int .i64 x.Help, .bool x.Both]
noncomputable def v_api_Flow (x : T_api_Flow) : Value := .agg ⟨[.int .i64 x.Tuple_Fam, .int .i64 x.Tuple_Proto, .int .i64 x.Tuple_Src_Fam, .int .u64 x.Tuple_Src_Hi, .int .u64 x.Tuple_Src_Lo, .int .i64 x.Tuple_Dst_Fam, .int .u64 x.Tuple_Dst_Hi, .int .u64 x.Tuple_Dst_Lo, .int .i64 x.Tuple_Sport, .int .i64 x.Tuple_Dport, .int .i64 x.Conn_State, .int .u32 x.Conn_Next_c0, .int .u32 x.Conn_Next_c1, .int .u32 x.Conn_Edge_c0, .int .u32 x.Conn_Edge_c1, .bool x.Conn_Known_c0, .bool x.Conn_Known_c1, .bool x.Conn_Ended_c0, .bool x.Conn_Ended_c1, .int .i64 x.Ends, .int .i64 x.Help, .bool x.Both]⟩
noncomputable def u_api_Flow (v : Value) : T_api_Flow := match v with | .agg ⟨[a0, a1, a2, a3, a4, a5, a6, a7, a8, a9, a10, a11, a12, a13, a14, a15, a16, a17, a18, a19, a20, a21]⟩ => ⟨Ev.uI a0, Ev.uI a1, Ev.uI a2, Ev.uI a3, Ev.uI a4, Ev.uI a5, Ev.uI a6, Ev.uI a7, Ev.uI a8, Ev.uI a9, Ev.uI a10, Ev.uI a11, Ev.uI a12, Ev.uI a13, Ev.uI a14, Ev.uB a15, Ev.uB a16, Ev.uB a17, Ev.uB a18, Ev.uI a19, Ev.uI a20, Ev.uB a21⟩ | _ => ⟨0, 0, 0, 0, 0, 0, 0, 0, 0, 0, 0, 0, 0, 0, 0, false, false, false, false, 0, 0, false⟩
noncomputable def d_api_Flow (v : Value) (c : T_api_Flow → Ev.Res) : Ev.Res := match v with | .agg ⟨[a0, a1, a2, a3, a4, a5, a6, a7, a8, a9, a10, a11, a12, a13, a14, a15, a16, a17, a18, a19, a20, a21]⟩ => Ev.gI .i64 a0 fun b0 => Ev.gI .i64 a1 fun b1 => Ev.gI .i64 a2 fun b2 => Ev.gI .u64 a3 fun b3 => Ev.gI .u64 a4 fun b4 => Ev.gI .i64 a5 fun b5 => Ev.gI .u64 a6 fun b6 => Ev.gI .u64 a7 fun b7 => Ev.gI .i64 a8 fun b8 => Ev.gI .i64 a9 fun b9 => Ev.gI .i64 a10 fun b10 => Ev.gI .u32 a11 fun b11 => Ev.gI .u32 a12 fun b12 => Ev.gI .u32 a13 fun b13 => Ev.gI .u32 a14 fun b14 => Ev.gB a15 fun b15 => Ev.gB a16 fun b16 => Ev.gB a17 fun b17 => Ev.gB a18 fun b18 => Ev.gI .i64 a19 fun b19 => Ev.gI .i64 a20 fun b20 => Ev.gB a21 fun b21 => c ⟨b0, b1, b2, b3, b4, b5, b6, b7, b8, b9, b10, b11, b12, b13, b14, b15, b16, b17, b18, b19, b20, b21⟩ | _ => none
theorem d_api_Flow_ok {v : Value} {c : T_api_Flow → Ev.Res} {r : Value × Ev.AH} (h : d_api_Flow v c = some r) : ∃ x, v = v_api_Flow x ∧ c x = some r := by
  unfold d_api_Flow at h
  split at h
  · obtain ⟨b0, rfl, h0⟩ := Ev.gI_ok h
    obtain ⟨b1, rfl, h1⟩ := Ev.gI_ok h0
    obtain ⟨b2, rfl, h2⟩ := Ev.gI_ok h1
    obtain ⟨b3, rfl, h3⟩ := Ev.gI_ok h2
    obtain ⟨b4, rfl, h4⟩ := Ev.gI_ok h3
    obtain ⟨b5, rfl, h5⟩ := Ev.gI_ok h4
    obtain ⟨b6, rfl, h6⟩ := Ev.gI_ok h5
    obtain ⟨b7, rfl, h7⟩ := Ev.gI_ok h6
    obtain ⟨b8, rfl, h8⟩ := Ev.gI_ok h7
    obtain ⟨b9, rfl, h9⟩ := Ev.gI_ok h8
    obtain ⟨b10, rfl, h10⟩ := Ev.gI_ok h9
    obtain ⟨b11, rfl, h11⟩ := Ev.gI_ok h10
    obtain ⟨b12, rfl, h12⟩ := Ev.gI_ok h11
    obtain ⟨b13, rfl, h13⟩ := Ev.gI_ok h12
    obtain ⟨b14, rfl, h14⟩ := Ev.gI_ok h13
    obtain ⟨b15, rfl, h15⟩ := Ev.gB_ok h14
    obtain ⟨b16, rfl, h16⟩ := Ev.gB_ok h15
    obtain ⟨b17, rfl, h17⟩ := Ev.gB_ok h16
    obtain ⟨b18, rfl, h18⟩ := Ev.gB_ok h17
    obtain ⟨b19, rfl, h19⟩ := Ev.gI_ok h18
    obtain ⟨b20, rfl, h20⟩ := Ev.gI_ok h19
    obtain ⟨b21, rfl, h21⟩ := Ev.gB_ok h20
    exact ⟨⟨b0, b1, b2, b3, b4, b5, b6, b7, b8, b9, b10, b11, b12, b13, b14, b15, b16, b17, b18, b19, b20, b21⟩, rfl, h21⟩
  · cases h
noncomputable def EcFlowNobody : Ev.Env := ⟨Try.prog, tys, { mode := fun _ => 0, clear := clearOf, lit := lits, nrm := false }⟩
theorem envOkcFlowNobody : Ev.EnvOk EcFlowNobody := ⟨fits, names_ok, mixed_ok, fun _ _ h => (by cases h), fun _ _ h => (by cases h)⟩
theorem run_law16_FlowNobody (x0 : T_api_Flow) (x1 : Int) : Ev.evBody0 EcFlowNobody (Ev.evTab EcFlowNobody [] 60 40) (fun s => Ev.loopN s 60) 15 [v_api_Flow x0, .int .i64 x1] ⟨[], 0, []⟩ = Ev.ret (.bool true) := by kernel_rfl
theorem good_law16_FlowNobody (x0 : T_api_Flow) (x1 : Int) : Ev.Good Try.prog 15 [v_api_Flow x0, .int .i64 x1] ⟨[], 0, []⟩ (.bool true, ⟨[], 0, []⟩) := Ev.good_plain envOkcFlowNobody Ev.TabOk.nil (run_law16_FlowNobody x0 x1) (by kernel_rfl) (by kernel_rfl) ⟨[], 0, []⟩
end Go.Proofs.Yteljeekapcenlaa
