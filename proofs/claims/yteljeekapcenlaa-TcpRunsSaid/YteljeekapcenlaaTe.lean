/-
  Functions of the seat's program, printed by a program of ours: what each comes to, and that it is so. No conditions.
-/
import Derived.Test.YteljeekapcenlaaTa
import Derived.Test.YteljeekapcenlaaTb
import Derived.Test.YteljeekapcenlaaTc
namespace Go.Proofs.Yteljeekapcenlaa
open Go
set_option linter.unusedVariables false
set_option linter.unusedSimpArgs false
@[ext] structure T_2_uint32 where
  c0 : Int
  c1 : Int
noncomputable def c_2_uint32 (x : T_2_uint32) : List Value := [.int .u32 x.c0, .int .u32 x.c1]
noncomputable def v_2_uint32 (x : T_2_uint32) : Value := .agg ⟨[.int .u32 x.c0, .int .u32 x.c1]⟩
noncomputable def u_2_uint32 (v : Value) : T_2_uint32 := match v with | .agg ⟨[a0, a1]⟩ => ⟨Ev.uI a0, Ev.uI a1⟩ | _ => ⟨0, 0⟩
noncomputable def d_2_uint32 (v : Value) (c : T_2_uint32 → Ev.Res) : Ev.Res := match v with | .agg ⟨[a0, a1]⟩ => Ev.gI .u32 a0 fun b0 => Ev.gI .u32 a1 fun b1 => c ⟨b0, b1⟩ | _ => none
theorem d_2_uint32_ok {v : Value} {c : T_2_uint32 → Ev.Res} {r : Value × Ev.AH} (h : d_2_uint32 v c = some r) : ∃ x, v = v_2_uint32 x ∧ c x = some r := by
  unfold d_2_uint32 at h
  split at h
  · obtain ⟨b0, rfl, h0⟩ := Ev.gI_ok h
    obtain ⟨b1, rfl, h1⟩ := Ev.gI_ok h0
    exact ⟨⟨b0, b1⟩, rfl, h1⟩
  · cases h
set_option maxRecDepth 10000 in
noncomputable def el_r15_Segment : Ev.El tys T_r15_Segment where
  t := 24
  i := ti24
  get := by kernel_rfl
  cells := c_r15_Segment
  val := v_r15_Segment
  len := fun _ => rfl
  pos := by decide
  ld := fun P p a H c x hr hx => Ev.ldX_agg (i := ti24) (by kernel_rfl) (by kernel_rfl) hr hx rfl (fun k => (by kernel_rfl)) (by kernel_rfl)
  one := fun _ => rfl
  cv := fun _ => rfl
  inj := by
    intro x y h
    unfold c_r15_Segment at h
    simp only [List.cons.injEq, Value.int.injEq, Value.bool.injEq, Value.string.injEq, Value.slice.injEq, Value.pointer.injEq, Value.map.injEq, true_and, and_true] at h
    exact T_r15_Segment.ext h.1 h.2.1 h.2.2.1 h.2.2.2.1 h.2.2.2.2
set_option maxRecDepth 10000 in
noncomputable def el_2_uint32 : Ev.El tys T_2_uint32 where
  t := 25
  i := ti25
  get := by kernel_rfl
  cells := c_2_uint32
  val := v_2_uint32
  len := fun _ => rfl
  pos := by decide
  ld := fun P p a H c x hr hx => Ev.ldX_agg (i := ti25) (by kernel_rfl) (by kernel_rfl) hr hx rfl (fun k => (by kernel_rfl)) (by kernel_rfl)
  one := fun _ => rfl
  cv := fun _ => rfl
  inj := by
    intro x y h
    unfold c_2_uint32 at h
    simp only [List.cons.injEq, Value.int.injEq, Value.bool.injEq, Value.string.injEq, Value.slice.injEq, Value.pointer.injEq, Value.map.injEq, true_and, and_true] at h
    exact T_2_uint32.ext h.1 h.2
set_option maxRecDepth 10000 in
noncomputable def el_api_Conn : Ev.El tys T_api_Conn where
  t := 28
  i := ti28
  get := by kernel_rfl
  cells := c_api_Conn
  val := v_api_Conn
  len := fun _ => rfl
  pos := by decide
  ld := fun P p a H c x hr hx => Ev.ldX_agg (i := ti28) (by kernel_rfl) (by kernel_rfl) hr hx rfl (fun k => (by kernel_rfl)) (by kernel_rfl)
  one := fun _ => rfl
  cv := fun _ => rfl
  inj := by
    intro x y h
    unfold c_api_Conn at h
    simp only [List.cons.injEq, Value.int.injEq, Value.bool.injEq, Value.string.injEq, Value.slice.injEq, Value.pointer.injEq, Value.map.injEq, true_and, and_true] at h
    exact T_api_Conn.ext h.1 h.2.1 h.2.2.1 h.2.2.2.1 h.2.2.2.2.1 h.2.2.2.2.2.1 h.2.2.2.2.2.2.1 h.2.2.2.2.2.2.2.1 h.2.2.2.2.2.2.2.2
noncomputable def el_int : Ev.El tys Int where
  t := 3
  i := ti3
  get := by kernel_rfl
  cells := fun x => [.int .i64 x]
  val := fun x => .int .i64 x
  len := fun _ => rfl
  pos := by decide
  ld := fun P p a H c x hr hx => Ev.ldX_one (i := ti3) (kd := .int .i64) (by kernel_rfl) (by kernel_rfl) (by kernel_rfl) hr (Ev.take_one hx) (fun k => (by kernel_rfl)) (by kernel_rfl)
  one := fun _ => rfl
  cv := fun _ => rfl
  inj := by
    intro x y h
    simp only [List.cons.injEq, Value.int.injEq, Value.bool.injEq, Value.string.injEq, Value.slice.injEq, Value.pointer.injEq, Value.map.injEq, true_and, and_true] at h
    exact h
noncomputable def el_uint32 : Ev.El tys Int where
  t := 22
  i := ti22
  get := by kernel_rfl
  cells := fun x => [.int .u32 x]
  val := fun x => .int .u32 x
  len := fun _ => rfl
  pos := by decide
  ld := fun P p a H c x hr hx => Ev.ldX_one (i := ti22) (kd := .int .u32) (by kernel_rfl) (by kernel_rfl) (by kernel_rfl) hr (Ev.take_one hx) (fun k => (by kernel_rfl)) (by kernel_rfl)
  one := fun _ => rfl
  cv := fun _ => rfl
  inj := by
    intro x y h
    simp only [List.cons.injEq, Value.int.injEq, Value.bool.injEq, Value.string.injEq, Value.slice.injEq, Value.pointer.injEq, Value.map.injEq, true_and, and_true] at h
    exact h
end Go.Proofs.Yteljeekapcenlaa
