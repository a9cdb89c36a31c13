/-
  Functions of the seat's program: what each answers, as one expression, and that it is so. No conditions.
-/
import Derived.Test.YtkpcfdkkfpbjdaaEnv
import Derived.Test.YtkpcfdkkfpbjdaaEvN
namespace Go.Proofs.Ytkpcfdkkfpbjdaa
open Go
set_option linter.unusedVariables false
set_option linter.unusedSimpArgs false
structure T23 where
  f0 : Int
  f1 : Int
  f2 : Int
noncomputable def v23 (x : T23) : Value := .agg ⟨[.int .i64 x.f0, .int .u64 x.f1, .int .u64 x.f2]⟩
noncomputable def u23 (v : Value) : T23 := match v with | .agg ⟨[a0, a1, a2]⟩ => ⟨Ev.uI a0, Ev.uI a1, Ev.uI a2⟩ | _ => ⟨0, 0, 0⟩
noncomputable def d23 (v : Value) (c : T23 → Ev.Res) : Ev.Res := match v with | .agg ⟨[a0, a1, a2]⟩ => Ev.gI .i64 a0 fun b0 => Ev.gI .u64 a1 fun b1 => Ev.gI .u64 a2 fun b2 => c ⟨b0, b1, b2⟩ | _ => none
theorem d23_ok {v : Value} {c : T23 → Ev.Res} {r : Value × Ev.AH} (h : d23 v c = some r) : ∃ x, v = v23 x ∧ c x = some r := by
  unfold d23 at h
  split at h
  · obtain ⟨b0, rfl, h0⟩ := Ev.gI_ok h
    obtain ⟨b1, rfl, h1⟩ := Ev.gI_ok h0
    obtain ⟨b2, rfl, h2⟩ := Ev.gI_ok h1
    exact ⟨⟨b0, b1, b2⟩, rfl, h2⟩
  · cases h
structure T25 where
  f0 : Int
  f1 : Int
  f2 : Int
  f3 : Int
  f4 : Int
  f5 : Int
  f6 : Int
  f7 : Int
  f8 : Int
  f9 : Int
noncomputable def v25 (x : T25) : Value := .agg ⟨[.int .i64 x.f0, .int .i64 x.f1, .int .i64 x.f2, .int .u64 x.f3, .int .u64 x.f4, .int .i64 x.f5, .int .u64 x.f6, .int .u64 x.f7, .int .i64 x.f8, .int .i64 x.f9]⟩
noncomputable def u25 (v : Value) : T25 := match v with | .agg ⟨[a0, a1, a2, a3, a4, a5, a6, a7, a8, a9]⟩ => ⟨Ev.uI a0, Ev.uI a1, Ev.uI a2, Ev.uI a3, Ev.uI a4, Ev.uI a5, Ev.uI a6, Ev.uI a7, Ev.uI a8, Ev.uI a9⟩ | _ => ⟨0, 0, 0, 0, 0, 0, 0, 0, 0, 0⟩
noncomputable def d25 (v : Value) (c : T25 → Ev.Res) : Ev.Res := match v with | .agg ⟨[a0, a1, a2, a3, a4, a5, a6, a7, a8, a9]⟩ => Ev.gI .i64 a0 fun b0 => Ev.gI .i64 a1 fun b1 => Ev.gI .i64 a2 fun b2 => Ev.gI .u64 a3 fun b3 => Ev.gI .u64 a4 fun b4 => Ev.gI .i64 a5 fun b5 => Ev.gI .u64 a6 fun b6 => Ev.gI .u64 a7 fun b7 => Ev.gI .i64 a8 fun b8 => Ev.gI .i64 a9 fun b9 => c ⟨b0, b1, b2, b3, b4, b5, b6, b7, b8, b9⟩ | _ => none
theorem d25_ok {v : Value} {c : T25 → Ev.Res} {r : Value × Ev.AH} (h : d25 v c = some r) : ∃ x, v = v25 x ∧ c x = some r := by
  unfold d25 at h
  split at h
  · obtain ⟨b0, rfl, h0⟩ := Ev.gI_ok h
    obtain ⟨b1, rfl, h1⟩ := Ev.gI_ok h0
    obtain ⟨b2, rfl, h2⟩ := Ev.gI_ok h1
    obtain ⟨b3, rfl, h3⟩ := Ev.gI_ok h2
    obtain ⟨b4, rfl, h4⟩ := Ev.gI_ok h3
    obtain ⟨b5, rfl, h5⟩ := Ev.gI_ok h4
    obtain ⟨b6, rfl, h6⟩ := Ev.gI_ok h5
    obtain ⟨b7, rfl, h7⟩ := Ev.gI_ok h6
    obtain ⟨b8, rfl, h8⟩ := Ev.gI_ok h7
    obtain ⟨b9, rfl, h9⟩ := Ev.gI_ok h8
    exact ⟨⟨b0, b1, b2, b3, b4, b5, b6, b7, b8, b9⟩, rfl, h9⟩
  · cases h
structure T27 where
  f0 : Int
  f1 : Int
  f2 : Int
  f3 : Int
  f4 : Int
  f5 : Int
  f6 : Int
  f7 : Int
  f8 : Int
  f9 : Int
  f10 : Int
  f11 : Int
  f12 : Int
  f13 : Int
  f14 : Int
  f15 : Int
  f16 : Int
  f17 : Int
  f18 : Int
  f19 : Int
  f20 : Int
  f21 : Int
noncomputable def v27 (x : T27) : Value := .agg ⟨[.int .i64 x.f0, .int .i64 x.f1, .int .i64 x.f2, .int .u64 x.f3, .int .u64 x.f4, .int .i64 x.f5, .int .u64 x.f6, .int .u64 x.f7, .int .i64 x.f8, .int .i64 x.f9, .int .i64 x.f10, .int .i64 x.f11, .int .i64 x.f12, .int .u64 x.f13, .int .u64 x.f14, .int .i64 x.f15, .int .u64 x.f16, .int .u64 x.f17, .int .i64 x.f18, .int .i64 x.f19, .int .i64 x.f20, .int .i64 x.f21]⟩
noncomputable def u27 (v : Value) : T27 := match v with | .agg ⟨[a0, a1, a2, a3, a4, a5, a6, a7, a8, a9, a10, a11, a12, a13, a14, a15, a16, a17, a18, a19, a20, a21]⟩ => ⟨Ev.uI a0, Ev.uI a1, Ev.uI a2, Ev.uI a3, Ev.uI a4, Ev.uI a5, Ev.uI a6, Ev.uI a7, Ev.uI a8, Ev.uI a9, Ev.uI a10, Ev.uI a11, Ev.uI a12, Ev.uI a13, Ev.uI a14, Ev.uI a15, Ev.uI a16, Ev.uI a17, Ev.uI a18, Ev.uI a19, Ev.uI a20, Ev.uI a21⟩ | _ => ⟨0, 0, 0, 0, 0, 0, 0, 0, 0, 0, 0, 0, 0, 0, 0, 0, 0, 0, 0, 0, 0, 0⟩
noncomputable def d27 (v : Value) (c : T27 → Ev.Res) : Ev.Res := match v with | .agg ⟨[a0, a1, a2, a3, a4, a5, a6, a7, a8, a9, a10, a11, a12, a13, a14, a15, a16, a17, a18, a19, a20, a21]⟩ => Ev.gI .i64 a0 fun b0 => Ev.gI .i64 a1 fun b1 => Ev.gI .i64 a2 fun b2 => Ev.gI .u64 a3 fun b3 => Ev.gI .u64 a4 fun b4 => Ev.gI .i64 a5 fun b5 => Ev.gI .u64 a6 fun b6 => Ev.gI .u64 a7 fun b7 => Ev.gI .i64 a8 fun b8 => Ev.gI .i64 a9 fun b9 => Ev.gI .i64 a10 fun b10 => Ev.gI .i64 a11 fun b11 => Ev.gI .i64 a12 fun b12 => Ev.gI .u64 a13 fun b13 => Ev.gI .u64 a14 fun b14 => Ev.gI .i64 a15 fun b15 => Ev.gI .u64 a16 fun b16 => Ev.gI .u64 a17 fun b17 => Ev.gI .i64 a18 fun b18 => Ev.gI .i64 a19 fun b19 => Ev.gI .i64 a20 fun b20 => Ev.gI .i64 a21 fun b21 => c ⟨b0, b1, b2, b3, b4, b5, b6, b7, b8, b9, b10, b11, b12, b13, b14, b15, b16, b17, b18, b19, b20, b21⟩ | _ => none
theorem d27_ok {v : Value} {c : T27 → Ev.Res} {r : Value × Ev.AH} (h : d27 v c = some r) : ∃ x, v = v27 x ∧ c x = some r := by
  unfold d27 at h
  split at h
  · obtain ⟨b0, rfl, h0⟩ := Ev.gI_ok h
    obtain ⟨b1, rfl, h1⟩ := Ev.gI_ok h0
    obtain ⟨b2, rfl, h2⟩ := Ev.gI_ok h1
    obtain ⟨b3, rfl, h3⟩ := Ev.gI_ok h2
    obtain ⟨b4, rfl, h4⟩ := Ev.gI_ok h3
    obtain ⟨b5, rfl, h5⟩ := Ev.gI_ok h4
    obtain ⟨b6, rfl, h6⟩ := Ev.gI_ok h5
    obtain ⟨b7, rfl, h7⟩ := Ev.gI_ok h6
    obtain ⟨b8, rfl, h8⟩ := Ev.gI_ok h7
    obtain ⟨b9, rfl, h9⟩ := Ev.gI_ok h8
    obtain ⟨b10, rfl, h10⟩ := Ev.gI_ok h9
    obtain ⟨b11, rfl, h11⟩ := Ev.gI_ok h10
    obtain ⟨b12, rfl, h12⟩ := Ev.gI_ok h11
    obtain ⟨b13, rfl, h13⟩ := Ev.gI_ok h12
    obtain ⟨b14, rfl, h14⟩ := Ev.gI_ok h13
    obtain ⟨b15, rfl, h15⟩ := Ev.gI_ok h14
    obtain ⟨b16, rfl, h16⟩ := Ev.gI_ok h15
    obtain ⟨b17, rfl, h17⟩ := Ev.gI_ok h16
    obtain ⟨b18, rfl, h18⟩ := Ev.gI_ok h17
    obtain ⟨b19, rfl, h19⟩ := Ev.gI_ok h18
    obtain ⟨b20, rfl, h20⟩ := Ev.gI_ok h19
    obtain ⟨b21, rfl, h21⟩ := Ev.gI_ok h20
    exact ⟨⟨b0, b1, b2, b3, b4, b5, b6, b7, b8, b9, b10, b11, b12, b13, b14, b15, b16, b17, b18, b19, b20, b21⟩, rfl, h21⟩
  · cases h
noncomputable def e41 (x : Bool) : Value := .bool x
noncomputable def w41 (v : Value) : Bool := Ev.uB v
noncomputable def s41 (F : T23 → Bool) (vs : List Value) (H : Ev.AH) : Ev.Res := match vs with | [a0] => d23 a0 fun x0 => some (e41 (F x0), H) | _ => none
noncomputable def e42 (x : ByteArray) : Value := .string x
noncomputable def w42 (v : Value) : ByteArray := Ev.uS v
noncomputable def s42 (F : Int → Int → ByteArray) (vs : List Value) (H : Ev.AH) : Ev.Res := match vs with | [a0, a1] => Ev.gI .i64 a0 fun x0 => Ev.gI .i64 a1 fun x1 => some (e42 (F x0 x1), H) | _ => none
noncomputable def e43 (x : Bool) : Value := .bool x
noncomputable def w43 (v : Value) : Bool := Ev.uB v
noncomputable def s43 (F : Int → Bool) (vs : List Value) (H : Ev.AH) : Ev.Res := match vs with | [a0] => Ev.gI .i64 a0 fun x0 => some (e43 (F x0), H) | _ => none
noncomputable def e35 (x : Int) : Value := .int .i64 x
noncomputable def w35 (v : Value) : Int := Ev.uI v
noncomputable def s35 (F : Int → Int) (vs : List Value) (H : Ev.AH) : Ev.Res := match vs with | [a0] => Ev.gI .i64 a0 fun x0 => some (e35 (F x0), H) | _ => none
noncomputable def e44 (x : Bool) : Value := .bool x
noncomputable def w44 (v : Value) : Bool := Ev.uB v
noncomputable def s44 (F : T23 → Bool) (vs : List Value) (H : Ev.AH) : Ev.Res := match vs with | [a0] => d23 a0 fun x0 => some (e44 (F x0), H) | _ => none
noncomputable def e27 (x : T25) : Value := v25 x
noncomputable def w27 (v : Value) : T25 := u25 v
noncomputable def s27 (F : T25 → Int → T25) (vs : List Value) (H : Ev.AH) : Ev.Res := match vs with | [a0, a1] => d25 a0 fun x0 => Ev.gI .i64 a1 fun x1 => some (e27 (F x0 x1), H) | _ => none
noncomputable def e28 (x : Bool) : Value := .bool x
noncomputable def w28 (v : Value) : Bool := Ev.uB v
noncomputable def s28 (F : Int → Int → Bool) (vs : List Value) (H : Ev.AH) : Ev.Res := match vs with | [a0, a1] => Ev.gI .i64 a0 fun x0 => Ev.gI .i64 a1 fun x1 => some (e28 (F x0 x1), H) | _ => none
noncomputable def e29 (x : Bool) : Value := .bool x
noncomputable def w29 (v : Value) : Bool := Ev.uB v
noncomputable def s29 (F : Int → Int → Bool) (vs : List Value) (H : Ev.AH) : Ev.Res := match vs with | [a0, a1] => Ev.gI .i64 a0 fun x0 => Ev.gI .i64 a1 fun x1 => some (e29 (F x0 x1), H) | _ => none
noncomputable def e26 (x : Bool) : Value := .bool x
noncomputable def w26 (v : Value) : Bool := Ev.uB v
noncomputable def s26 (F : T25 → Bool) (vs : List Value) (H : Ev.AH) : Ev.Res := match vs with | [a0] => d25 a0 fun x0 => some (e26 (F x0), H) | _ => none
noncomputable def e34 (x : Bool) : Value := .bool x
noncomputable def w34 (v : Value) : Bool := Ev.uB v
noncomputable def s34 (F : Int → T23 → T23 → Bool) (vs : List Value) (H : Ev.AH) : Ev.Res := match vs with | [a0, a1, a2] => Ev.gI .i64 a0 fun x0 => d23 a1 fun x1 => d23 a2 fun x2 => some (e34 (F x0 x1 x2), H) | _ => none
noncomputable def e19 (x : Bool) : Value := .bool x
noncomputable def w19 (v : Value) : Bool := Ev.uB v
noncomputable def s19 (F : T25 → Bool) (vs : List Value) (H : Ev.AH) : Ev.Res := match vs with | [a0] => d25 a0 fun x0 => some (e19 (F x0), H) | _ => none
noncomputable def e8 (x : Bool) : Value := .bool x
noncomputable def w8 (v : Value) : Bool := Ev.uB v
noncomputable def s8 (F : T27 → Bool) (vs : List Value) (H : Ev.AH) : Ev.Res := match vs with | [a0] => d27 a0 fun x0 => some (e8 (F x0), H) | _ => none
noncomputable def e9 (x : Bool) : Value := .bool x
noncomputable def w9 (v : Value) : Bool := Ev.uB v
noncomputable def s9 (F : T27 → Bool) (vs : List Value) (H : Ev.AH) : Ev.Res := match vs with | [a0] => d27 a0 fun x0 => some (e9 (F x0), H) | _ => none
noncomputable def e10 (x : Bool) : Value := .bool x
noncomputable def w10 (v : Value) : Bool := Ev.uB v
noncomputable def s10 (F : T27 → T25 → Bool) (vs : List Value) (H : Ev.AH) : Ev.Res := match vs with | [a0, a1] => d27 a0 fun x0 => d25 a1 fun x1 => some (e10 (F x0 x1), H) | _ => none
noncomputable def e11 (x : Bool) : Value := .bool x
noncomputable def w11 (v : Value) : Bool := Ev.uB v
noncomputable def s11 (F : T27 → T25 → Bool) (vs : List Value) (H : Ev.AH) : Ev.Res := match vs with | [a0, a1] => d27 a0 fun x0 => d25 a1 fun x1 => some (e11 (F x0 x1), H) | _ => none
noncomputable def e12 (x : Bool) : Value := .bool x
noncomputable def w12 (v : Value) : Bool := Ev.uB v
noncomputable def s12 (F : Bool) (vs : List Value) (H : Ev.AH) : Ev.Res := match vs with | [] => some (e12 F, H) | _ => none
noncomputable def e3 (x : Bool) : Value := .bool x
noncomputable def w3 (v : Value) : Bool := Ev.uB v
noncomputable def s3 (F : T27 → T25 → Bool) (vs : List Value) (H : Ev.AH) : Ev.Res := match vs with | [a0, a1] => d27 a0 fun x0 => d25 a1 fun x1 => some (e3 (F x0 x1), H) | _ => none
-- stockade/addr.Right
theorem t41 (x0 : T23) : Ev.evBody0 E (Ev.evTab E [] 40 12) (fun s => Ev.loopN s 40) 41 [v23 x0] ⟨[], 0, []⟩ = bif x0.f0 == 4 then bif x0.f1 == 0 then Ev.ret (e41 (x0.f2.fdiv 4294967296 == 0)) else Ev.ret (e41 false) else bif x0.f0 == 6 then Ev.ret (e41 true) else Ev.ret (e41 false) := by kernel_rfl
noncomputable def N41 (x0 : T23) : Bool := bif x0.f0 == 4 then bif x0.f1 == 0 then (x0.f2.fdiv 4294967296 == 0) else false else bif x0.f0 == 6 then true else false
theorem p41 (x0 : T23) : Ev.evBody0 E (Ev.evTab E [] 40 12) (fun s => Ev.loopN s 40) 41 [v23 x0] ⟨[], 0, []⟩ = Ev.ret (e41 (N41 x0)) := by rw [t41]; simp only [N41, Ev.push e41]
noncomputable def F41 : T23 → Bool := N41 
theorem g41 : ∀ vs H r, s41 F41 vs H = some r → Ev.Good Try.prog 41 vs H r := by
  intro vs H r h
  unfold s41 at h
  split at h
  · obtain ⟨x0, rfl, h0⟩ := d23_ok h
    obtain rfl := Option.some.inj h0
    exact Ev.good_plain envOk Ev.TabOk.nil (p41 x0) (by kernel_rfl) (by kernel_rfl) H
  · cases h
-- stockade/tuple.word
theorem t42 (x0 : Int) (x1 : Int) : Ev.evBody0 E (Ev.evTab E [] 40 12) (fun s => Ev.loopN s 40) 42 [.int .i64 x0, .int .i64 x1] ⟨[], 0, []⟩ = bif x1 == 6 then Ev.ret (e42 { data := { toList := [{ toBitVec := { toFin := ⟨116, Nat.mod_lt 116 (BitVec.ofNat._proof_1 8)⟩ } }, { toBitVec := { toFin := ⟨99, Nat.mod_lt 99 (BitVec.ofNat._proof_1 8)⟩ } }, { toBitVec := { toFin := ⟨112, Nat.mod_lt 112 (BitVec.ofNat._proof_1 8)⟩ } }] } }) else bif x1 == 17 then Ev.ret (e42 { data := { toList := [{ toBitVec := { toFin := ⟨117, Nat.mod_lt 117 (BitVec.ofNat._proof_1 8)⟩ } }, { toBitVec := { toFin := ⟨100, Nat.mod_lt 100 (BitVec.ofNat._proof_1 8)⟩ } }, { toBitVec := { toFin := ⟨112, Nat.mod_lt 112 (BitVec.ofNat._proof_1 8)⟩ } }] } }) else bif x1 == 1 then bif x0 == 4 then Ev.ret (e42 { data := { toList := [{ toBitVec := { toFin := ⟨105, Nat.mod_lt 105 (BitVec.ofNat._proof_1 8)⟩ } }, { toBitVec := { toFin := ⟨99, Nat.mod_lt 99 (BitVec.ofNat._proof_1 8)⟩ } }, { toBitVec := { toFin := ⟨109, Nat.mod_lt 109 (BitVec.ofNat._proof_1 8)⟩ } }, { toBitVec := { toFin := ⟨112, Nat.mod_lt 112 (BitVec.ofNat._proof_1 8)⟩ } }] } }) else bif x1 == 58 then bif x0 == 6 then Ev.ret (e42 { data := { toList := [{ toBitVec := { toFin := ⟨105, Nat.mod_lt 105 (BitVec.ofNat._proof_1 8)⟩ } }, { toBitVec := { toFin := ⟨99, Nat.mod_lt 99 (BitVec.ofNat._proof_1 8)⟩ } }, { toBitVec := { toFin := ⟨109, Nat.mod_lt 109 (BitVec.ofNat._proof_1 8)⟩ } }, { toBitVec := { toFin := ⟨112, Nat.mod_lt 112 (BitVec.ofNat._proof_1 8)⟩ } }, { toBitVec := { toFin := ⟨54, Nat.mod_lt 54 (BitVec.ofNat._proof_1 8)⟩ } }] } }) else Ev.ret (e42 (ByteArray.mk { toList := [] })) else Ev.ret (e42 (ByteArray.mk { toList := [] })) else bif x1 == 58 then bif x0 == 6 then Ev.ret (e42 { data := { toList := [{ toBitVec := { toFin := ⟨105, Nat.mod_lt 105 (BitVec.ofNat._proof_1 8)⟩ } }, { toBitVec := { toFin := ⟨99, Nat.mod_lt 99 (BitVec.ofNat._proof_1 8)⟩ } }, { toBitVec := { toFin := ⟨109, Nat.mod_lt 109 (BitVec.ofNat._proof_1 8)⟩ } }, { toBitVec := { toFin := ⟨112, Nat.mod_lt 112 (BitVec.ofNat._proof_1 8)⟩ } }, { toBitVec := { toFin := ⟨54, Nat.mod_lt 54 (BitVec.ofNat._proof_1 8)⟩ } }] } }) else Ev.ret (e42 (ByteArray.mk { toList := [] })) else Ev.ret (e42 (ByteArray.mk { toList := [] })) := by kernel_rfl
noncomputable def N42 (x0 : Int) (x1 : Int) : ByteArray := bif x1 == 6 then { data := { toList := [{ toBitVec := { toFin := ⟨116, Nat.mod_lt 116 (BitVec.ofNat._proof_1 8)⟩ } }, { toBitVec := { toFin := ⟨99, Nat.mod_lt 99 (BitVec.ofNat._proof_1 8)⟩ } }, { toBitVec := { toFin := ⟨112, Nat.mod_lt 112 (BitVec.ofNat._proof_1 8)⟩ } }] } } else bif x1 == 17 then { data := { toList := [{ toBitVec := { toFin := ⟨117, Nat.mod_lt 117 (BitVec.ofNat._proof_1 8)⟩ } }, { toBitVec := { toFin := ⟨100, Nat.mod_lt 100 (BitVec.ofNat._proof_1 8)⟩ } }, { toBitVec := { toFin := ⟨112, Nat.mod_lt 112 (BitVec.ofNat._proof_1 8)⟩ } }] } } else bif x1 == 1 then bif x0 == 4 then { data := { toList := [{ toBitVec := { toFin := ⟨105, Nat.mod_lt 105 (BitVec.ofNat._proof_1 8)⟩ } }, { toBitVec := { toFin := ⟨99, Nat.mod_lt 99 (BitVec.ofNat._proof_1 8)⟩ } }, { toBitVec := { toFin := ⟨109, Nat.mod_lt 109 (BitVec.ofNat._proof_1 8)⟩ } }, { toBitVec := { toFin := ⟨112, Nat.mod_lt 112 (BitVec.ofNat._proof_1 8)⟩ } }] } } else bif x1 == 58 then bif x0 == 6 then { data := { toList := [{ toBitVec := { toFin := ⟨105, Nat.mod_lt 105 (BitVec.ofNat._proof_1 8)⟩ } }, { toBitVec := { toFin := ⟨99, Nat.mod_lt 99 (BitVec.ofNat._proof_1 8)⟩ } }, { toBitVec := { toFin := ⟨109, Nat.mod_lt 109 (BitVec.ofNat._proof_1 8)⟩ } }, { toBitVec := { toFin := ⟨112, Nat.mod_lt 112 (BitVec.ofNat._proof_1 8)⟩ } }, { toBitVec := { toFin := ⟨54, Nat.mod_lt 54 (BitVec.ofNat._proof_1 8)⟩ } }] } } else (ByteArray.mk { toList := [] }) else (ByteArray.mk { toList := [] }) else bif x1 == 58 then bif x0 == 6 then { data := { toList := [{ toBitVec := { toFin := ⟨105, Nat.mod_lt 105 (BitVec.ofNat._proof_1 8)⟩ } }, { toBitVec := { toFin := ⟨99, Nat.mod_lt 99 (BitVec.ofNat._proof_1 8)⟩ } }, { toBitVec := { toFin := ⟨109, Nat.mod_lt 109 (BitVec.ofNat._proof_1 8)⟩ } }, { toBitVec := { toFin := ⟨112, Nat.mod_lt 112 (BitVec.ofNat._proof_1 8)⟩ } }, { toBitVec := { toFin := ⟨54, Nat.mod_lt 54 (BitVec.ofNat._proof_1 8)⟩ } }] } } else (ByteArray.mk { toList := [] }) else (ByteArray.mk { toList := [] })
theorem p42 (x0 : Int) (x1 : Int) : Ev.evBody0 E (Ev.evTab E [] 40 12) (fun s => Ev.loopN s 40) 42 [.int .i64 x0, .int .i64 x1] ⟨[], 0, []⟩ = Ev.ret (e42 (N42 x0 x1)) := by rw [t42]; simp only [N42, Ev.push e42]
noncomputable def F42 : Int → Int → ByteArray := N42 
theorem g42 : ∀ vs H r, s42 F42 vs H = some r → Ev.Good Try.prog 42 vs H r := by
  intro vs H r h
  unfold s42 at h
  split at h
  · obtain ⟨x0, rfl, h0⟩ := Ev.gI_ok h
    obtain ⟨x1, rfl, h1⟩ := Ev.gI_ok h0
    obtain rfl := Option.some.inj h1
    exact Ev.good_plain envOk Ev.TabOk.nil (p42 x0 x1) (by kernel_rfl) (by kernel_rfl) H
  · cases h
-- stockade/tuple.port
theorem t43 (x0 : Int) : Ev.evBody0 E (Ev.evTab E [] 40 12) (fun s => Ev.loopN s 40) 43 [.int .i64 x0] ⟨[], 0, []⟩ = bif Ev.leI 0 x0 then Ev.ret (e43 (Ev.leI x0 65535)) else Ev.ret (e43 false) := by kernel_rfl
noncomputable def N43 (x0 : Int) : Bool := bif Ev.leI 0 x0 then (Ev.leI x0 65535) else false
theorem p43 (x0 : Int) : Ev.evBody0 E (Ev.evTab E [] 40 12) (fun s => Ev.loopN s 40) 43 [.int .i64 x0] ⟨[], 0, []⟩ = Ev.ret (e43 (N43 x0)) := by rw [t43]; simp only [N43, Ev.push e43]
noncomputable def F43 : Int → Bool := N43 
theorem g43 : ∀ vs H r, s43 F43 vs H = some r → Ev.Good Try.prog 43 vs H r := by
  intro vs H r h
  unfold s43 at h
  split at h
  · obtain ⟨x0, rfl, h0⟩ := Ev.gI_ok h
    obtain rfl := Option.some.inj h0
    exact Ev.good_plain envOk Ev.TabOk.nil (p43 x0) (by kernel_rfl) (by kernel_rfl) H
  · cases h
-- stockade/stockaderef05.Icmp
theorem t35 (x0 : Int) : Ev.evBody0 E (Ev.evTab E [] 40 12) (fun s => Ev.loopN s 40) 35 [.int .i64 x0] ⟨[], 0, []⟩ = bif x0 == 4 then Ev.ret (e35 1) else Ev.ret (e35 58) := by kernel_rfl
noncomputable def N35 (x0 : Int) : Int := bif x0 == 4 then 1 else 58
theorem p35 (x0 : Int) : Ev.evBody0 E (Ev.evTab E [] 40 12) (fun s => Ev.loopN s 40) 35 [.int .i64 x0] ⟨[], 0, []⟩ = Ev.ret (e35 (N35 x0)) := by rw [t35]; simp only [N35, Ev.push e35]
noncomputable def F35 : Int → Int := N35 
theorem g35 : ∀ vs H r, s35 F35 vs H = some r → Ev.Good Try.prog 35 vs H r := by
  intro vs H r h
  unfold s35 at h
  split at h
  · obtain ⟨x0, rfl, h0⟩ := Ev.gI_ok h
    obtain rfl := Option.some.inj h0
    exact Ev.good_plain envOk Ev.TabOk.nil (p35 x0) (by kernel_rfl) (by kernel_rfl) H
  · cases h
-- stockade/stockaderef02.Right
theorem t44 (x0 : T23) : Ev.evBody0 E (Ev.evTab E [] 40 12) (fun s => Ev.loopN s 40) 44 [v23 x0] ⟨[], 0, []⟩ = bif x0.f0 == 6 then Ev.ret (e44 true) else bif x0.f0 == 4 then bif x0.f1 == 0 then Ev.ret (e44 (Ev.ltI x0.f2 4294967296)) else Ev.ret (e44 false) else Ev.ret (e44 false) := by kernel_rfl
noncomputable def N44 (x0 : T23) : Bool := bif x0.f0 == 6 then true else bif x0.f0 == 4 then bif x0.f1 == 0 then (Ev.ltI x0.f2 4294967296) else false else false
theorem p44 (x0 : T23) : Ev.evBody0 E (Ev.evTab E [] 40 12) (fun s => Ev.loopN s 40) 44 [v23 x0] ⟨[], 0, []⟩ = Ev.ret (e44 (N44 x0)) := by rw [t44]; simp only [N44, Ev.push e44]
noncomputable def F44 : T23 → Bool := N44 
theorem g44 : ∀ vs H r, s44 F44 vs H = some r → Ev.Good Try.prog 44 vs H r := by
  intro vs H r h
  unfold s44 at h
  split at h
  · obtain ⟨x0, rfl, h0⟩ := d23_ok h
    obtain rfl := Option.some.inj h0
    exact Ev.good_plain envOk Ev.TabOk.nil (p44 x0) (by kernel_rfl) (by kernel_rfl) H
  · cases h
-- stockade/expect.with
theorem t27 (x0 : T25) (x1 : Int) : Ev.evBody0 E (Ev.evTab E [] 40 12) (fun s => Ev.loopN s 40) 27 [v25 x0, .int .i64 x1] ⟨[], 0, []⟩ = bif x0.f8 == -1 then Ev.ret (e27 { f0 := x0.f0, f1 := x0.f1, f2 := x0.f2, f3 := x0.f3, f4 := x0.f4, f5 := x0.f5, f6 := x0.f6, f7 := x0.f7, f8 := x1, f9 := x0.f9 }) else Ev.ret (e27 { f0 := x0.f0, f1 := x0.f1, f2 := x0.f2, f3 := x0.f3, f4 := x0.f4, f5 := x0.f5, f6 := x0.f6, f7 := x0.f7, f8 := x0.f8, f9 := x0.f9 }) := by kernel_rfl
noncomputable def N27 (x0 : T25) (x1 : Int) : T25 := bif x0.f8 == -1 then { f0 := x0.f0, f1 := x0.f1, f2 := x0.f2, f3 := x0.f3, f4 := x0.f4, f5 := x0.f5, f6 := x0.f6, f7 := x0.f7, f8 := x1, f9 := x0.f9 } else { f0 := x0.f0, f1 := x0.f1, f2 := x0.f2, f3 := x0.f3, f4 := x0.f4, f5 := x0.f5, f6 := x0.f6, f7 := x0.f7, f8 := x0.f8, f9 := x0.f9 }
theorem p27 (x0 : T25) (x1 : Int) : Ev.evBody0 E (Ev.evTab E [] 40 12) (fun s => Ev.loopN s 40) 27 [v25 x0, .int .i64 x1] ⟨[], 0, []⟩ = Ev.ret (e27 (N27 x0 x1)) := by rw [t27]; simp only [N27, Ev.push e27]
noncomputable def F27 : T25 → Int → T25 := N27 
theorem g27 : ∀ vs H r, s27 F27 vs H = some r → Ev.Good Try.prog 27 vs H r := by
  intro vs H r h
  unfold s27 at h
  split at h
  · obtain ⟨x0, rfl, h0⟩ := d25_ok h
    obtain ⟨x1, rfl, h1⟩ := Ev.gI_ok h0
    obtain rfl := Option.some.inj h1
    exact Ev.good_plain envOk Ev.TabOk.nil (p27 x0 x1) (by kernel_rfl) (by kernel_rfl) H
  · cases h
-- stockade/expect.within
theorem t28 (x0 : Int) (x1 : Int) : Ev.evBody0 E (Ev.evTab E [] 40 12) (fun s => Ev.loopN s 40) 28 [.int .i64 x0, .int .i64 x1] ⟨[], 0, []⟩ = bif Ev.leI 0 x0 then Ev.ret (e28 (Ev.leI x0 x1)) else Ev.ret (e28 false) := by kernel_rfl
noncomputable def N28 (x0 : Int) (x1 : Int) : Bool := bif Ev.leI 0 x0 then (Ev.leI x0 x1) else false
theorem p28 (x0 : Int) (x1 : Int) : Ev.evBody0 E (Ev.evTab E [] 40 12) (fun s => Ev.loopN s 40) 28 [.int .i64 x0, .int .i64 x1] ⟨[], 0, []⟩ = Ev.ret (e28 (N28 x0 x1)) := by rw [t28]; simp only [N28, Ev.push e28]
noncomputable def F28 : Int → Int → Bool := N28 
theorem g28 : ∀ vs H r, s28 F28 vs H = some r → Ev.Good Try.prog 28 vs H r := by
  intro vs H r h
  unfold s28 at h
  split at h
  · obtain ⟨x0, rfl, h0⟩ := Ev.gI_ok h
    obtain ⟨x1, rfl, h1⟩ := Ev.gI_ok h0
    obtain rfl := Option.some.inj h1
    exact Ev.good_plain envOk Ev.TabOk.nil (p28 x0 x1) (by kernel_rfl) (by kernel_rfl) H
  · cases h
-- stockade/stockaderef17.in
theorem t29 (x0 : Int) (x1 : Int) : Ev.evBody0 E (Ev.evTab E [] 40 12) (fun s => Ev.loopN s 40) 29 [.int .i64 x0, .int .i64 x1] ⟨[], 0, []⟩ = bif Ev.leI 0 x0 then Ev.ret (e29 (Ev.leI x0 x1)) else Ev.ret (e29 false) := by kernel_rfl
noncomputable def N29 (x0 : Int) (x1 : Int) : Bool := bif Ev.leI 0 x0 then (Ev.leI x0 x1) else false
theorem p29 (x0 : Int) (x1 : Int) : Ev.evBody0 E (Ev.evTab E [] 40 12) (fun s => Ev.loopN s 40) 29 [.int .i64 x0, .int .i64 x1] ⟨[], 0, []⟩ = Ev.ret (e29 (N29 x0 x1)) := by rw [t29]; simp only [N29, Ev.push e29]
noncomputable def F29 : Int → Int → Bool := N29 
theorem g29 : ∀ vs H r, s29 F29 vs H = some r → Ev.Good Try.prog 29 vs H r := by
  intro vs H r h
  unfold s29 at h
  split at h
  · obtain ⟨x0, rfl, h0⟩ := Ev.gI_ok h
    obtain ⟨x1, rfl, h1⟩ := Ev.gI_ok h0
    obtain rfl := Option.some.inj h1
    exact Ev.good_plain envOk Ev.TabOk.nil (p29 x0 x1) (by kernel_rfl) (by kernel_rfl) H
  · cases h
-- stockade/tuple.Right
theorem t26 (F41 : T23 → Bool) (F42 : Int → Int → ByteArray) (F43 : Int → Bool) (x0 : T25) : Ev.evBody0 E (Ev.evTab E [(41, s41 F41), (42, s42 F42), (43, s43 F43)] 40 12) (fun s => Ev.loopN s 40) 26 [v25 x0] ⟨[], 0, []⟩ = bif x0.f2 == x0.f0 then bif x0.f5 == x0.f0 then bif F41 { f0 := x0.f2, f1 := x0.f3, f2 := x0.f4 } then bif F41 { f0 := x0.f5, f1 := x0.f6, f2 := x0.f7 } then bif !(F42 x0.f0 x0.f1).toList == (ByteArray.mk { toList := [] }).toList then bif F43 x0.f8 then Ev.ret (e26 (F43 x0.f9)) else Ev.ret (e26 false) else Ev.ret (e26 false) else Ev.ret (e26 false) else Ev.ret (e26 false) else Ev.ret (e26 false) else Ev.ret (e26 false) := by kernel_rfl
noncomputable def N26 (F41 : T23 → Bool) (F42 : Int → Int → ByteArray) (F43 : Int → Bool) (x0 : T25) : Bool := bif x0.f2 == x0.f0 then bif x0.f5 == x0.f0 then bif F41 { f0 := x0.f2, f1 := x0.f3, f2 := x0.f4 } then bif F41 { f0 := x0.f5, f1 := x0.f6, f2 := x0.f7 } then bif !(F42 x0.f0 x0.f1).toList == (ByteArray.mk { toList := [] }).toList then bif F43 x0.f8 then (F43 x0.f9) else false else false else false else false else false else false
theorem p26 (F41 : T23 → Bool) (F42 : Int → Int → ByteArray) (F43 : Int → Bool) (x0 : T25) : Ev.evBody0 E (Ev.evTab E [(41, s41 F41), (42, s42 F42), (43, s43 F43)] 40 12) (fun s => Ev.loopN s 40) 26 [v25 x0] ⟨[], 0, []⟩ = Ev.ret (e26 (N26 F41 F42 F43 x0)) := by rw [t26]; simp only [N26, Ev.push e26]
noncomputable def F26 : T25 → Bool := N26 F41 F42 F43
theorem g26 : ∀ vs H r, s26 F26 vs H = some r → Ev.Good Try.prog 26 vs H r := by
  intro vs H r h
  unfold s26 at h
  split at h
  · obtain ⟨x0, rfl, h0⟩ := d25_ok h
    obtain rfl := Option.some.inj h0
    exact Ev.good_plain envOk (Ev.TabOk.cons g41 (Ev.TabOk.cons g42 (Ev.TabOk.cons g43 Ev.TabOk.nil))) (p26 F41 F42 F43 x0) (by kernel_rfl) (by kernel_rfl) H
  · cases h
-- stockade/stockaderef05.Ends
theorem t34 (F44 : T23 → Bool) (x0 : Int) (x1 : T23) (x2 : T23) : Ev.evBody0 E (Ev.evTab E [(44, s44 F44)] 40 12) (fun s => Ev.loopN s 40) 34 [.int .i64 x0, v23 x1, v23 x2] ⟨[], 0, []⟩ = bif x0 == 4 then bif x1.f0 == x0 then bif x2.f0 == x0 then bif F44 { f0 := x1.f0, f1 := x1.f1, f2 := x1.f2 } then Ev.ret (e34 (F44 { f0 := x2.f0, f1 := x2.f1, f2 := x2.f2 })) else Ev.ret (e34 false) else Ev.ret (e34 false) else Ev.ret (e34 false) else bif x0 == 6 then bif x1.f0 == x0 then bif x2.f0 == x0 then bif F44 { f0 := x1.f0, f1 := x1.f1, f2 := x1.f2 } then Ev.ret (e34 (F44 { f0 := x2.f0, f1 := x2.f1, f2 := x2.f2 })) else Ev.ret (e34 false) else Ev.ret (e34 false) else Ev.ret (e34 false) else Ev.ret (e34 false) := by kernel_rfl
noncomputable def N34 (F44 : T23 → Bool) (x0 : Int) (x1 : T23) (x2 : T23) : Bool := bif x0 == 4 then bif x1.f0 == x0 then bif x2.f0 == x0 then bif F44 { f0 := x1.f0, f1 := x1.f1, f2 := x1.f2 } then (F44 { f0 := x2.f0, f1 := x2.f1, f2 := x2.f2 }) else false else false else false else bif x0 == 6 then bif x1.f0 == x0 then bif x2.f0 == x0 then bif F44 { f0 := x1.f0, f1 := x1.f1, f2 := x1.f2 } then (F44 { f0 := x2.f0, f1 := x2.f1, f2 := x2.f2 }) else false else false else false else false
theorem p34 (F44 : T23 → Bool) (x0 : Int) (x1 : T23) (x2 : T23) : Ev.evBody0 E (Ev.evTab E [(44, s44 F44)] 40 12) (fun s => Ev.loopN s 40) 34 [.int .i64 x0, v23 x1, v23 x2] ⟨[], 0, []⟩ = Ev.ret (e34 (N34 F44 x0 x1 x2)) := by rw [t34]; simp only [N34, Ev.push e34]
noncomputable def F34 : Int → T23 → T23 → Bool := N34 F44
theorem g34 : ∀ vs H r, s34 F34 vs H = some r → Ev.Good Try.prog 34 vs H r := by
  intro vs H r h
  unfold s34 at h
  split at h
  · obtain ⟨x0, rfl, h0⟩ := Ev.gI_ok h
    obtain ⟨x1, rfl, h1⟩ := d23_ok h0
    obtain ⟨x2, rfl, h2⟩ := d23_ok h1
    obtain rfl := Option.some.inj h2
    exact Ev.good_plain envOk (Ev.TabOk.cons g44 Ev.TabOk.nil) (p34 F44 x0 x1 x2) (by kernel_rfl) (by kernel_rfl) H
  · cases h
-- stockade/stockaderef14.Right
theorem t19 (F34 : Int → T23 → T23 → Bool) (F35 : Int → Int) (x0 : T25) : Ev.evBody0 E (Ev.evTab E [(34, s34 F34), (35, s35 F35)] 40 12) (fun s => Ev.loopN s 40) 19 [v25 x0] ⟨[], 0, []⟩ = bif Ev.leI 0 x0.f8 then bif Ev.leI x0.f8 65535 then bif Ev.leI 0 x0.f9 then bif F34 x0.f0 { f0 := x0.f2, f1 := x0.f3, f2 := x0.f4 } { f0 := x0.f5, f1 := x0.f6, f2 := x0.f7 } then bif x0.f1 == 6 then Ev.ret (e19 (Ev.leI x0.f9 65535)) else bif x0.f1 == 17 then Ev.ret (e19 (Ev.leI x0.f9 65535)) else bif x0.f1 == F35 x0.f0 then Ev.ret (e19 (Ev.leI x0.f9 65535)) else Ev.ret (e19 false) else Ev.ret (e19 false) else bif F34 x0.f0 { f0 := x0.f2, f1 := x0.f3, f2 := x0.f4 } { f0 := x0.f5, f1 := x0.f6, f2 := x0.f7 } then bif x0.f1 == 6 then Ev.ret (e19 false) else bif x0.f1 == 17 then Ev.ret (e19 false) else bif x0.f1 == F35 x0.f0 then Ev.ret (e19 false) else Ev.ret (e19 false) else Ev.ret (e19 false) else bif F34 x0.f0 { f0 := x0.f2, f1 := x0.f3, f2 := x0.f4 } { f0 := x0.f5, f1 := x0.f6, f2 := x0.f7 } then bif x0.f1 == 6 then Ev.ret (e19 false) else bif x0.f1 == 17 then Ev.ret (e19 false) else bif x0.f1 == F35 x0.f0 then Ev.ret (e19 false) else Ev.ret (e19 false) else Ev.ret (e19 false) else bif F34 x0.f0 { f0 := x0.f2, f1 := x0.f3, f2 := x0.f4 } { f0 := x0.f5, f1 := x0.f6, f2 := x0.f7 } then bif x0.f1 == 6 then Ev.ret (e19 false) else bif x0.f1 == 17 then Ev.ret (e19 false) else bif x0.f1 == F35 x0.f0 then Ev.ret (e19 false) else Ev.ret (e19 false) else Ev.ret (e19 false) := by kernel_rfl
noncomputable def N19 (F34 : Int → T23 → T23 → Bool) (F35 : Int → Int) (x0 : T25) : Bool := bif Ev.leI 0 x0.f8 then bif Ev.leI x0.f8 65535 then bif Ev.leI 0 x0.f9 then bif F34 x0.f0 { f0 := x0.f2, f1 := x0.f3, f2 := x0.f4 } { f0 := x0.f5, f1 := x0.f6, f2 := x0.f7 } then bif x0.f1 == 6 then (Ev.leI x0.f9 65535) else bif x0.f1 == 17 then (Ev.leI x0.f9 65535) else bif x0.f1 == F35 x0.f0 then (Ev.leI x0.f9 65535) else false else false else bif F34 x0.f0 { f0 := x0.f2, f1 := x0.f3, f2 := x0.f4 } { f0 := x0.f5, f1 := x0.f6, f2 := x0.f7 } then bif x0.f1 == 6 then false else bif x0.f1 == 17 then false else bif x0.f1 == F35 x0.f0 then false else false else false else bif F34 x0.f0 { f0 := x0.f2, f1 := x0.f3, f2 := x0.f4 } { f0 := x0.f5, f1 := x0.f6, f2 := x0.f7 } then bif x0.f1 == 6 then false else bif x0.f1 == 17 then false else bif x0.f1 == F35 x0.f0 then false else false else false else bif F34 x0.f0 { f0 := x0.f2, f1 := x0.f3, f2 := x0.f4 } { f0 := x0.f5, f1 := x0.f6, f2 := x0.f7 } then bif x0.f1 == 6 then false else bif x0.f1 == 17 then false else bif x0.f1 == F35 x0.f0 then false else false else false
theorem p19 (F34 : Int → T23 → T23 → Bool) (F35 : Int → Int) (x0 : T25) : Ev.evBody0 E (Ev.evTab E [(34, s34 F34), (35, s35 F35)] 40 12) (fun s => Ev.loopN s 40) 19 [v25 x0] ⟨[], 0, []⟩ = Ev.ret (e19 (N19 F34 F35 x0)) := by rw [t19]; simp only [N19, Ev.push e19]
noncomputable def F19 : T25 → Bool := N19 F34 F35
theorem g19 : ∀ vs H r, s19 F19 vs H = some r → Ev.Good Try.prog 19 vs H r := by
  intro vs H r h
  unfold s19 at h
  split at h
  · obtain ⟨x0, rfl, h0⟩ := d25_ok h
    obtain rfl := Option.some.inj h0
    exact Ev.good_plain envOk (Ev.TabOk.cons g34 (Ev.TabOk.cons g35 Ev.TabOk.nil)) (p19 F34 F35 x0) (by kernel_rfl) (by kernel_rfl) H
  · cases h
-- stockade/expect.Right
theorem t8 (F27 : T25 → Int → T25) (F26 : T25 → Bool) (F28 : Int → Int → Bool) (x0 : T27) : Ev.evBody0 E (Ev.evTab E [(27, s27 F27), (26, s26 F26), (28, s28 F28)] 40 12) (fun s => Ev.loopN s 40) 8 [v27 x0] ⟨[], 0, []⟩ = bif F26 { f0 := (F27 { f0 := x0.f0, f1 := x0.f1, f2 := x0.f2, f3 := x0.f3, f4 := x0.f4, f5 := x0.f5, f6 := x0.f6, f7 := x0.f7, f8 := x0.f8, f9 := x0.f9 } 0).f0, f1 := (F27 { f0 := x0.f0, f1 := x0.f1, f2 := x0.f2, f3 := x0.f3, f4 := x0.f4, f5 := x0.f5, f6 := x0.f6, f7 := x0.f7, f8 := x0.f8, f9 := x0.f9 } 0).f1, f2 := (F27 { f0 := x0.f0, f1 := x0.f1, f2 := x0.f2, f3 := x0.f3, f4 := x0.f4, f5 := x0.f5, f6 := x0.f6, f7 := x0.f7, f8 := x0.f8, f9 := x0.f9 } 0).f2, f3 := (F27 { f0 := x0.f0, f1 := x0.f1, f2 := x0.f2, f3 := x0.f3, f4 := x0.f4, f5 := x0.f5, f6 := x0.f6, f7 := x0.f7, f8 := x0.f8, f9 := x0.f9 } 0).f3, f4 := (F27 { f0 := x0.f0, f1 := x0.f1, f2 := x0.f2, f3 := x0.f3, f4 := x0.f4, f5 := x0.f5, f6 := x0.f6, f7 := x0.f7, f8 := x0.f8, f9 := x0.f9 } 0).f4, f5 := (F27 { f0 := x0.f0, f1 := x0.f1, f2 := x0.f2, f3 := x0.f3, f4 := x0.f4, f5 := x0.f5, f6 := x0.f6, f7 := x0.f7, f8 := x0.f8, f9 := x0.f9 } 0).f5, f6 := (F27 { f0 := x0.f0, f1 := x0.f1, f2 := x0.f2, f3 := x0.f3, f4 := x0.f4, f5 := x0.f5, f6 := x0.f6, f7 := x0.f7, f8 := x0.f8, f9 := x0.f9 } 0).f6, f7 := (F27 { f0 := x0.f0, f1 := x0.f1, f2 := x0.f2, f3 := x0.f3, f4 := x0.f4, f5 := x0.f5, f6 := x0.f6, f7 := x0.f7, f8 := x0.f8, f9 := x0.f9 } 0).f7, f8 := (F27 { f0 := x0.f0, f1 := x0.f1, f2 := x0.f2, f3 := x0.f3, f4 := x0.f4, f5 := x0.f5, f6 := x0.f6, f7 := x0.f7, f8 := x0.f8, f9 := x0.f9 } 0).f8, f9 := (F27 { f0 := x0.f0, f1 := x0.f1, f2 := x0.f2, f3 := x0.f3, f4 := x0.f4, f5 := x0.f5, f6 := x0.f6, f7 := x0.f7, f8 := x0.f8, f9 := x0.f9 } 0).f9 } then bif F26 { f0 := x0.f10, f1 := x0.f11, f2 := x0.f12, f3 := x0.f13, f4 := x0.f14, f5 := x0.f15, f6 := x0.f16, f7 := x0.f17, f8 := x0.f18, f9 := x0.f19 } then bif F28 x0.f20 4611686018427387904 then Ev.ret (e8 (F28 x0.f21 3)) else Ev.ret (e8 false) else Ev.ret (e8 false) else Ev.ret (e8 false) := by kernel_rfl
noncomputable def N8 (F27 : T25 → Int → T25) (F26 : T25 → Bool) (F28 : Int → Int → Bool) (x0 : T27) : Bool := bif F26 { f0 := (F27 { f0 := x0.f0, f1 := x0.f1, f2 := x0.f2, f3 := x0.f3, f4 := x0.f4, f5 := x0.f5, f6 := x0.f6, f7 := x0.f7, f8 := x0.f8, f9 := x0.f9 } 0).f0, f1 := (F27 { f0 := x0.f0, f1 := x0.f1, f2 := x0.f2, f3 := x0.f3, f4 := x0.f4, f5 := x0.f5, f6 := x0.f6, f7 := x0.f7, f8 := x0.f8, f9 := x0.f9 } 0).f1, f2 := (F27 { f0 := x0.f0, f1 := x0.f1, f2 := x0.f2, f3 := x0.f3, f4 := x0.f4, f5 := x0.f5, f6 := x0.f6, f7 := x0.f7, f8 := x0.f8, f9 := x0.f9 } 0).f2, f3 := (F27 { f0 := x0.f0, f1 := x0.f1, f2 := x0.f2, f3 := x0.f3, f4 := x0.f4, f5 := x0.f5, f6 := x0.f6, f7 := x0.f7, f8 := x0.f8, f9 := x0.f9 } 0).f3, f4 := (F27 { f0 := x0.f0, f1 := x0.f1, f2 := x0.f2, f3 := x0.f3, f4 := x0.f4, f5 := x0.f5, f6 := x0.f6, f7 := x0.f7, f8 := x0.f8, f9 := x0.f9 } 0).f4, f5 := (F27 { f0 := x0.f0, f1 := x0.f1, f2 := x0.f2, f3 := x0.f3, f4 := x0.f4, f5 := x0.f5, f6 := x0.f6, f7 := x0.f7, f8 := x0.f8, f9 := x0.f9 } 0).f5, f6 := (F27 { f0 := x0.f0, f1 := x0.f1, f2 := x0.f2, f3 := x0.f3, f4 := x0.f4, f5 := x0.f5, f6 := x0.f6, f7 := x0.f7, f8 := x0.f8, f9 := x0.f9 } 0).f6, f7 := (F27 { f0 := x0.f0, f1 := x0.f1, f2 := x0.f2, f3 := x0.f3, f4 := x0.f4, f5 := x0.f5, f6 := x0.f6, f7 := x0.f7, f8 := x0.f8, f9 := x0.f9 } 0).f7, f8 := (F27 { f0 := x0.f0, f1 := x0.f1, f2 := x0.f2, f3 := x0.f3, f4 := x0.f4, f5 := x0.f5, f6 := x0.f6, f7 := x0.f7, f8 := x0.f8, f9 := x0.f9 } 0).f8, f9 := (F27 { f0 := x0.f0, f1 := x0.f1, f2 := x0.f2, f3 := x0.f3, f4 := x0.f4, f5 := x0.f5, f6 := x0.f6, f7 := x0.f7, f8 := x0.f8, f9 := x0.f9 } 0).f9 } then bif F26 { f0 := x0.f10, f1 := x0.f11, f2 := x0.f12, f3 := x0.f13, f4 := x0.f14, f5 := x0.f15, f6 := x0.f16, f7 := x0.f17, f8 := x0.f18, f9 := x0.f19 } then bif F28 x0.f20 4611686018427387904 then (F28 x0.f21 3) else false else false else false
theorem p8 (F27 : T25 → Int → T25) (F26 : T25 → Bool) (F28 : Int → Int → Bool) (x0 : T27) : Ev.evBody0 E (Ev.evTab E [(27, s27 F27), (26, s26 F26), (28, s28 F28)] 40 12) (fun s => Ev.loopN s 40) 8 [v27 x0] ⟨[], 0, []⟩ = Ev.ret (e8 (N8 F27 F26 F28 x0)) := by rw [t8]; simp only [N8, Ev.push e8]
noncomputable def F8 : T27 → Bool := N8 F27 F26 F28
theorem g8 : ∀ vs H r, s8 F8 vs H = some r → Ev.Good Try.prog 8 vs H r := by
  intro vs H r h
  unfold s8 at h
  split at h
  · obtain ⟨x0, rfl, h0⟩ := d27_ok h
    obtain rfl := Option.some.inj h0
    exact Ev.good_plain envOk (Ev.TabOk.cons g27 (Ev.TabOk.cons g26 (Ev.TabOk.cons g28 Ev.TabOk.nil))) (p8 F27 F26 F28 x0) (by kernel_rfl) (by kernel_rfl) H
  · cases h
-- stockade/stockaderef17.Right
theorem t9 (F19 : T25 → Bool) (F29 : Int → Int → Bool) (x0 : T27) : Ev.evBody0 E (Ev.evTab E [(19, s19 F19), (29, s29 F29)] 40 12) (fun s => Ev.loopN s 40) 9 [v27 x0] ⟨[], 0, []⟩ = bif x0.f8 == -1 then bif F19 { f0 := x0.f0, f1 := x0.f1, f2 := x0.f2, f3 := x0.f3, f4 := x0.f4, f5 := x0.f5, f6 := x0.f6, f7 := x0.f7, f8 := 0, f9 := x0.f9 } then bif F19 { f0 := x0.f10, f1 := x0.f11, f2 := x0.f12, f3 := x0.f13, f4 := x0.f14, f5 := x0.f15, f6 := x0.f16, f7 := x0.f17, f8 := x0.f18, f9 := x0.f19 } then bif F29 x0.f20 4611686018427387904 then Ev.ret (e9 (F29 x0.f21 3)) else Ev.ret (e9 false) else Ev.ret (e9 false) else Ev.ret (e9 false) else bif F19 { f0 := x0.f0, f1 := x0.f1, f2 := x0.f2, f3 := x0.f3, f4 := x0.f4, f5 := x0.f5, f6 := x0.f6, f7 := x0.f7, f8 := x0.f8, f9 := x0.f9 } then bif F19 { f0 := x0.f10, f1 := x0.f11, f2 := x0.f12, f3 := x0.f13, f4 := x0.f14, f5 := x0.f15, f6 := x0.f16, f7 := x0.f17, f8 := x0.f18, f9 := x0.f19 } then bif F29 x0.f20 4611686018427387904 then Ev.ret (e9 (F29 x0.f21 3)) else Ev.ret (e9 false) else Ev.ret (e9 false) else Ev.ret (e9 false) := by kernel_rfl
noncomputable def N9 (F19 : T25 → Bool) (F29 : Int → Int → Bool) (x0 : T27) : Bool := bif x0.f8 == -1 then bif F19 { f0 := x0.f0, f1 := x0.f1, f2 := x0.f2, f3 := x0.f3, f4 := x0.f4, f5 := x0.f5, f6 := x0.f6, f7 := x0.f7, f8 := 0, f9 := x0.f9 } then bif F19 { f0 := x0.f10, f1 := x0.f11, f2 := x0.f12, f3 := x0.f13, f4 := x0.f14, f5 := x0.f15, f6 := x0.f16, f7 := x0.f17, f8 := x0.f18, f9 := x0.f19 } then bif F29 x0.f20 4611686018427387904 then (F29 x0.f21 3) else false else false else false else bif F19 { f0 := x0.f0, f1 := x0.f1, f2 := x0.f2, f3 := x0.f3, f4 := x0.f4, f5 := x0.f5, f6 := x0.f6, f7 := x0.f7, f8 := x0.f8, f9 := x0.f9 } then bif F19 { f0 := x0.f10, f1 := x0.f11, f2 := x0.f12, f3 := x0.f13, f4 := x0.f14, f5 := x0.f15, f6 := x0.f16, f7 := x0.f17, f8 := x0.f18, f9 := x0.f19 } then bif F29 x0.f20 4611686018427387904 then (F29 x0.f21 3) else false else false else false
theorem p9 (F19 : T25 → Bool) (F29 : Int → Int → Bool) (x0 : T27) : Ev.evBody0 E (Ev.evTab E [(19, s19 F19), (29, s29 F29)] 40 12) (fun s => Ev.loopN s 40) 9 [v27 x0] ⟨[], 0, []⟩ = Ev.ret (e9 (N9 F19 F29 x0)) := by rw [t9]; simp only [N9, Ev.push e9]
noncomputable def F9 : T27 → Bool := N9 F19 F29
theorem g9 : ∀ vs H r, s9 F9 vs H = some r → Ev.Good Try.prog 9 vs H r := by
  intro vs H r h
  unfold s9 at h
  split at h
  · obtain ⟨x0, rfl, h0⟩ := d27_ok h
    obtain rfl := Option.some.inj h0
    exact Ev.good_plain envOk (Ev.TabOk.cons g19 (Ev.TabOk.cons g29 Ev.TabOk.nil)) (p9 F19 F29 x0) (by kernel_rfl) (by kernel_rfl) H
  · cases h
-- stockade/expect.Waits
theorem t10 (F8 : T27 → Bool) (F26 : T25 → Bool) (F27 : T25 → Int → T25) (x0 : T27) (x1 : T25) : Ev.evBody0 E (Ev.evTab E [(8, s8 F8), (26, s26 F26), (27, s27 F27)] 40 12) (fun s => Ev.loopN s 40) 10 [v27 x0, v25 x1] ⟨[], 0, []⟩ = bif F8 { f0 := x0.f0, f1 := x0.f1, f2 := x0.f2, f3 := x0.f3, f4 := x0.f4, f5 := x0.f5, f6 := x0.f6, f7 := x0.f7, f8 := x0.f8, f9 := x0.f9, f10 := x0.f10, f11 := x0.f11, f12 := x0.f12, f13 := x0.f13, f14 := x0.f14, f15 := x0.f15, f16 := x0.f16, f17 := x0.f17, f18 := x0.f18, f19 := x0.f19, f20 := x0.f20, f21 := x0.f21 } then bif F26 { f0 := x1.f0, f1 := x1.f1, f2 := x1.f2, f3 := x1.f3, f4 := x1.f4, f5 := x1.f5, f6 := x1.f6, f7 := x1.f7, f8 := x1.f8, f9 := x1.f9 } then Ev.ret (e10 ((F27 { f0 := x0.f0, f1 := x0.f1, f2 := x0.f2, f3 := x0.f3, f4 := x0.f4, f5 := x0.f5, f6 := x0.f6, f7 := x0.f7, f8 := x0.f8, f9 := x0.f9 } x1.f8).f0 == x1.f0 && ((F27 { f0 := x0.f0, f1 := x0.f1, f2 := x0.f2, f3 := x0.f3, f4 := x0.f4, f5 := x0.f5, f6 := x0.f6, f7 := x0.f7, f8 := x0.f8, f9 := x0.f9 } x1.f8).f1 == x1.f1 && ((F27 { f0 := x0.f0, f1 := x0.f1, f2 := x0.f2, f3 := x0.f3, f4 := x0.f4, f5 := x0.f5, f6 := x0.f6, f7 := x0.f7, f8 := x0.f8, f9 := x0.f9 } x1.f8).f2 == x1.f2 && ((F27 { f0 := x0.f0, f1 := x0.f1, f2 := x0.f2, f3 := x0.f3, f4 := x0.f4, f5 := x0.f5, f6 := x0.f6, f7 := x0.f7, f8 := x0.f8, f9 := x0.f9 } x1.f8).f3 == x1.f3 && ((F27 { f0 := x0.f0, f1 := x0.f1, f2 := x0.f2, f3 := x0.f3, f4 := x0.f4, f5 := x0.f5, f6 := x0.f6, f7 := x0.f7, f8 := x0.f8, f9 := x0.f9 } x1.f8).f4 == x1.f4 && ((F27 { f0 := x0.f0, f1 := x0.f1, f2 := x0.f2, f3 := x0.f3, f4 := x0.f4, f5 := x0.f5, f6 := x0.f6, f7 := x0.f7, f8 := x0.f8, f9 := x0.f9 } x1.f8).f5 == x1.f5 && ((F27 { f0 := x0.f0, f1 := x0.f1, f2 := x0.f2, f3 := x0.f3, f4 := x0.f4, f5 := x0.f5, f6 := x0.f6, f7 := x0.f7, f8 := x0.f8, f9 := x0.f9 } x1.f8).f6 == x1.f6 && ((F27 { f0 := x0.f0, f1 := x0.f1, f2 := x0.f2, f3 := x0.f3, f4 := x0.f4, f5 := x0.f5, f6 := x0.f6, f7 := x0.f7, f8 := x0.f8, f9 := x0.f9 } x1.f8).f7 == x1.f7 && ((F27 { f0 := x0.f0, f1 := x0.f1, f2 := x0.f2, f3 := x0.f3, f4 := x0.f4, f5 := x0.f5, f6 := x0.f6, f7 := x0.f7, f8 := x0.f8, f9 := x0.f9 } x1.f8).f8 == x1.f8 && ((F27 { f0 := x0.f0, f1 := x0.f1, f2 := x0.f2, f3 := x0.f3, f4 := x0.f4, f5 := x0.f5, f6 := x0.f6, f7 := x0.f7, f8 := x0.f8, f9 := x0.f9 } x1.f8).f9 == x1.f9 && true))))))))))) else Ev.ret (e10 false) else Ev.ret (e10 false) := by kernel_rfl
noncomputable def N10 (F8 : T27 → Bool) (F26 : T25 → Bool) (F27 : T25 → Int → T25) (x0 : T27) (x1 : T25) : Bool := bif F8 { f0 := x0.f0, f1 := x0.f1, f2 := x0.f2, f3 := x0.f3, f4 := x0.f4, f5 := x0.f5, f6 := x0.f6, f7 := x0.f7, f8 := x0.f8, f9 := x0.f9, f10 := x0.f10, f11 := x0.f11, f12 := x0.f12, f13 := x0.f13, f14 := x0.f14, f15 := x0.f15, f16 := x0.f16, f17 := x0.f17, f18 := x0.f18, f19 := x0.f19, f20 := x0.f20, f21 := x0.f21 } then bif F26 { f0 := x1.f0, f1 := x1.f1, f2 := x1.f2, f3 := x1.f3, f4 := x1.f4, f5 := x1.f5, f6 := x1.f6, f7 := x1.f7, f8 := x1.f8, f9 := x1.f9 } then ((F27 { f0 := x0.f0, f1 := x0.f1, f2 := x0.f2, f3 := x0.f3, f4 := x0.f4, f5 := x0.f5, f6 := x0.f6, f7 := x0.f7, f8 := x0.f8, f9 := x0.f9 } x1.f8).f0 == x1.f0 && ((F27 { f0 := x0.f0, f1 := x0.f1, f2 := x0.f2, f3 := x0.f3, f4 := x0.f4, f5 := x0.f5, f6 := x0.f6, f7 := x0.f7, f8 := x0.f8, f9 := x0.f9 } x1.f8).f1 == x1.f1 && ((F27 { f0 := x0.f0, f1 := x0.f1, f2 := x0.f2, f3 := x0.f3, f4 := x0.f4, f5 := x0.f5, f6 := x0.f6, f7 := x0.f7, f8 := x0.f8, f9 := x0.f9 } x1.f8).f2 == x1.f2 && ((F27 { f0 := x0.f0, f1 := x0.f1, f2 := x0.f2, f3 := x0.f3, f4 := x0.f4, f5 := x0.f5, f6 := x0.f6, f7 := x0.f7, f8 := x0.f8, f9 := x0.f9 } x1.f8).f3 == x1.f3 && ((F27 { f0 := x0.f0, f1 := x0.f1, f2 := x0.f2, f3 := x0.f3, f4 := x0.f4, f5 := x0.f5, f6 := x0.f6, f7 := x0.f7, f8 := x0.f8, f9 := x0.f9 } x1.f8).f4 == x1.f4 && ((F27 { f0 := x0.f0, f1 := x0.f1, f2 := x0.f2, f3 := x0.f3, f4 := x0.f4, f5 := x0.f5, f6 := x0.f6, f7 := x0.f7, f8 := x0.f8, f9 := x0.f9 } x1.f8).f5 == x1.f5 && ((F27 { f0 := x0.f0, f1 := x0.f1, f2 := x0.f2, f3 := x0.f3, f4 := x0.f4, f5 := x0.f5, f6 := x0.f6, f7 := x0.f7, f8 := x0.f8, f9 := x0.f9 } x1.f8).f6 == x1.f6 && ((F27 { f0 := x0.f0, f1 := x0.f1, f2 := x0.f2, f3 := x0.f3, f4 := x0.f4, f5 := x0.f5, f6 := x0.f6, f7 := x0.f7, f8 := x0.f8, f9 := x0.f9 } x1.f8).f7 == x1.f7 && ((F27 { f0 := x0.f0, f1 := x0.f1, f2 := x0.f2, f3 := x0.f3, f4 := x0.f4, f5 := x0.f5, f6 := x0.f6, f7 := x0.f7, f8 := x0.f8, f9 := x0.f9 } x1.f8).f8 == x1.f8 && ((F27 { f0 := x0.f0, f1 := x0.f1, f2 := x0.f2, f3 := x0.f3, f4 := x0.f4, f5 := x0.f5, f6 := x0.f6, f7 := x0.f7, f8 := x0.f8, f9 := x0.f9 } x1.f8).f9 == x1.f9 && true)))))))))) else false else false
theorem p10 (F8 : T27 → Bool) (F26 : T25 → Bool) (F27 : T25 → Int → T25) (x0 : T27) (x1 : T25) : Ev.evBody0 E (Ev.evTab E [(8, s8 F8), (26, s26 F26), (27, s27 F27)] 40 12) (fun s => Ev.loopN s 40) 10 [v27 x0, v25 x1] ⟨[], 0, []⟩ = Ev.ret (e10 (N10 F8 F26 F27 x0 x1)) := by rw [t10]; simp only [N10, Ev.push e10]
noncomputable def F10 : T27 → T25 → Bool := N10 F8 F26 F27
theorem g10 : ∀ vs H r, s10 F10 vs H = some r → Ev.Good Try.prog 10 vs H r := by
  intro vs H r h
  unfold s10 at h
  split at h
  · obtain ⟨x0, rfl, h0⟩ := d27_ok h
    obtain ⟨x1, rfl, h1⟩ := d25_ok h0
    obtain rfl := Option.some.inj h1
    exact Ev.good_plain envOk (Ev.TabOk.cons g8 (Ev.TabOk.cons g26 (Ev.TabOk.cons g27 Ev.TabOk.nil))) (p10 F8 F26 F27 x0 x1) (by kernel_rfl) (by kernel_rfl) H
  · cases h
-- stockade/stockaderef17.Waits
theorem t11 (F9 : T27 → Bool) (F19 : T25 → Bool) (x0 : T27) (x1 : T25) : Ev.evBody0 E (Ev.evTab E [(9, s9 F9), (19, s19 F19)] 40 12) (fun s => Ev.loopN s 40) 11 [v27 x0, v25 x1] ⟨[], 0, []⟩ = bif !F9 { f0 := x0.f0, f1 := x0.f1, f2 := x0.f2, f3 := x0.f3, f4 := x0.f4, f5 := x0.f5, f6 := x0.f6, f7 := x0.f7, f8 := x0.f8, f9 := x0.f9, f10 := x0.f10, f11 := x0.f11, f12 := x0.f12, f13 := x0.f13, f14 := x0.f14, f15 := x0.f15, f16 := x0.f16, f17 := x0.f17, f18 := x0.f18, f19 := x0.f19, f20 := x0.f20, f21 := x0.f21 } then Ev.ret (e11 false) else bif !F19 { f0 := x1.f0, f1 := x1.f1, f2 := x1.f2, f3 := x1.f3, f4 := x1.f4, f5 := x1.f5, f6 := x1.f6, f7 := x1.f7, f8 := x1.f8, f9 := x1.f9 } then Ev.ret (e11 false) else bif x0.f8 == -1 then Ev.ret (e11 (x0.f0 == x1.f0 && (x0.f1 == x1.f1 && (x0.f2 == x1.f2 && (x0.f3 == x1.f3 && (x0.f4 == x1.f4 && (x0.f5 == x1.f5 && (x0.f6 == x1.f6 && (x0.f7 == x1.f7 && (x1.f8 == x1.f8 && (x0.f9 == x1.f9 && true))))))))))) else Ev.ret (e11 (x0.f0 == x1.f0 && (x0.f1 == x1.f1 && (x0.f2 == x1.f2 && (x0.f3 == x1.f3 && (x0.f4 == x1.f4 && (x0.f5 == x1.f5 && (x0.f6 == x1.f6 && (x0.f7 == x1.f7 && (x0.f8 == x1.f8 && (x0.f9 == x1.f9 && true))))))))))) := by kernel_rfl
noncomputable def N11 (F9 : T27 → Bool) (F19 : T25 → Bool) (x0 : T27) (x1 : T25) : Bool := bif !F9 { f0 := x0.f0, f1 := x0.f1, f2 := x0.f2, f3 := x0.f3, f4 := x0.f4, f5 := x0.f5, f6 := x0.f6, f7 := x0.f7, f8 := x0.f8, f9 := x0.f9, f10 := x0.f10, f11 := x0.f11, f12 := x0.f12, f13 := x0.f13, f14 := x0.f14, f15 := x0.f15, f16 := x0.f16, f17 := x0.f17, f18 := x0.f18, f19 := x0.f19, f20 := x0.f20, f21 := x0.f21 } then false else bif !F19 { f0 := x1.f0, f1 := x1.f1, f2 := x1.f2, f3 := x1.f3, f4 := x1.f4, f5 := x1.f5, f6 := x1.f6, f7 := x1.f7, f8 := x1.f8, f9 := x1.f9 } then false else bif x0.f8 == -1 then (x0.f0 == x1.f0 && (x0.f1 == x1.f1 && (x0.f2 == x1.f2 && (x0.f3 == x1.f3 && (x0.f4 == x1.f4 && (x0.f5 == x1.f5 && (x0.f6 == x1.f6 && (x0.f7 == x1.f7 && (x1.f8 == x1.f8 && (x0.f9 == x1.f9 && true)))))))))) else (x0.f0 == x1.f0 && (x0.f1 == x1.f1 && (x0.f2 == x1.f2 && (x0.f3 == x1.f3 && (x0.f4 == x1.f4 && (x0.f5 == x1.f5 && (x0.f6 == x1.f6 && (x0.f7 == x1.f7 && (x0.f8 == x1.f8 && (x0.f9 == x1.f9 && true))))))))))
theorem p11 (F9 : T27 → Bool) (F19 : T25 → Bool) (x0 : T27) (x1 : T25) : Ev.evBody0 E (Ev.evTab E [(9, s9 F9), (19, s19 F19)] 40 12) (fun s => Ev.loopN s 40) 11 [v27 x0, v25 x1] ⟨[], 0, []⟩ = Ev.ret (e11 (N11 F9 F19 x0 x1)) := by rw [t11]; simp only [N11, Ev.push e11]
noncomputable def F11 : T27 → T25 → Bool := N11 F9 F19
theorem g11 : ∀ vs H r, s11 F11 vs H = some r → Ev.Good Try.prog 11 vs H r := by
  intro vs H r h
  unfold s11 at h
  split at h
  · obtain ⟨x0, rfl, h0⟩ := d27_ok h
    obtain ⟨x1, rfl, h1⟩ := d25_ok h0
    obtain rfl := Option.some.inj h1
    exact Ev.good_plain envOk (Ev.TabOk.cons g9 (Ev.TabOk.cons g19 Ev.TabOk.nil)) (p11 F9 F19 x0 x1) (by kernel_rfl) (by kernel_rfl) H
  · cases h
-- stockade/stockadelaw17.alive
theorem t12  : Ev.evBody0 E (Ev.evTab E [] 40 12) (fun s => Ev.loopN s 40) 12 [] ⟨[], 0, []⟩ = Ev.ret (e12 true) := by kernel_rfl
noncomputable def N12  : Bool := true
theorem p12  : Ev.evBody0 E (Ev.evTab E [] 40 12) (fun s => Ev.loopN s 40) 12 [] ⟨[], 0, []⟩ = Ev.ret (e12 (N12 )) := by rw [t12]; simp only [N12, Ev.push e12]
noncomputable def F12 : Bool := N12 
theorem g12 : ∀ vs H r, s12 F12 vs H = some r → Ev.Good Try.prog 12 vs H r := by
  intro vs H r h
  unfold s12 at h
  split at h
  · obtain rfl := Option.some.inj h
    exact Ev.good_plain envOk Ev.TabOk.nil (p12 ) (by kernel_rfl) (by kernel_rfl) H
  · cases h
-- stockade/stockadelaw17.ExpectRights
theorem t3 (F8 : T27 → Bool) (F9 : T27 → Bool) (F10 : T27 → T25 → Bool) (F11 : T27 → T25 → Bool) (F12 : Bool) (x0 : T27) (x1 : T25) : Ev.evBody0 E (Ev.evTab E [(8, s8 F8), (9, s9 F9), (10, s10 F10), (11, s11 F11), (12, s12 F12)] 40 12) (fun s => Ev.loopN s 40) 3 [v27 x0, v25 x1] ⟨[], 0, []⟩ = bif F8 { f0 := x0.f0, f1 := x0.f1, f2 := x0.f2, f3 := x0.f3, f4 := x0.f4, f5 := x0.f5, f6 := x0.f6, f7 := x0.f7, f8 := x0.f8, f9 := x0.f9, f10 := x0.f10, f11 := x0.f11, f12 := x0.f12, f13 := x0.f13, f14 := x0.f14, f15 := x0.f15, f16 := x0.f16, f17 := x0.f17, f18 := x0.f18, f19 := x0.f19, f20 := x0.f20, f21 := x0.f21 } == F9 { f0 := x0.f0, f1 := x0.f1, f2 := x0.f2, f3 := x0.f3, f4 := x0.f4, f5 := x0.f5, f6 := x0.f6, f7 := x0.f7, f8 := x0.f8, f9 := x0.f9, f10 := x0.f10, f11 := x0.f11, f12 := x0.f12, f13 := x0.f13, f14 := x0.f14, f15 := x0.f15, f16 := x0.f16, f17 := x0.f17, f18 := x0.f18, f19 := x0.f19, f20 := x0.f20, f21 := x0.f21 } then bif F10 { f0 := x0.f0, f1 := x0.f1, f2 := x0.f2, f3 := x0.f3, f4 := x0.f4, f5 := x0.f5, f6 := x0.f6, f7 := x0.f7, f8 := x0.f8, f9 := x0.f9, f10 := x0.f10, f11 := x0.f11, f12 := x0.f12, f13 := x0.f13, f14 := x0.f14, f15 := x0.f15, f16 := x0.f16, f17 := x0.f17, f18 := x0.f18, f19 := x0.f19, f20 := x0.f20, f21 := x0.f21 } { f0 := x1.f0, f1 := x1.f1, f2 := x1.f2, f3 := x1.f3, f4 := x1.f4, f5 := x1.f5, f6 := x1.f6, f7 := x1.f7, f8 := x1.f8, f9 := x1.f9 } == F11 { f0 := x0.f0, f1 := x0.f1, f2 := x0.f2, f3 := x0.f3, f4 := x0.f4, f5 := x0.f5, f6 := x0.f6, f7 := x0.f7, f8 := x0.f8, f9 := x0.f9, f10 := x0.f10, f11 := x0.f11, f12 := x0.f12, f13 := x0.f13, f14 := x0.f14, f15 := x0.f15, f16 := x0.f16, f17 := x0.f17, f18 := x0.f18, f19 := x0.f19, f20 := x0.f20, f21 := x0.f21 } { f0 := x1.f0, f1 := x1.f1, f2 := x1.f2, f3 := x1.f3, f4 := x1.f4, f5 := x1.f5, f6 := x1.f6, f7 := x1.f7, f8 := x1.f8, f9 := x1.f9 } then Ev.ret (e3 F12) else Ev.ret (e3 false) else Ev.ret (e3 false) := by kernel_rfl
noncomputable def N3 (F8 : T27 → Bool) (F9 : T27 → Bool) (F10 : T27 → T25 → Bool) (F11 : T27 → T25 → Bool) (F12 : Bool) (x0 : T27) (x1 : T25) : Bool := bif F8 { f0 := x0.f0, f1 := x0.f1, f2 := x0.f2, f3 := x0.f3, f4 := x0.f4, f5 := x0.f5, f6 := x0.f6, f7 := x0.f7, f8 := x0.f8, f9 := x0.f9, f10 := x0.f10, f11 := x0.f11, f12 := x0.f12, f13 := x0.f13, f14 := x0.f14, f15 := x0.f15, f16 := x0.f16, f17 := x0.f17, f18 := x0.f18, f19 := x0.f19, f20 := x0.f20, f21 := x0.f21 } == F9 { f0 := x0.f0, f1 := x0.f1, f2 := x0.f2, f3 := x0.f3, f4 := x0.f4, f5 := x0.f5, f6 := x0.f6, f7 := x0.f7, f8 := x0.f8, f9 := x0.f9, f10 := x0.f10, f11 := x0.f11, f12 := x0.f12, f13 := x0.f13, f14 := x0.f14, f15 := x0.f15, f16 := x0.f16, f17 := x0.f17, f18 := x0.f18, f19 := x0.f19, f20 := x0.f20, f21 := x0.f21 } then bif F10 { f0 := x0.f0, f1 := x0.f1, f2 := x0.f2, f3 := x0.f3, f4 := x0.f4, f5 := x0.f5, f6 := x0.f6, f7 := x0.f7, f8 := x0.f8, f9 := x0.f9, f10 := x0.f10, f11 := x0.f11, f12 := x0.f12, f13 := x0.f13, f14 := x0.f14, f15 := x0.f15, f16 := x0.f16, f17 := x0.f17, f18 := x0.f18, f19 := x0.f19, f20 := x0.f20, f21 := x0.f21 } { f0 := x1.f0, f1 := x1.f1, f2 := x1.f2, f3 := x1.f3, f4 := x1.f4, f5 := x1.f5, f6 := x1.f6, f7 := x1.f7, f8 := x1.f8, f9 := x1.f9 } == F11 { f0 := x0.f0, f1 := x0.f1, f2 := x0.f2, f3 := x0.f3, f4 := x0.f4, f5 := x0.f5, f6 := x0.f6, f7 := x0.f7, f8 := x0.f8, f9 := x0.f9, f10 := x0.f10, f11 := x0.f11, f12 := x0.f12, f13 := x0.f13, f14 := x0.f14, f15 := x0.f15, f16 := x0.f16, f17 := x0.f17, f18 := x0.f18, f19 := x0.f19, f20 := x0.f20, f21 := x0.f21 } { f0 := x1.f0, f1 := x1.f1, f2 := x1.f2, f3 := x1.f3, f4 := x1.f4, f5 := x1.f5, f6 := x1.f6, f7 := x1.f7, f8 := x1.f8, f9 := x1.f9 } then F12 else false else false
theorem p3 (F8 : T27 → Bool) (F9 : T27 → Bool) (F10 : T27 → T25 → Bool) (F11 : T27 → T25 → Bool) (F12 : Bool) (x0 : T27) (x1 : T25) : Ev.evBody0 E (Ev.evTab E [(8, s8 F8), (9, s9 F9), (10, s10 F10), (11, s11 F11), (12, s12 F12)] 40 12) (fun s => Ev.loopN s 40) 3 [v27 x0, v25 x1] ⟨[], 0, []⟩ = Ev.ret (e3 (N3 F8 F9 F10 F11 F12 x0 x1)) := by rw [t3]; simp only [N3, Ev.push e3]
noncomputable def F3 : T27 → T25 → Bool := N3 F8 F9 F10 F11 F12
theorem g3 : ∀ vs H r, s3 F3 vs H = some r → Ev.Good Try.prog 3 vs H r := by
  intro vs H r h
  unfold s3 at h
  split at h
  · obtain ⟨x0, rfl, h0⟩ := d27_ok h
    obtain ⟨x1, rfl, h1⟩ := d25_ok h0
    obtain rfl := Option.some.inj h1
    exact Ev.good_plain envOk (Ev.TabOk.cons g8 (Ev.TabOk.cons g9 (Ev.TabOk.cons g10 (Ev.TabOk.cons g11 (Ev.TabOk.cons g12 Ev.TabOk.nil))))) (p3 F8 F9 F10 F11 F12 x0 x1) (by kernel_rfl) (by kernel_rfl) H
  · cases h
end Go.Proofs.Ytkpcfdkkfpbjdaa
