/-
  Streams: program and document answer alike. No conditions.
-/
import Derived.Test.YteljeekapcenlaaTb
namespace Go.Proofs.Yteljeekapcenlaa
open Go
set_option linter.unusedSimpArgs false
set_option linter.unusedVariables false

theorem cond_cases {α : Type} {b : Bool} {x y z : α} (h1 : b = true → x = z) (h2 : b = false → y = z) : cond b x y = z := by cases b <;> simp_all
theorem cond_cases' {α : Type} {b : Bool} {x y z : α} (h1 : b = true → z = x) (h2 : b = false → z = y) : z = cond b x y := by cases b <;> simp_all

theorem w_u32 (n : Int) : IntKind.u32.wrap n = n % 4294967296 := by simp [IntKind.wrap, IntKind.signed, IntKind.bits]
theorem w_i32 (n : Int) : IntKind.i32.wrap n = if n % 4294967296 ≥ 2147483648 then n % 4294967296 - 4294967296 else n % 4294967296 := by simp [IntKind.wrap, IntKind.signed, IntKind.bits]

theorem w_i64 (n : Int) : IntKind.i64.wrap n = if n % 18446744073709551616 ≥ 9223372036854775808 then n % 18446744073709551616 - 18446744073709551616 else n % 18446744073709551616 := by simp [IntKind.wrap, IntKind.signed, IntKind.bits]

theorem a_From (a b : Int) : F_tcp_reaches a b = F_r15_From a b := by
  unfold F_tcp_reaches F_r15_From N_tcp_reaches N_r15_From G_tcp_reaches G_r15_From
  rw [Ev.ltI_eq, Ev.leI_eq, Bool.eq_iff_iff]
  simp only [decide_eq_true_eq, w_u32, w_i32]
  omega

theorem a_End (g : T_r15_Segment) : F_tcp_Segment_end g = F_r15_End g := rfl

-- ---------------------------------------------------------------- flags

theorem and_bv (f : Int) (m : BitVec 64) : Ev.bitsOp .and .i64 f m.toInt = (BitVec.ofInt 64 f &&& m).toInt := by
  unfold Ev.bitsOp
  have e : BitVec.ofInt IntKind.i64.bits m.toInt = m := BitVec.ofInt_toInt
  simp only [e]
  show IntKind.i64.wrap ((BitVec.ofInt 64 f &&& m).toNat : Int) = _
  generalize BitVec.ofInt 64 f &&& m = v
  have hv := v.isLt
  rw [BitVec.toInt_eq_toNat_cond, w_i64]
  have hv' : v.toNat < 18446744073709551616 := hv
  have e1 : ((v.toNat : Nat) : Int) % 18446744073709551616 = v.toNat := by omega
  rw [e1]
  have e2 : (2 : Nat) ^ 64 = 18446744073709551616 := by decide
  rw [e2]
  by_cases h : 2 * v.toNat < 18446744073709551616
  · rw [if_pos h, if_neg (by omega)]
  · rw [if_neg h, if_pos (by omega)]; rfl

theorem and_small (F : BitVec 64) (m : BitVec 6) : F &&& m.setWidth 64 = ((F.setWidth 6) &&& m).setWidth 64 := by
  apply BitVec.eq_of_getLsbD_eq
  intro i hi
  simp only [BitVec.getLsbD_and, BitVec.getLsbD_setWidth]
  cases hm : m.getLsbD i
  · simp
  · have : i < 6 := by
      by_cases h : i < 6
      · exact h
      · rw [BitVec.getLsbD_of_ge _ _ (by omega)] at hm; cases hm
    simp [hi, this]

/-- the flags of TCP in a number -/
def fl (f : Int) : BitVec 6 := (BitVec.ofInt 64 f).setWidth 6

theorem and_fl (f : Int) (m : BitVec 6) : Ev.bitsOp .and .i64 f (m.setWidth 64).toInt = ((fl f &&& m).setWidth 64).toInt := by
  rw [and_bv, and_small]; rfl

theorem fl_1 (f : Int) : (Ev.bitsOp .and .i64 f 1 != 0) = (fl f &&& 1#6 != 0#6) := by
  have := and_fl f 1#6
  have e : ((1#6).setWidth 64).toInt = 1 := by decide
  rw [e] at this
  rw [this]
  generalize fl f = x
  revert x; decide
theorem fl_2 (f : Int) : (Ev.bitsOp .and .i64 f 2 != 0) = (fl f &&& 2#6 != 0#6) := by
  have := and_fl f 2#6
  have e : ((2#6).setWidth 64).toInt = 2 := by decide
  rw [e] at this
  rw [this]
  generalize fl f = x
  revert x; decide
theorem fl_4 (f : Int) : (Ev.bitsOp .and .i64 f 4 != 0) = (fl f &&& 4#6 != 0#6) := by
  have := and_fl f 4#6
  have e : ((4#6).setWidth 64).toInt = 4 := by decide
  rw [e] at this
  rw [this]
  generalize fl f = x
  revert x; decide
theorem fl_16 (f : Int) : (Ev.bitsOp .and .i64 f 16 != 0) = (fl f &&& 16#6 != 0#6) := by
  have := and_fl f 16#6
  have e : ((16#6).setWidth 64).toInt = 16 := by decide
  rw [e] at this
  rw [this]
  generalize fl f = x
  revert x; decide
theorem fl_21 (f : Int) : (Ev.bitsOp .and .i64 f 21 != 0) = (fl f &&& 21#6 != 0#6) := by
  have := and_fl f 21#6
  have e : ((21#6).setWidth 64).toInt = 21 := by decide
  rw [e] at this
  rw [this]
  generalize fl f = x
  revert x; decide
theorem fl_23 (f : Int) : (Ev.bitsOp .and .i64 f 23 != 2) = (fl f &&& 23#6 != 2#6) := by
  have := and_fl f 23#6
  have e : ((23#6).setWidth 64).toInt = 23 := by decide
  rw [e] at this
  rw [this]
  generalize fl f = x
  revert x; decide

theorem bits_begin (x : BitVec 6) : (x &&& 23#6 != 2#6) = (!(x &&& 2#6 != 0#6) || (x &&& 21#6 != 0#6)) := by revert x; decide
theorem bits_fin (x : BitVec 6) (h1 : (x &&& 2#6 != 0#6) = true) (h2 : (x &&& 21#6 != 0#6) = false) : (x &&& 1#6 != 0#6) = false := by revert x; decide

theorem a_has (g : T_r15_Segment) (m : Int) : F_tcp_Segment_has g m = (Ev.bitsOp .and .i64 g.Flags m != 0) := rfl
theorem a_fits (g : T_r15_Segment) : F_tcp_Segment_fits g = (F_r15_in g.Win && F_r15_in g.Size) := by
  unfold F_tcp_Segment_fits N_tcp_Segment_fits G_tcp_Segment_fits F_r15_in N_r15_in G_r15_in
  cases Ev.leI 0 g.Win <;> cases Ev.leI g.Win 65535 <;> cases Ev.leI 0 g.Size <;> rfl
theorem a_in (n : Int) : F_r15_in n = true ↔ 0 ≤ n ∧ n ≤ 65535 := by
  unfold F_r15_in N_r15_in G_r15_in
  rw [Ev.leI_eq, Ev.leI_eq]
  by_cases h : 0 ≤ n <;> simp [h]

theorem a_Begin (f s w z : Int) : F_tcp_Begin f s w z = F_r15_Begin f s w z := by
  unfold F_tcp_Begin N_tcp_Begin G_tcp_Begin F_r15_Begin N_r15_Begin G_r15_Begin
  rw [a_fits, fl_23, bits_begin]
  simp only [a_has, fl_2, fl_21]
  cases hw : F_r15_in w
  · rfl
  cases hz : F_r15_in z
  · rfl
  have hz' := (a_in z).1 hz
  cases h2 : (fl f &&& 2#6 != 0#6)
  · rfl
  cases h21 : (fl f &&& 21#6 != 0#6)
  · by_cases h0 : z = 0
    · subst h0
      have h1 := bits_fin _ h2 h21
      have e : F_tcp_Segment_end ⟨f, w, 0, s, 0⟩ = IntKind.u32.wrap (s + 1) := by
        rw [a_End]
        unfold F_r15_End N_r15_End G_r15_End
        simp only [fl_1, fl_2, h1, h2, cond_true, cond_false, w_u32]
        omega
      simp only [e]
      rfl
    · have e1 : Ev.ltI 0 z = true := by rw [Ev.ltI_eq]; simp; omega
      have e2 : (z != 0) = true := by simpa using h0
      simp only [e1, e2]
      rfl
  · rfl

theorem a_Right (c : T_api_Conn) : F_tcp_Right c = F_r15_Right c := by
  unfold F_tcp_Right N_tcp_Right G_tcp_Right F_r15_Right N_r15_Right G_r15_Right
  rw [Ev.ltI_eq, Ev.ltI_eq]
  have hs : c.State = 1 ∨ c.State = 2 ∨ c.State = 3 ∨ c.State = 4 ∨ c.State = 5 ∨ c.State = 6 ∨ (c.State < 1 ∨ 6 < c.State) := by omega
  rcases hs with h | h | h | h | h | h | h
  all_goals first
    | (rw [h]
       generalize c.Known_c0 = p
       generalize c.Known_c1 = q
       generalize c.Ended_c0 = r
       generalize c.Ended_c1 = s
       revert p q r s; decide)
    | skip
  have b1 : (c.State == 1) = false := by simp; omega
  have b2 : (c.State == 2) = false := by simp; omega
  have b3 : (c.State == 3) = false := by simp; omega
  have b4 : (c.State == 4) = false := by simp; omega
  have b5 : (c.State == 5) = false := by simp; omega
  have b6 : (c.State == 6) = false := by simp; omega
  simp only [b1, b2, b3, b4, b5, b6, Bool.false_and, cond_false]
  have e : cond (decide (c.State < 1)) false (cond (decide (6 < c.State)) false true) = false := by
    rcases h with h | h
    · simp [h]
    · by_cases h1 : c.State < 1 <;> simp [h, h1]
  generalize decide (c.State < 1) = u at e ⊢
  generalize decide (6 < c.State) = v at e ⊢
  generalize c.Ended_c0 = r
  generalize c.Ended_c1 = s
  revert e
  cases u <;> cases v <;> cases r <;> cases s <;> simp

theorem a_Life (c : T_api_Conn) : F_tcp_Life c = F_r15_Life c := by
  unfold F_tcp_Life N_tcp_Life G_tcp_Life F_r15_Life N_r15_Life G_r15_Life
  rw [a_Right]
  cases hr : F_r15_Right c with
  | false => rfl
  | true =>
    have hs : c.State = 1 ∨ c.State = 2 ∨ c.State = 3 ∨ c.State = 4 ∨ c.State = 5 ∨ c.State = 6 ∨ (c.State < 1 ∨ 6 < c.State) := by omega
    rcases hs with h | h | h | h | h | h | h
    all_goals first
      | (rw [h]; rfl)
      | skip
    exfalso
    unfold F_r15_Right N_r15_Right G_r15_Right at hr
    rw [Ev.ltI_eq, Ev.ltI_eq] at hr
    rcases h with h | h
    · simp [h] at hr
    · by_cases h1 : c.State < 1 <;> simp [h, h1] at hr

end Go.Proofs.Yteljeekapcenlaa
