/-
  Which wants may be, and what they wait for: program and document answer alike. No conditions.
-/
import Derived.Test.YtkpcfdkkfpbjdaaFna
namespace Go.Proofs.Ytkpcfdkkfpbjdaa
open Go
set_option linter.unusedSimpArgs false

theorem cond_iff (b x y : Bool) : (cond b x y = true) ↔ (b = true ∧ x = true) ∨ (b = false ∧ y = true) := by cases b <;> simp
theorem beq_f (a b : Int) : ((a == b) = false) ↔ ¬ a = b := by simp

theorem ff : (false = true) ↔ False := by simp
theorem tt : (true = true) ↔ True := by simp
theorem ft : (false = false) ↔ True := by simp
theorem tf : (true = false) ↔ False := by simp
theorem dec_f (p : Prop) [Decidable p] : (decide p = false) ↔ ¬ p := by simp
theorem not_t (b : Bool) : ((!b) = true) ↔ b = false := by cases b <;> simp
theorem not_f (b : Bool) : ((!b) = false) ↔ b = true := by cases b <;> simp
theorem cond_iff_f (b x y : Bool) : (cond b x y = false) ↔ (b = true ∧ x = false) ∨ (b = false ∧ y = false) := by cases b <;> simp

theorem a41 (x : T23) (h : 0 ≤ x.f2) : F41 x = F44 x := by
  unfold F41 F44 N41 N44
  rw [Ev.ltI_eq]
  have e : (x.f2.fdiv 4294967296 == 0) = decide (x.f2 < 4294967296) := by
    rw [Bool.eq_iff_iff]
    simp only [beq_iff_eq, decide_eq_true_eq]
    rw [Int.fdiv_eq_ediv_of_nonneg _ (by decide)]
    omega
  rw [e, Bool.eq_iff_iff]
  simp only [cond_iff, beq_iff_eq, beq_f, decide_eq_true_eq, ff, tt, and_false, and_true, or_false, false_or]
  omega

theorem word_ne (a b : Int) : (!(F42 a b).toList == (ByteArray.mk { toList := [] }).toList) = (b == 6 || b == 17 || (b == 1 && a == 4) || (b == 58 && a == 6)) := by
  unfold F42 N42
  cases h6 : (b == 6)
  · cases h17 : (b == 17)
    · cases h1 : (b == 1)
      · cases h58 : (b == 58)
        · simp
        · cases ha : (a == 6)
          · simp
          · simp only [cond_true, cond_false, Bool.false_or, Bool.true_and, Bool.false_and, Bool.or_true]; decide +kernel
      · have e : b = 1 := by simpa using h1
        subst e
        cases ha : (a == 4)
        · simp
        · simp only [cond_true, cond_false, Bool.false_or, Bool.true_and, Bool.true_or]; decide +kernel
    · simp only [cond_true, cond_false, Bool.false_or, Bool.true_or]; decide +kernel
  · simp only [cond_true, cond_false, Bool.false_or, Bool.true_or]; decide +kernel

theorem a26 (x : T25) (h1 : 0 ≤ x.f4) (h2 : 0 ≤ x.f7) : F26 x = F19 x := by
  unfold F26 F19 N26 N19
  rw [word_ne, a41 _ h1, a41 _ h2]
  unfold F43 N43 F34 N34 F35 N35
  simp only [Ev.ltI_eq, Ev.leI_eq]
  have k44 : ∀ y : T23, F44 y = true → y.f0 = 6 ∨ y.f0 = 4 := by
    intro y hy
    unfold F44 N44 at hy
    simp only [cond_iff, beq_iff_eq, beq_f, ff, tt, and_false, and_true, or_false, false_or] at hy
    omega
  have kp := k44 { f0 := x.f2, f1 := x.f3, f2 := x.f4 }
  have kq := k44 { f0 := x.f5, f1 := x.f6, f2 := x.f7 }
  clear k44
  generalize F44 { f0 := x.f2, f1 := x.f3, f2 := x.f4 } = p at *
  generalize F44 { f0 := x.f5, f1 := x.f6, f2 := x.f7 } = q at *
  have e : ∀ b : Bool, (x.f1 == (bif b then 1 else 58)) = cond b (x.f1 == 1) (x.f1 == 58) := by intro b; cases b <;> rfl
  rw [e, Bool.eq_iff_iff]
  cases p <;> cases q <;>
    simp only [cond_iff, cond_iff_f, beq_iff_eq, beq_f, decide_eq_true_eq, dec_f, Bool.or_eq_true, Bool.and_eq_true, Bool.or_eq_false_iff, Bool.and_eq_false_imp, ff, tt, ft, tf, false_and, and_false, true_and, and_true, or_false, false_or, forall_const, false_imp_iff] at kp kq ⊢ <;> omega

theorem a28 (a b : Int) : F28 a b = F29 a b := rfl

theorem a8 (w : T27) (h1 : 0 ≤ w.f4) (h2 : 0 ≤ w.f7) (h3 : 0 ≤ w.f14) (h4 : 0 ≤ w.f17) : F8 w = F9 w := by
  unfold F8 F9 N8 N9 F27 N27
  simp only [a28]
  cases h : (w.f8 == -1)
  · simp only [cond_false]
    rw [a26 _ h1 h2, a26 _ h3 h4]
  · simp only [cond_true]
    rw [a26 _ h1 h2, a26 _ h3 h4]

theorem a10 (w : T27) (t : T25) (h1 : 0 ≤ w.f4) (h2 : 0 ≤ w.f7) (h3 : 0 ≤ w.f14) (h4 : 0 ≤ w.f17) (h5 : 0 ≤ t.f4) (h6 : 0 ≤ t.f7) : F10 w t = F11 w t := by
  unfold F10 F11 N10 N11
  rw [a8 _ h1 h2 h3 h4, a26 _ h5 h6]
  cases F9 _
  · rfl
  · cases F19 _
    · rfl
    · unfold F27 N27
      cases h : (w.f8 == -1)
      · rfl
      · rfl

theorem law_3 (w : T27) (t : T25) (hw : IntKind.i64.has w.f0 ∧ IntKind.i64.has w.f1 ∧ IntKind.i64.has w.f2 ∧ IntKind.u64.has w.f3 ∧ IntKind.u64.has w.f4 ∧ IntKind.i64.has w.f5 ∧ IntKind.u64.has w.f6 ∧ IntKind.u64.has w.f7 ∧ IntKind.i64.has w.f8 ∧ IntKind.i64.has w.f9 ∧
    IntKind.i64.has w.f10 ∧ IntKind.i64.has w.f11 ∧ IntKind.i64.has w.f12 ∧ IntKind.u64.has w.f13 ∧ IntKind.u64.has w.f14 ∧ IntKind.i64.has w.f15 ∧ IntKind.u64.has w.f16 ∧ IntKind.u64.has w.f17 ∧ IntKind.i64.has w.f18 ∧ IntKind.i64.has w.f19 ∧ IntKind.i64.has w.f20 ∧ IntKind.i64.has w.f21)
    (ht : IntKind.i64.has t.f0 ∧ IntKind.i64.has t.f1 ∧ IntKind.i64.has t.f2 ∧ IntKind.u64.has t.f3 ∧ IntKind.u64.has t.f4 ∧ IntKind.i64.has t.f5 ∧ IntKind.u64.has t.f6 ∧ IntKind.u64.has t.f7 ∧ IntKind.i64.has t.f8 ∧ IntKind.i64.has t.f9) : F3 w t = true := by
  have u : ∀ {n : Int}, IntKind.u64.has n → 0 ≤ n := fun h => by simpa [IntKind.min, IntKind.signed] using h.1
  obtain ⟨_, _, _, _, w4, _, _, w7, _, _, _, _, _, _, w14, _, _, w17, _⟩ := hw
  obtain ⟨_, _, _, _, t4, _, _, t7, _⟩ := ht
  unfold F3 N3
  rw [a8 _ (u w4) (u w7) (u w14) (u w17), a10 _ _ (u w4) (u w7) (u w14) (u w17) (u t4) (u t7)]
  simp only [beq_self_eq_true, cond_true]
  rfl
end Go.Proofs.Ytkpcfdkkfpbjdaa
