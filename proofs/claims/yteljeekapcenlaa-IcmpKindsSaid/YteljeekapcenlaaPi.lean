/-
  The fates of messages, by plain values. No conditions.
-/
import Derived.Test.YteljeekapcenlaaIa
namespace Go.Proofs.Yteljeekapcenlaa
open Go
set_option linter.unusedVariables false
set_option linter.unusedSimpArgs false

theorem fate_in (x m v : Int) : (bif Ev.ltI x 0 then 0 else bif Ev.ltI m x then 0 else v) = bif F_r21_in x m then v else 0 := by
  unfold F_r21_in N_r21_in G_r21_in
  simp only [Ev.ltI_eq, Ev.leI_eq]
  by_cases h1 : x < 0
  · have : ¬ 0 ≤ x := by omega
    simp [h1, this]
  · have h2 : 0 ≤ x := by omega
    by_cases h3 : m < x
    · have : ¬ x ≤ m := by omega
      simp [h1, h2, h3, this]
    · have : x ≤ m := by omega
      simp [h1, h2, h3, this]
theorem in0 (x : Int) : (x == 0) = F_r21_in x 0 := by
  unfold F_r21_in N_r21_in G_r21_in
  simp only [Ev.leI_eq]
  rw [Bool.eq_iff_iff]
  simp
  omega

theorem fates (x0 x1 x2 : Int) : F_icmp_Fate x0 x1 x2 = F_r21_Fate x0 x1 x2 := by
  unfold F_icmp_Fate N_icmp_Fate G_icmp_Fate
  simp only [fate_in, Bool.and_true]
  have oth : x0 ≠ 4 → x0 ≠ 6 → F_r21_Fate x0 x1 x2 = 0 := by
    intro h4 h6
    unfold F_r21_Fate
    split <;> first | rfl | (exact absurd rfl h4) | (exact absurd rfl h6)
  by_cases h4 : x0 = 4
  · subst h4
    have e : F_r21_Fate 4 x1 x2 = N_r21_Fatev4 F_r21_in x1 x2 := rfl
    rw [e]
    unfold N_r21_Fatev4 G_r21_Fatev4
    rw [in0 x2]
    generalize F_r21_in x2 0 = b0
    generalize F_r21_in x2 15 = b15
    generalize F_r21_in x2 1 = b1
    generalize F_r21_in x2 2 = b2
    generalize F_r21_in x2 7 = b7
    by_cases q0 : x1 = 0
    · subst q0; simp
    by_cases q8 : x1 = 8
    · subst q8; simp
    by_cases q3 : x1 = 3
    · subst q3; simp
    by_cases q11 : x1 = 11
    · subst q11; simp
    by_cases q12 : x1 = 12
    · subst q12; simp
    simp [beq_eq_false_iff_ne.2 q0, beq_eq_false_iff_ne.2 q8, beq_eq_false_iff_ne.2 q3, beq_eq_false_iff_ne.2 q11, beq_eq_false_iff_ne.2 q12]
  · by_cases h6 : x0 = 6
    · subst h6
      have e : F_r21_Fate 6 x1 x2 = N_r21_Fatev6 F_r21_in x1 x2 := rfl
      rw [e]
      unfold N_r21_Fatev6 G_r21_Fatev6
      rw [in0 x2]
      generalize F_r21_in x2 0 = b0
      generalize F_r21_in x2 15 = b15
      generalize F_r21_in x2 1 = b1
      generalize F_r21_in x2 2 = b2
      generalize F_r21_in x2 7 = b7
      simp only [Ev.leI_eq]
      by_cases q0 : x1 = 128
      · subst q0; simp
      by_cases q1 : x1 = 129
      · subst q1; simp
      by_cases q2 : x1 = 144
      · subst q2; simp
      by_cases q3 : x1 = 145
      · subst q3; simp
      by_cases q4 : x1 = 146
      · subst q4; simp
      by_cases q5 : x1 = 147
      · subst q5; simp
      by_cases q6 : x1 = 1
      · subst q6; simp
      by_cases q7 : x1 = 2
      · subst q7; simp
      by_cases q8 : x1 = 3
      · subst q8; simp
      by_cases q9 : x1 = 4
      · subst q9; simp
      by_cases p1 : 144 ≤ x1
      · have p2 : ¬ x1 ≤ 147 := by omega
        simp [beq_eq_false_iff_ne.2 q0, beq_eq_false_iff_ne.2 q1, beq_eq_false_iff_ne.2 q2, beq_eq_false_iff_ne.2 q3, beq_eq_false_iff_ne.2 q4, beq_eq_false_iff_ne.2 q5, beq_eq_false_iff_ne.2 q6, beq_eq_false_iff_ne.2 q7, beq_eq_false_iff_ne.2 q8, beq_eq_false_iff_ne.2 q9, p1, p2]
      · simp [beq_eq_false_iff_ne.2 q0, beq_eq_false_iff_ne.2 q1, beq_eq_false_iff_ne.2 q2, beq_eq_false_iff_ne.2 q3, beq_eq_false_iff_ne.2 q4, beq_eq_false_iff_ne.2 q5, beq_eq_false_iff_ne.2 q6, beq_eq_false_iff_ne.2 q7, beq_eq_false_iff_ne.2 q8, beq_eq_false_iff_ne.2 q9, p1]
    · rw [oth h4 h6]
      simp [beq_eq_false_iff_ne.2 h4, beq_eq_false_iff_ne.2 h6]

theorem law_law21_IcmpFates (x0 x1 x2 : Int) (r0 : IntKind.i64.has x0) (r1 : IntKind.i64.has x1) (r2 : IntKind.i64.has x2) : F_law21_IcmpFates x0 x1 x2 = true := by
  unfold F_law21_IcmpFates N_law21_IcmpFates G_law21_IcmpFates
  rw [fates]
  simp
  rfl

theorem fate_kinds (x0 x1 x2 : Int) : F_icmp_Fate x0 x1 x2 = 0 ∨ (F_icmp_Fate x0 x1 x2 = 1 ∧ F_seg_IsError x0 x1 = false ∧ ¬ (x0 = 6 ∧ 133 ≤ x1 ∧ x1 ≤ 137)) ∨ (F_icmp_Fate x0 x1 x2 = 2 ∧ F_seg_IsError x0 x1 = true ∧ ¬ (x0 = 6 ∧ 133 ≤ x1 ∧ x1 ≤ 137)) := by
  unfold F_icmp_Fate N_icmp_Fate G_icmp_Fate
  simp only [fate_in, Bool.and_true]
  have step : ∀ (c b : Bool) (v w : Int), (c = true → v = 1 ∧ F_seg_IsError x0 x1 = false ∧ ¬ (x0 = 6 ∧ 133 ≤ x1 ∧ x1 ≤ 137) ∨ v = 2 ∧ F_seg_IsError x0 x1 = true ∧ ¬ (x0 = 6 ∧ 133 ≤ x1 ∧ x1 ≤ 137)) →
      (w = 0 ∨ (w = 1 ∧ F_seg_IsError x0 x1 = false ∧ ¬ (x0 = 6 ∧ 133 ≤ x1 ∧ x1 ≤ 137)) ∨ (w = 2 ∧ F_seg_IsError x0 x1 = true ∧ ¬ (x0 = 6 ∧ 133 ≤ x1 ∧ x1 ≤ 137))) →
      ((bif c then (bif b then v else 0) else w) = 0 ∨ ((bif c then (bif b then v else 0) else w) = 1 ∧ F_seg_IsError x0 x1 = false ∧ ¬ (x0 = 6 ∧ 133 ≤ x1 ∧ x1 ≤ 137)) ∨ ((bif c then (bif b then v else 0) else w) = 2 ∧ F_seg_IsError x0 x1 = true ∧ ¬ (x0 = 6 ∧ 133 ≤ x1 ∧ x1 ≤ 137))) := by
    intro c b v w h1 h2
    cases c
    · exact h2
    · cases b
      · exact .inl rfl
      · exact .inr (h1 rfl)
  repeat' (refine step _ _ _ _ (fun h => ?_) ?_)
  all_goals first
    | exact .inl rfl
    | (simp only [Bool.and_eq_true, beq_iff_eq] at h
       obtain ⟨rfl, rfl⟩ := h
       first
         | exact .inl ⟨rfl, by decide +kernel, by omega⟩
         | exact .inr ⟨rfl, by decide +kernel, by omega⟩
         | exact .inl ⟨rfl, by rfl, by omega⟩
         | exact .inr ⟨rfl, by rfl, by omega⟩)

theorem law_law21_IcmpKinds (x0 x1 x2 : Int) (r0 : IntKind.i64.has x0) (r1 : IntKind.i64.has x1) (r2 : IntKind.i64.has x2) : F_law21_IcmpKinds x0 x1 x2 = true := by
  unfold F_law21_IcmpKinds N_law21_IcmpKinds G_law21_IcmpKinds
  have ha : F_law21_alive = true := rfl
  rw [ha]
  rcases fate_kinds x0 x1 x2 with h | ⟨h, e, n⟩ | ⟨h, e, n⟩
  · rw [h]; simp
  all_goals
    rw [h, e]
    simp only [Ev.ltI_eq]
    by_cases h0 : x0 = 6
    · subst h0
      by_cases h1 : x1 < 133
      · simp [h1]
      · have h2 : 137 < x1 := by
          by_cases q : x1 ≤ 137
          · exact absurd ⟨rfl, by omega, q⟩ n
          · omega
        simp [h1, h2]
    · simp [bne_iff_ne.2 h0]
end Go.Proofs.Yteljeekapcenlaa
