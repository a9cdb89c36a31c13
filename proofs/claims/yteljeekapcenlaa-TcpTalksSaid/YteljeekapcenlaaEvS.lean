/-
  Ev, part S: maps: keys held against each other. No conditions.
-/
import Derived.Test.YteljeekapcenlaaEvQ
namespace Go.Proofs.Yteljeekapcenlaa.Ev
open Go Go.RowKit
theorem okCells_cons {k : Kd} {ks : List Kd} {vs : List Value} (h : okCells (k :: ks) vs = true) : ∃ v l, vs = v :: l ∧ k.holds v = true ∧ okCells ks l = true := by
  cases vs with
  | nil => exact absurd (show false = true from h) (by simp)
  | cons v l =>
    have h : (k.holds v && okCells ks l) = true := h
    simp only [Bool.and_eq_true] at h
    exact ⟨v, l, rfl, h.1, h.2⟩
theorem okCells_nil {vs : List Value} (h : okCells [] vs = true) : vs = [] := by
  cases vs with
  | nil => rfl
  | cons v l => exact absurd (show false = true from h) (by simp)
theorem eqRows_ok : ∀ {ks : List Kd} {xs ys : List Value}, okCells ks xs = true → okCells ks ys = true → ∃ b, eqRows ks xs ys = some b ∧ (b = true ↔ xs = ys) := by
  intro ks
  induction ks with
  | nil => intro xs ys hx hy; rw [okCells_nil hx, okCells_nil hy]; exact ⟨true, rfl, by simp⟩
  | cons k ks ih =>
    intro xs ys hx hy
    obtain ⟨x, xs, rfl, h1, h2⟩ := okCells_cons hx
    obtain ⟨y, ys, rfl, h3, h4⟩ := okCells_cons hy
    obtain ⟨b, e1, e2⟩ := ih h2 h4
    have hc : ∃ a, cellEq k x y = some a ∧ (a = true ↔ x = y) := by
      cases k <;> simp only [Kd.holds] at h1 h3 <;> first | (cases h1; done) | skip
      · cases x <;> simp only [] at h1 <;> first | (cases h1; done) | skip
        cases y <;> simp only [] at h3 <;> first | (cases h3; done) | skip
        exact ⟨_, rfl, by simp⟩
      · cases x <;> simp only [] at h1 <;> first | (cases h1; done) | skip
        cases y <;> simp only [] at h3 <;> first | (cases h3; done) | skip
        have e1 := of_decide_eq_true h1
        have e2 := of_decide_eq_true h3
        subst e1; subst e2
        exact ⟨_, by simp [cellEq]; rfl, by simp⟩
    obtain ⟨a, c1, c2⟩ := hc
    refine ⟨a && b, by simp [eqRows, c1, e1], ?_⟩
    simp [c2, e2]
end Go.Proofs.Yteljeekapcenlaa.Ev
