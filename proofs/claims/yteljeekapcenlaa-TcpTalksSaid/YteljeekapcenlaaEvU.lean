/-
  Ev, part U: maps: equal keys. No conditions.
-/
import Derived.Test.YteljeekapcenlaaEvS
namespace Go.Proofs.Yteljeekapcenlaa.Ev
open Go Go.RowKit
section
variable {P : Program} {T : Ty} (hT : Fits P T)
include hT
theorem isAggT_of {t : TypeId} {i : TI} (hg : T.get t = some i) : isAggT T t = aggP P t := by
  unfold isAggT; rw [hg]; exact (hT.get hg).agg
theorem partV_key {t : TypeId} {key : Value} (h : keyOk T t key = true) : partV P t (cellsOf key) = key ∧ ∃ n, flatEqN P 8 t = some n ∧ (cellsOf key).length = n ∧ kinds T t = kindsN P 8 t := by
  simp only [keyOk, Bool.and_eq_true] at h
  obtain ⟨⟨h1, h2⟩, h3⟩ := h
  obtain ⟨i, hg, hs, hf, _, hk⟩ := flatEq_of hT h2
  refine ⟨?_, _, hf, rfl, hk⟩
  have ha := isAggT_of hT hg
  cases key <;> simp only [] at h3 <;> first
    | (rw [ha] at h3; simp only [partV, h3, if_true]; rfl)
    | (rw [ha] at h3; simp only [Bool.not_eq_true'] at h3; simp only [partV, h3, Bool.false_eq_true, if_false]; rfl)
theorem key_equal {t : TypeId} {key e : Value} (h1 : keyFit T t key = true) (h2 : keyFit T t e = true) : ∃ b, eqRows (kinds T t) (cellsOf key) (cellsOf e) = some b ∧ (b = true ↔ key = e) ∧ (∀ w, (Op.equal t key e).run P w = .ok b w) ∧
    (∀ d, P.underlying t = some d → Instr.sameNow d key e = none ∨ Instr.sameNow d key e = some b) := by
  simp only [keyFit, Bool.and_eq_true] at h1 h2
  obtain ⟨p1, n, hf, hl, hk⟩ := partV_key hT h1.1
  obtain ⟨p2, _⟩ := partV_key hT h2.1
  obtain ⟨b, hb, hi⟩ := eqRows_ok h1.2 h2.2
  have hke : b = true ↔ key = e := by
    rw [hi]
    refine ⟨fun h => ?_, fun h => by rw [h]⟩
    rw [← p1, ← p2, h]
  refine ⟨b, hb, hke, fun w => ?_, fun d hd => ?_⟩
  · rw [hk] at hb
    have := (flat_eq P 8 t _ hf).2.2.2 10000 (by omega) w _ _ _ hb
    rw [p1, p2] at this
    exact this
  · have hbd : ∀ c : Bool, (c = true ↔ key = e) → c = b := by
      intro c hc
      rw [Bool.eq_iff_iff, hc, hke]
    unfold Instr.sameNow
    split
    · split
      · rename_i k k' a b' hkk
        right
        congr 1
        refine hbd _ ?_
        simp [hkk]
      · exact .inl rfl
    · exfalso
      have := h1.2
      rw [hk] at this
      simp [kindsN, hd, kindP, okCells, cellsOf, Kd.holds] at this
    · right; congr 1; refine hbd _ ?_; simp
    · exact .inl rfl
end
end Go.Proofs.Yteljeekapcenlaa.Ev
