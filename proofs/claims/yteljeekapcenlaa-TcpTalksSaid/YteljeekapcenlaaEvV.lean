/-
  Ev, part V: maps: looking up and laying in. No conditions.
-/
import Derived.Test.YteljeekapcenlaaEvU
import Derived.MapKept
namespace Go.Proofs.Yteljeekapcenlaa.Ev
open Go Go.RowKit
theorem firstOf_hit {f : MapEntry → Bool} : ∀ {es : List MapEntry} {i : Nat}, (∃ e ∈ es, f e = true) → ∃ j e, e ∈ es ∧ f e = true ∧ firstOf f es i = some (j, e.val) := by
  intro es
  induction es with
  | nil => intro i ⟨e, he, _⟩; cases he
  | cons e es ih =>
    intro i h
    unfold firstOf
    cases hf : f e with
    | true => exact ⟨i, e, by simp, hf, rfl⟩
    | false =>
      obtain ⟨x, hx, hx1⟩ := h
      rcases List.mem_cons.1 hx with rfl | hx
      · rw [hf] at hx1; cases hx1
      · obtain ⟨j, y, h1, h2, h3⟩ := ih (i := i + 1) ⟨x, hx, hx1⟩
        exact ⟨j, y, by simp [h1], h2, h3⟩
theorem MRs.back {ι : Emb} : ∀ {es : List (Value × Value)} {l : List MapEntry}, MRs ι es l → ∀ e ∈ l, ∃ a ∈ es, VR ι a.1 e.key ∧ VR ι a.2 e.val := by
  intro es
  induction es with
  | nil => intro l h e he; cases l with | nil => cases he | cons _ _ => cases h
  | cons a es ih =>
    intro l h e he
    cases l with
    | nil => cases he
    | cons x l =>
      obtain ⟨h1, h2, h3⟩ := h
      rcases List.mem_cons.1 he with rfl | he
      · exact ⟨a, by simp, h1, h2⟩
      · obtain ⟨b, hb, q⟩ := ih h3 e he; exact ⟨b, by simp [hb], q⟩
theorem MRs.forth {ι : Emb} : ∀ {es : List (Value × Value)} {l : List MapEntry}, MRs ι es l → ∀ a ∈ es, ∃ e ∈ l, VR ι a.1 e.key ∧ VR ι a.2 e.val := by
  intro es
  induction es with
  | nil => intro l h e he; cases he
  | cons a es ih =>
    intro l h e he
    cases l with
    | nil => cases h
    | cons x l =>
      obtain ⟨h1, h2, h3⟩ := h
      rcases List.mem_cons.1 he with rfl | he
      · exact ⟨x, by simp, h1, h2⟩
      · obtain ⟨b, hb, q⟩ := ih h3 e he; exact ⟨b, by simp [hb], q⟩
theorem MRs.snoc {ι : Emb} {a : Value × Value} {e : MapEntry} (h1 : VR ι a.1 e.key) (h2 : VR ι a.2 e.val) : ∀ {es : List (Value × Value)} {l : List MapEntry}, MRs ι es l → MRs ι (es ++ [a]) (l ++ [e]) := by
  intro es
  induction es with
  | nil => intro l h; cases l with | nil => exact ⟨h1, h2, trivial⟩ | cons _ _ => cases h
  | cons x es ih =>
    intro l h
    cases l with
    | nil => cases h
    | cons y l => exact ⟨h.1, h.2.1, ih h.2.2⟩
theorem nodup_key {es : List (Value × Value)} (h : (es.map (·.1)).Nodup) {a b : Value × Value} (ha : a ∈ es) (hb : b ∈ es) (e : a.1 = b.1) : a = b := by
  induction es with
  | nil => cases ha
  | cons x es ih =>
    simp only [List.map_cons, List.nodup_cons] at h
    have h1 : ∀ c ∈ es, c.1 ≠ x.1 := fun c hc q => h.1 (List.mem_map.2 ⟨c, hc, q⟩)
    rcases List.mem_cons.1 ha with e1 | a1
    · rcases List.mem_cons.1 hb with e2 | b1
      · rw [e1, e2]
      · exact absurd (by rw [← e, e1]) (h1 b b1)
    · rcases List.mem_cons.1 hb with e2 | b1
      · exact absurd (by rw [e, e2]) (h1 a a1)
      · exact ih h.2 a1 b1
theorem okCells_plain {ks : List Kd} : ∀ {vs : List Value}, okCells ks vs = true → vs.all (plainN 5) = true := by
  induction ks with
  | nil => intro vs h; rw [okCells_nil h]; rfl
  | cons k ks ih =>
    intro vs h
    obtain ⟨v, l, rfl, h1, h2⟩ := okCells_cons h
    simp only [List.all_cons, Bool.and_eq_true]
    refine ⟨?_, ih h2⟩
    cases k <;> simp only [Kd.holds] at h1 <;> first | (cases h1; done) | skip
    all_goals cases v <;> simp only [] at h1 <;> first | rfl | (cases h1; done)
theorem keyFit_plain {T : Ty} {t : TypeId} {key : Value} (h : keyFit T t key = true) : plain key = true := by
  simp only [keyFit, Bool.and_eq_true] at h
  have := okCells_plain h.2
  cases key <;> first
    | (simp only [cellsOf] at this; simp only [plain, plainN]; exact this)
    | (simp only [cellsOf, List.all_cons, Bool.and_eq_true] at this; exact plainN_up5 _ this.1)
where
  plainN_up5 (v : Value) (h : plainN 5 v = true) : plain v = true := by
    unfold plain
    have up : ∀ n v, plainN n v = true → plainN (n + 1) v = true := by
      intro n
      induction n with
      | zero => intro v h; cases v <;> simp_all [plainN]
      | succ n ih =>
        intro v h
        cases v <;> first
          | rfl
          | (simp only [plainN] at h ⊢; exact h)
          | (simp only [plainN] at h ⊢; exact ih _ h)
          | (simp only [plainN, List.all_eq_true, Bool.and_eq_true] at h ⊢; first | exact fun x hx => ih x (h x hx) | exact ⟨fun x hx => ih x (h.1 x hx), fun x hx => ih x (h.2 x hx)⟩)
    exact up 5 v h
section
variable {P : Program} {T : Ty} (hT : Fits P T)
include hT
theorem findK_ok {t : TypeId} {key : Value} (hk : keyFit T t key = true) : ∀ {es : List (Value × Value)} {k : Option Value → Res} {r : Value × AH}, es.all (fun e => keyFit T t e.1) = true → findK (kinds T t) key es k = some r →
    (∃ a ∈ es, a.1 = key ∧ k (some a.2) = some r) ∨ ((∀ a ∈ es, a.1 ≠ key) ∧ k none = some r) := by
  intro es
  induction es with
  | nil => intro k r _ h; exact .inr ⟨fun a ha => (by cases ha), h⟩
  | cons e es ih =>
    intro k r ha h
    simp only [List.all_cons, Bool.and_eq_true] at ha
    have h' : eqCells (kinds T t) (cellsOf key) (cellsOf e.1) (fun b => cond b (k (some e.2)) (findK (kinds T t) key es k)) = some r := h
    obtain ⟨b, hb, h2⟩ := eqCells_rows h'
    obtain ⟨b2, hb2, hi, _⟩ := key_equal hT hk ha.1
    rw [hb] at hb2
    obtain rfl := Option.some.inj hb2
    cases b with
    | true => exact .inl ⟨e, by simp, (hi.1 rfl).symm, h2⟩
    | false =>
      have hne : ¬ key = e.1 := fun q => by have := hi.2 q; cases this
      rcases ih ha.2 h2 with ⟨a, q1, q2, q3⟩ | ⟨q1, q2⟩
      · exact .inl ⟨a, by simp [q1], q2, q3⟩
      · refine .inr ⟨fun a ha => ?_, q2⟩
        rcases List.mem_cons.1 ha with rfl | ha
        · exact fun q => hne q.symm
        · exact q1 a ha
theorem map_find {t : TypeId} {d : TypeDesc} {key : Value} {ι : Emb} {es : List (Value × Value)} {es' : List MapEntry} {w : World} (hd : P.underlying t = some d) (hk : keyFit T t key = true) (ha : es.all (fun e => keyFit T t e.1) = true)
    (hm : MRp ι es es') (hn : (es.map (·.1)).Nodup) :
    (∀ a ∈ es, a.1 = key → ∃ j v', VR ι a.2 v' ∧ (Instr.findKey t key es').run P w = .ok (some (j, v')) w ∧ ∃ e, es'[j]? = some e ∧ e.key = key) ∧
    ((∀ a ∈ es, a.1 ≠ key) → (Instr.findKey t key es').run P w = .ok none w) := by
  classical
  obtain ⟨l, hp, hr⟩ := hm
  have back : ∀ e ∈ es', ∃ a ∈ es, a.1 = e.key ∧ VR ι a.2 e.val := by
    intro e he
    obtain ⟨a, h1, h2, h3⟩ := hr.back e (hp.mem_iff.2 he)
    have hf := List.all_eq_true.1 ha a h1
    have := plain_eq (keyFit_plain hf) h2
    exact ⟨a, h1, this.symm, h3⟩
  have fit : ∀ e ∈ es', keyFit T t e.key = true := by
    intro e he
    obtain ⟨a, h1, h2, _⟩ := back e he
    rw [← h2]; exact List.all_eq_true.1 ha a h1
  have key1 : ∀ e ∈ es', (Op.equal t key e.key).run P w = .ok (decide (key = e.key)) w ∧ (Instr.sameNow d key e.key = none ∨ Instr.sameNow d key e.key = some (decide (key = e.key))) := by
    intro e he
    obtain ⟨b, _, h2, h3, h4⟩ := key_equal hT hk (fit e he)
    have : b = decide (key = e.key) := by rw [Bool.eq_iff_iff, h2, decide_eq_true_eq]
    subst this
    exact ⟨h3 w, h4 d hd⟩
  have run := run_findKey (w := w) (f := fun e => decide (key = e.key)) hd (fun e he => (key1 e he).1) (fun e he => (key1 e he).2)
  constructor
  · intro a hm1 he
    obtain ⟨e, h1, h2, h3⟩ := hr.forth a hm1
    have hke : e.key = key := by
      have := plain_eq (keyFit_plain (List.all_eq_true.1 ha a hm1)) h2
      rw [this, he]
    have hex : ∃ x ∈ es', (fun e : MapEntry => decide (key = e.key)) x = true := ⟨e, hp.mem_iff.1 h1, by simp [hke]⟩
    obtain ⟨j, x, q1, q2, q3, q4⟩ := firstOf_hit' (i := 0) hex
    have hx : key = x.key := of_decide_eq_true q2
    obtain ⟨b, r1, r2, r3⟩ := back x q1
    have : b = a := nodup_key hn r1 hm1 (by rw [r2, ← hx, he])
    subst this
    exact ⟨j, x.val, r3, by rw [run, q3], x, by simpa using q4, hx.symm⟩
  · intro hno
    rw [run, firstOf_none]
    intro e he
    obtain ⟨a, h1, h2, _⟩ := back e he
    simp only [decide_eq_false_iff_not]
    intro q
    exact hno a h1 (by rw [h2, q])
where
  firstOf_hit' {f : MapEntry → Bool} : ∀ {es : List MapEntry} {i : Nat}, (∃ e ∈ es, f e = true) → ∃ j e, e ∈ es ∧ f e = true ∧ firstOf f es i = some (j, e.val) ∧ es[j - i]? = some e ∧ i ≤ j := by
    intro es
    induction es with
    | nil => intro i ⟨e, he, _⟩; cases he
    | cons e es ih =>
      intro i h
      unfold firstOf
      cases hf : f e with
      | true => exact ⟨i, e, by simp, hf, rfl, by simp, Nat.le_refl _⟩
      | false =>
        obtain ⟨x, hx, hx1⟩ := h
        rcases List.mem_cons.1 hx with rfl | hx
        · rw [hf] at hx1; cases hx1
        · obtain ⟨j, y, h1, h2, h3, h4, h5⟩ := ih (i := i + 1) ⟨x, hx, hx1⟩
          refine ⟨j, y, by simp [h1], h2, h3, ?_, by omega⟩
          rw [show j - i = (j - (i + 1)) + 1 by omega]
          simpa using h4
end
end Go.Proofs.Yteljeekapcenlaa.Ev
