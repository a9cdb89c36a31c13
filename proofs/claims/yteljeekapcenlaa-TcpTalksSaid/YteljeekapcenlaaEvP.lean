/-
  Ev, part P: maps: how a key is found. No conditions.
-/
import Derived.Test.YteljeekapcenlaaEvH
namespace Go.Proofs.Yteljeekapcenlaa.Ev
open Go Go.RowKit
def firstOf (f : MapEntry → Bool) : List MapEntry → Nat → Option (Nat × Value)
  | [], _ => none
  | e :: es, i => if f e then some (i, e.val) else firstOf f es (i + 1)
theorem run_findAsking {P : Program} {t : TypeId} {key : Value} {w : World} {f : MapEntry → Bool} : ∀ (es : List MapEntry) (i : Nat), (∀ e ∈ es, (Op.equal t key e.key).run P w = .ok (f e) w) →
    (Instr.findAsking t key es i).run P w = .ok (firstOf f es i) w := by
  intro es
  induction es with
  | nil => intro i _; simp [Instr.findAsking, firstOf]
  | cons e es ih =>
    intro i h
    unfold Instr.findAsking firstOf
    rw [Sem.run_bind, h e (by simp)]
    simp only [Result.andThen_ok]
    cases f e
    · simp only [Bool.false_eq_true, if_false]; exact ih _ (fun x hx => h x (by simp [hx]))
    · simp
theorem findNow_of {d : TypeDesc} {key : Value} {f : MapEntry → Bool} : ∀ (es : List MapEntry) (i : Nat), (∀ e ∈ es, Instr.sameNow d key e.key = none ∨ Instr.sameNow d key e.key = some (f e)) →
    Instr.findNow d key es i = none ∨ Instr.findNow d key es i = some (firstOf f es i) := by
  intro es
  induction es with
  | nil => intro i _; exact .inr rfl
  | cons e es ih =>
    intro i h
    unfold Instr.findNow firstOf
    rcases h e (by simp) with h1 | h1
    · rw [h1]; exact .inl rfl
    · rw [h1]
      cases f e
      · simp only [Bool.false_eq_true, if_false]; exact ih _ (fun x hx => h x (by simp [hx]))
      · exact .inr rfl
theorem run_findKey {P : Program} {t : TypeId} {d : TypeDesc} {key : Value} {w : World} {f : MapEntry → Bool} {es : List MapEntry} (hd : P.underlying t = some d)
    (h1 : ∀ e ∈ es, (Op.equal t key e.key).run P w = .ok (f e) w) (h2 : ∀ e ∈ es, Instr.sameNow d key e.key = none ∨ Instr.sameNow d key e.key = some (f e)) :
    (Instr.findKey t key es).run P w = .ok (firstOf f es 0) w := by
  unfold Instr.findKey
  rw [Sem.run_bind, run_underlying hd]
  simp only [Result.andThen_ok]
  rcases findNow_of es 0 h2 with h | h
  · rw [h]; exact run_findAsking es 0 h1
  · rw [h]; simp
theorem firstOf_none {f : MapEntry → Bool} : ∀ {es : List MapEntry} {i : Nat}, (∀ e ∈ es, f e = false) → firstOf f es i = none := by
  intro es
  induction es with
  | nil => intro i _; rfl
  | cons e es ih => intro i h; unfold firstOf; rw [h e (by simp)]; exact ih fun x hx => h x (by simp [hx])
theorem firstOf_some {f : MapEntry → Bool} : ∀ {es : List MapEntry} {i : Nat} {v : Value}, (∃ e ∈ es, f e = true) → (∀ e ∈ es, f e = true → e.val = v) → ∃ j, firstOf f es i = some (j, v) := by
  intro es
  induction es with
  | nil => intro i v ⟨e, he, _⟩; cases he
  | cons e es ih =>
    intro i v h hv
    unfold firstOf
    cases hf : f e with
    | true => exact ⟨i, by rw [hv e (by simp) hf]; rfl⟩
    | false =>
      obtain ⟨x, hx, hx1⟩ := h
      rcases List.mem_cons.1 hx with rfl | hx
      · rw [hf] at hx1; cases hx1
      · exact ih ⟨x, hx, hx1⟩ fun y hy => hv y (by simp [hy])
end Go.Proofs.Yteljeekapcenlaa.Ev
