/-
  Ev, part Q: maps: keys of flat types may be hashed. No conditions.
-/
import Derived.Test.YteljeekapcenlaaEvP
namespace Go.Proofs.Yteljeekapcenlaa.Ev
open Go Go.RowKit
theorem checkKey_fields {P : Program} {em : Bool} {d D : Nat} (hD : d ≤ D) (w : World) (IH : ∀ t n, flatEqN P d t = some n → ∀ l : List Value, l.length = n → (Instr.checkKey em D t (partV P t l)).run P w = .ok () w) (cs : Array Value) : ∀ (fs : List Field) (n0 n : Nat),
    fs.foldl (fun acc f => acc.bind fun n =>
          cond (f.name != "_" && Nat.beq f.offset n) ((flatEqN P d f.type).bind fun m => cond (decide ((P.info? f.type).map (·.size) = some m)) (some (n + m)) none) none) (some n0) = some n →
    n0 ≤ n ∧ (n ≤ cs.size → (forIn (m := Sem) fs PUnit.unit (fun f _ => do
      if f.name ≠ "_" then Instr.checkKey em D f.type (← part f.type cs f.offset)
      pure (ForInStep.yield PUnit.unit))).run P w = .ok PUnit.unit w) := by
  intro fs
  induction fs with
  | nil => intro n0 n h; simp at h; subst h; exact ⟨Nat.le_refl _, fun _ => by simp⟩
  | cons f fs ih =>
    intro n0 n h
    simp only [List.foldl_cons, Option.bind_some] at h
    have hnone : ∀ (l : List Field), l.foldl (fun acc f => acc.bind fun n =>
          cond (f.name != "_" && Nat.beq f.offset n) ((flatEqN P d f.type).bind fun m => cond (decide ((P.info? f.type).map (·.size) = some m)) (some (n + m)) none) none) none = none := by
      intro l; induction l with
      | nil => rfl
      | cons x l ih => simpa using ih
    cases hc : (f.name != "_" && Nat.beq f.offset n0) with
    | false => rw [hc, cond_false, hnone] at h; simp at h
    | true =>
      rw [hc, cond_true] at h
      simp only [Bool.and_eq_true, bne_iff_ne, ne_eq] at hc
      obtain ⟨hn, ho⟩ := hc
      have ho := Nat.eq_of_beq_eq_true ho
      cases hm : flatEqN P d f.type with
      | none => rw [hm] at h; simp only [Option.bind_none] at h; rw [hnone] at h; simp at h
      | some m =>
        rw [hm] at h
        simp only [Option.bind_some] at h
        cases hs : decide ((P.info? f.type).map (·.size) = some m) with
        | false => rw [hs, cond_false, hnone] at h; simp at h
        | true =>
          rw [hs, cond_true] at h
          have hs := of_decide_eq_true hs
          obtain ⟨i, hi, hsz⟩ := Option.map_eq_some_iff.1 hs
          obtain ⟨e1, e2⟩ := ih _ _ h
          obtain ⟨f1, f2, ⟨dd, f3⟩, f4⟩ := flat_eq P d f.type m hm
          refine ⟨by omega, fun hx => ?_⟩
          have q1 := run_part f3 hi cs f.offset w (fun ha => by rw [hsz]; exact f2 ha) (by omega)
          have p1 := IH f.type m hm ((cs.toList.drop f.offset).take m) (by simp; omega)
          rw [hsz] at q1
          simp only [List.forIn_cons, ne_eq, hn, not_false_eq_true, if_true, Sem.run_bind, q1, p1, Result.andThen_ok, Sem.run_pure]
          exact e2 hx
theorem checkKey_items {P : Program} {em : Bool} {d D : Nat} (w : World) {e : TypeId} {m : Nat} (hm : flatEqN P d e = some m) (IH : ∀ l : List Value, l.length = m → (Instr.checkKey em D e (partV P e l)).run P w = .ok () w) {i : TypeInfo} (hi : P.info? e = some i) (hs : i.size = m) (cs : Array Value) : ∀ (k j : Nat),
    (j + k) * m ≤ cs.size → (forIn (m := Sem) (List.range' j k) PUnit.unit (fun x _ => do
      Instr.checkKey em D e (← part e cs (x * (← sizeOf e)))
      pure (ForInStep.yield PUnit.unit))).run P w = .ok PUnit.unit w := by
  intro k
  induction k with
  | zero => intro j _; simp
  | succ k ih =>
    intro j hx
    obtain ⟨f1, f2, ⟨dd, f3⟩, f4⟩ := flat_eq P d e m hm
    have e2 : (j + (k + 1)) * m = j * m + k * m + m := by rw [← Nat.add_assoc, Nat.add_mul, Nat.add_mul]; omega
    have e3 : (j + 1 + k) * m = j * m + k * m + m := by rw [Nat.add_mul, Nat.add_mul]; omega
    have q1 := run_part f3 hi cs (j * m) w (fun ha => by rw [hs]; exact f2 ha) (by omega)
    have p1 := IH ((cs.toList.drop (j * m)).take m) (by simp; omega)
    rw [hs] at q1
    rw [List.range'_succ]
    simp only [List.forIn_cons, Sem.run_bind, run_sizeOf hi, hs, q1, p1, Result.andThen_ok, Sem.run_pure]
    exact ih (j + 1) (by omega)
theorem checkKey_flat {P : Program} {em : Bool} : ∀ (d : Nat) (t : TypeId) (n : Nat), flatEqN P d t = some n → ∀ (D : Nat), d ≤ D → ∀ (w : World) (l : List Value), l.length = n → (Instr.checkKey em D t (partV P t l)).run P w = .ok () w := by
  intro d
  induction d with
  | zero => intro t n h; simp [flatEqN] at h
  | succ d ih =>
    intro t n h D hD w l hl
    obtain ⟨D, rfl⟩ : ∃ m, D = m + 1 := ⟨D - 1, by omega⟩
    unfold flatEqN at h
    cases hu : P.underlying t with
    | none => simp [hu] at h
    | some dd =>
      rw [hu] at h
      cases dd <;> simp only [] at h <;> first | (cases h; done) | skip
      case bool => simp [Instr.checkKey, run_underlying hu]
      case int k => simp [Instr.checkKey, run_underlying hu]
      case string => simp [Instr.checkKey, run_underlying hu]
      case struct fs =>
        have ha : aggP P t = true := by simp [aggP, hu]
        simp only [partV, ha, if_true]
        cases hst : P.stoodInHeld t with
        | true => rw [hst, cond_true] at h; cases h
        | false =>
        rw [hst, cond_false] at h
        have := (checkKey_fields (em := em) (d := d) (D := D) (by omega) w (fun t n hn l hl => ih t n hn D (by omega) w l hl) ⟨l⟩ fs.toList 0 n h).2 (by simp; omega)
        simp only [Instr.checkKey, Sem.run_bind, run_underlying hu, Result.andThen_ok]
        simp at this ⊢
        rw [this]
        rfl
      case array k e =>
        have ha : aggP P t = true := by simp [aggP, hu]
        simp only [partV, ha, if_true]
        obtain ⟨m, hm, h⟩ := Option.bind_eq_some_iff.1 h
        obtain ⟨hs, h⟩ := cond_some h
        simp at h
        obtain ⟨i, hi, hsz⟩ := Option.map_eq_some_iff.1 (of_decide_eq_true hs)
        have := checkKey_items (em := em) (D := D) w hm (fun l hl => ih e m hm D (by omega) w l hl) hi hsz ⟨l⟩ k 0 (by simp; rw [hl]; omega)
        simp only [Instr.checkKey, Sem.run_bind, run_underlying hu, Result.andThen_ok]
        rw [Std.Legacy.Range.forIn_eq_forIn_range']
        simp [Std.Legacy.Range.size] at this ⊢
        rw [this]
        rfl
end Go.Proofs.Yteljeekapcenlaa.Ev
