/-
  Ev, part Gh: calls by what a specification says; lists of cells; answers that are there. No conditions.
-/
import Derived.Test.YteljeekapcenlaaEvGe
import Derived.Test.YteljeekapcenlaaEvR
namespace Go.Proofs.Yteljeekapcenlaa.Ev
open Go Go.RowKit
set_option linter.unusedVariables false
set_option linter.unusedSimpArgs false
section
variable {P : Program} {w : World}
theorem calls_of_deep {f : FuncId} {vs vs' : List Value} {u : Value} {H' : AH} (h : Good P f vs ⟨[], 0, []⟩ (u, H')) (hd : DRs w vs vs') (hp : plain7 u = true) :
    Calls P f ⟨vs'⟩ w fun e w' => e = .returned u ∧ Below w.heap.size w w' := by
  refine (h.2 w.heap.size (Emb.of w) w vs' (HR.of w) hd.vrs).mono fun e w' he => ?_
  obtain ⟨ι', v', rfl, _, _, x3, x4⟩ := he
  rw [plain7_eq hp x3]
  exact ⟨rfl, x4⟩
theorem calls_of_spec {f : FuncId} {s : Sp} (hs : SpOk P false f s) {vs vs' : List Value} {u : Value} (h : s vs (fun v => ret v) = some (u, ⟨[], 0, []⟩)) (hd : DRs w vs vs') (hp : plain7 u = true) :
    Calls P f ⟨vs'⟩ w fun e w' => e = .returned u ∧ Below w.heap.size w w' := by
  obtain ⟨v, h1, h2⟩ := hs vs _ _ h
  rw [if_neg (by simp)] at h2
  have e : (v, (⟨[], 0, []⟩ : AH)) = (u, ⟨[], 0, []⟩) := Option.some.inj h1
  rw [e] at h2
  exact calls_of_deep h2 hd hp
end
section
variable {α : Type} {c : α → List Value} {z : Nat}
theorem flat_len (hc : ∀ x, (c x).length = z) : ∀ (xs : List α), (xs.flatMap c).length = xs.length * z
  | [] => by simp
  | x :: xs => by rw [List.flatMap_cons, List.length_append, flat_len hc xs, hc, List.length_cons, Nat.succ_mul, Nat.add_comm]
theorem flat_dlen (hc : ∀ x, (c x).length = z) (hz : 0 < z) (xs : List α) : dlen z (xs.flatMap c) = xs.length := by
  unfold dlen
  rw [flat_len hc, Nat.mul_div_cancel _ hz]
theorem flat_drop (hc : ∀ x, (c x).length = z) : ∀ {xs : List α} {i : Nat} {x : α}, xs[i]? = some x → (xs.flatMap c).drop (i * z) = c x ++ (xs.flatMap c).drop ((i + 1) * z)
  | [], i, x, h => by simp at h
  | y :: ys, 0, x, h => by
    obtain rfl : y = x := by simpa using h
    have e : (y :: ys).flatMap c = c y ++ ys.flatMap c := List.flatMap_cons
    rw [e, Nat.zero_mul, List.drop_zero, Nat.zero_add, Nat.one_mul]
    conv => rhs; rw [← hc y, List.drop_left]
  | y :: ys, i + 1, x, h => by
    have h' : ys[i]? = some x := by simpa using h
    have ih := flat_drop hc h'
    have e : (y :: ys).flatMap c = c y ++ ys.flatMap c := List.flatMap_cons
    have d : ∀ n, (c y ++ ys.flatMap c).drop (z + n) = (ys.flatMap c).drop n := fun n => by
      rw [← hc y, List.drop_append]
      simp [Nat.add_sub_cancel_left, List.drop_eq_nil_of_le (Nat.le_add_right _ _)]
    have e1 : (i + 1) * z = z + i * z := by rw [Nat.succ_mul, Nat.add_comm]
    have e2 : (i + 1 + 1) * z = z + (i + 1) * z := by rw [Nat.succ_mul (i + 1), Nat.add_comm]
    rw [e, e2, d]
    conv => lhs; rw [e1, d]
    exact ih
end
theorem nthC_drop (l : List Value) (o j : Nat) : nthC l (o + j) = nthC (l.drop o) j := by
  unfold nthC
  rw [getL_eq, getL_eq, List.getElem?_drop]
theorem nthC_drop0 (l : List Value) (o : Nat) : nthC l o = nthC (l.drop o) 0 := nthC_drop l o 0
theorem okD_nil (cs : List Value) (o : Nat) : okD [] cs o = true := rfl
theorem okD_drop : ∀ (ks : List (Kd × Nat)) (cs : List Value) (o j : Nat), okD ks cs (o + j) = okD ks (cs.drop o) j := by
  intro ks
  induction ks with
  | nil => intro cs o j; rfl
  | cons k ks ih =>
    intro cs o j
    show cond (okZ k (nthC cs (o + j))) (okD ks cs (o + j + 1)) false = cond (okZ k (nthC (cs.drop o) j)) (okD ks (cs.drop o) (j + 1)) false
    rw [nthC_drop, Nat.add_assoc, ih]
theorem okD_drop0 (ks : List (Kd × Nat)) (cs : List Value) (o : Nat) : okD ks cs o = okD ks (cs.drop o) 0 := okD_drop ks cs o 0
def Tot {α : Type} (x : Option α) : Prop := ∃ a, x = some a
theorem Tot.some {α : Type} (a : α) : Tot (some a) := ⟨a, rfl⟩
theorem Tot.cond {α : Type} {b : Bool} {x y : Option α} (h1 : Tot x) (h2 : Tot y) : Tot (cond b x y) := by cases b <;> assumption
theorem Tot.bnd {α β : Type} {x : Option β} {f : β → Option α} (h1 : Tot x) (h2 : ∀ b, Tot (f b)) : Tot (bnd x f) := by
  obtain ⟨a, rfl⟩ := h1
  exact h2 a
end Go.Proofs.Yteljeekapcenlaa.Ev
