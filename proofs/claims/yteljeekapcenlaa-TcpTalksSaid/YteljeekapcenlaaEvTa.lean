/-
  Ev, part Ta: deep values: reading. No conditions.
-/
import Derived.Test.YteljeekapcenlaaEvT
namespace Go.Proofs.Yteljeekapcenlaa.Ev
open Go Go.RowKit
set_option linter.unusedSimpArgs false
set_option linter.unusedVariables false
theorem nthC_some {cs : List Value} {o : Nat} {v : Value} (h : cs[o]? = some v) : nthC cs o = v := by
  unfold nthC; rw [getL_eq, h]
theorem okZ_undef (k : Kd × Nat) : okZ k undef = false := by
  obtain ⟨k, z⟩ := k
  cases k <;> rfl
theorem okZ_nth {k : Kd × Nat} {cs : List Value} {o : Nat} (h : okZ k (nthC cs o) = true) : ∃ v, cs[o]? = some v ∧ nthC cs o = v ∧ okZ k v = true := by
  cases hc : cs[o]? with
  | none =>
    unfold nthC at h
    rw [getL_eq, hc] at h
    have := okZ_undef k
    rw [this] at h; cases h
  | some v =>
    have e := nthC_some hc
    rw [e] at h
    exact ⟨v, rfl, e, h⟩
theorem nmZ_ok {k : Kd × Nat} {v : Value} (h : okZ k v = true) : nmZ k v = v := by
  obtain ⟨k, z⟩ := k
  cases k with
  | bool => cases v <;> first | rfl | (cases h; done)
  | str => cases v <;> first | rfl | (cases h; done)
  | int k =>
    cases v <;> first | (cases h; done) | skip
    have h : decide (_ = k) = true := h
    rw [← of_decide_eq_true h]; rfl
  | slice =>
    have h : deepC v (fun t _ => Nat.beq t z) (fun _ _ => false) (fun _ _ _ => false) (fun _ => false) false = true := h
    rcases deepC_some h with ⟨t, cs, rfl, g⟩ | ⟨_, _, _, g⟩ | ⟨_, _, _, _, g⟩ | ⟨_, _, g⟩ | g
    · obtain rfl := Nat.eq_of_beq_eq_true g
      rfl
    all_goals cases g
  | _ => cases h
theorem nmD_ok {cs : List Value} : ∀ {ks : List (Kd × Nat)} {off : Nat}, okD ks cs off = true → nmD ks cs off = (cs.drop off).take ks.length ∧ ((cs.drop off).take ks.length).length = ks.length := by
  intro ks
  induction ks with
  | nil => intro off _; simp; rfl
  | cons k ks ih =>
    intro off h
    have h : cond (okZ k (nthC cs off)) (okD ks cs (off + 1)) false = true := h
    cases hk : okZ k (nthC cs off) with
    | false => rw [hk] at h; cases h
    | true =>
      rw [hk, cond_true] at h
      obtain ⟨v, h1, h2, h3⟩ := okZ_nth hk
      obtain ⟨i1, i2⟩ := ih h
      have e : cs.drop off = v :: cs.drop (off + 1) := by
        obtain ⟨hl, he⟩ := List.getElem?_eq_some_iff.1 h1
        rw [← he]; exact List.drop_eq_getElem_cons hl
      refine ⟨?_, ?_⟩
      · show nmZ k (nthC cs off) :: nmD ks cs (off + 1) = _
        rw [h2, nmZ_ok h3, i1, e]; rfl
      · rw [e]; simp only [List.length_cons, List.take_succ_cons, i2]
def Holds (ι : Emb) (w : World) (g q : Nat) (cs : List Value) : Prop := ∀ p d, cs[p]? = some d → ∃ v', w.cell? ⟨g, q + p, none⟩ = some v' ∧ VR ι d v'
theorem Holds.part {ι : Emb} {w : World} {g q : Nat} {cs : List Value} (h : Holds ι w g q cs) (o n : Nat) : Holds ι w g (q + o) ((cs.drop o).take n) := by
  intro p d hd
  have hp : p < n := by have := (List.getElem?_eq_some_iff.1 hd).1; simp at this; omega
  rw [List.getElem?_take_of_lt hp, List.getElem?_drop] at hd
  obtain ⟨v', h1, h2⟩ := h _ _ hd
  exact ⟨v', by rw [Nat.add_assoc]; exact h1, h2⟩
theorem Holds.list {ι : Emb} {w : World} {g : Nat} : ∀ {cs : List Value} {q : Nat}, Holds ι w g q cs → ∃ l', VRs ι cs l' ∧ ∀ i v, l'[i]? = some v → w.cell? ⟨g, q + i, none⟩ = some v := by
  intro cs
  induction cs with
  | nil => intro q _; exact ⟨[], .nil, fun i v h => by simp at h⟩
  | cons c cs ih =>
    intro q h
    obtain ⟨v', h1, h2⟩ := h 0 c rfl
    obtain ⟨l', h3, h4⟩ := ih (q := q + 1) (fun p d hd => by
      obtain ⟨v', h1, h2⟩ := h (p + 1) d hd
      exact ⟨v', by rw [Nat.add_assoc, Nat.add_comm 1 p]; exact h1, h2⟩)
    refine ⟨v' :: l', .cons _ _ _ _ h2 h3, fun i v hv => ?_⟩
    cases i with
    | zero => simp at hv; subst hv; exact h1
    | succ i =>
      simp at hv
      have := h4 i v hv
      rw [Nat.add_assoc, Nat.add_comm 1 i] at this; exact this
theorem Holds.load {P : Program} {ι : Emb} {w : World} {g q : Nat} {cs : List Value} (h : Holds ι w g q cs) : ∃ l', VRs ι cs l' ∧ (loadCells ⟨g, q, none⟩ cs.length).run P w = .ok ⟨l'⟩ w := by
  obtain ⟨l', h1, h2⟩ := h.list
  refine ⟨l', h1, ?_⟩
  have := run_loadCells_list (P := P) w ⟨g, q, none⟩ l' (fun i v hv => by rw [addE]; exact h2 i v hv)
  rw [h1.length] at this
  exact this
theorem HR.holds {B : Nat} {ι : Emb} {H : AH} {w : World} (h : HR B ι H w) {b : Nat} {j : Inj} (hj : ι b = some j) {x : Blk} {c : List Value} (hr : H.bs[b]? = some x) (hx : Ev.rowX x c) : Holds ι w j.blk j.sh c := by
  obtain ⟨pre, mid, post, e, fz, h1, h2, h3, h4⟩ := h.rowX hj hr hx
  intro p d hd
  obtain ⟨v', q1, q2⟩ := h3.get hd
  have := cell_mid h1 p q1
  rw [h2] at this
  exact ⟨v', this, q2⟩
theorem HR.holdsF {B : Nat} {ι : Emb} {H : AH} {w : World} (h : HR B ι H w) {r o : Nat} {cs : List Value} (hf : ∀ i d, cs[i]? = some d → ι.fz r (o + i) d) : Holds ι w r o cs :=
  fun p d hd => (h.fz _ _ _ (hf p d hd)).1
section
variable {P : Program} {T : Ty} (hT : Fits P T)
include hT
theorem readD_ok {t : TypeId} {cs : List Value} {off : Nat} {k : Value → Res} {r : Value × AH} (h : readD T t cs off k = some r) :
    ∃ v, k v = some r ∧ ∀ ι w g q, Holds ι w g q cs → ∃ v', (loadVar t ⟨g, q + off, none⟩).run P w = .ok v' w ∧ VR ι v v' := by
  obtain ⟨i, hi, h⟩ := Option.bind_eq_some_iff.1 h
  obtain ⟨hc, h⟩ := cond_some h
  simp only [Bool.and_eq_true] at hc
  obtain ⟨hc1, hc2⟩ := hc
  have hc1 := Nat.eq_of_beq_eq_true hc1
  obtain ⟨n1, n2⟩ := nmD_ok hc2
  rw [hc1] at n1 n2
  obtain ⟨inf, z, q1, q2, _⟩ := (hT.get hi).info
  have hag : isAggT T t = i.agg := by unfold isAggT; rw [hi]
  cases ha : i.agg with
  | true =>
    rw [ha, cond_true] at h
    refine ⟨_, h, fun ι w g q hh => ?_⟩
    obtain ⟨l', h1, h2⟩ := (hh.part off i.size).load (P := P)
    rw [n2] at h2
    refine ⟨.agg ⟨l'⟩, ?_, .agg _ _ (by rw [n1]; exact h1)⟩
    have e1 := isAggT_ok hT (by rw [hag, ha]) w
    simp only [loadVar, Sem.run_bind, Sem.run_pure, Result.andThen_ok, e1, if_true, run_sizeOf q1, q2, h2]
  | false =>
    rw [ha, cond_false] at h
    cases hn : nmD (kz T 8 t) cs off with
    | nil => rw [hn] at h; cases h
    | cons v vs =>
      rw [hn] at h
      refine ⟨v, h, fun ι w g q hh => ?_⟩
      have hv : cs[off]? = some v := by
        have : ((cs.drop off).take i.size)[0]? = some v := by rw [← n1, hn]; rfl
        have hpos : 0 < i.size := by
          cases hs : i.size with
          | zero => rw [hs] at this; simp at this
          | succ n => omega
        rw [List.getElem?_take_of_lt hpos, List.getElem?_drop, Nat.add_zero] at this
        exact this
      obtain ⟨v', h1, h2⟩ := hh off v hv
      refine ⟨v', ?_, h2⟩
      have e1 := isAggT_no hT hi (by rw [hag, ha]) w
      simp only [loadVar, Sem.run_bind, Sem.run_pure, Result.andThen_ok, e1, Bool.false_eq_true, if_false, run_load, h1]
end
end Go.Proofs.Yteljeekapcenlaa.Ev
