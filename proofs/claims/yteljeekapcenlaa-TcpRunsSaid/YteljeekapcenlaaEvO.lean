/-
  Ev, part O: new blocks on top of a memory: loads and stores there and beneath. No conditions.
-/
import Derived.Test.YteljeekapcenlaaEvY
namespace Go.Proofs.Yteljeekapcenlaa.Ev
open Go

/-- a memory with further blocks on top -/
def AH.top (H : AH) (bs : List Blk) : AH := ⟨H.bs ++ bs, H.floor, H.lock⟩

theorem AH.top_nil (H : AH) : H.top [] = H := by simp [AH.top]
theorem AH.top_top (H : AH) (bs cs : List Blk) : (H.top bs).top cs = H.top (bs ++ cs) := by simp [AH.top]
theorem AH.push_top (H : AH) (bs : List Blk) (b : Blk) : (H.top bs).push b = H.top (bs ++ [b]) := by simp [AH.top, AH.push]
theorem AH.push_eq (H : AH) (b : Blk) : H.push b = H.top [b] := rfl
theorem AH.len_top (H : AH) (bs : List Blk) : (H.top bs).len = H.len + bs.length := by simp [AH.top, AH.len]
theorem AH.lock_top (H : AH) (bs : List Blk) : (H.top bs).lock = H.lock := rfl
theorem AH.withLock_top (H : AH) (bs : List Blk) : (H.top bs).withLock H.lock = H.top bs := rfl

theorem AH.row_new (H : AH) {bs : List Blk} {k : Nat} {c : List Value} (h : bs[k]? = some (.cells c)) : (H.top bs).row (H.len + k) = some c := by
  rw [AH.row_iff]
  show (H.bs ++ bs)[H.bs.length + k]? = _
  rw [List.getElem?_append_right (by omega), Nat.add_sub_cancel_left, h]
theorem AH.row_old (H : AH) {bs : List Blk} {b : Nat} {c : List Value} (h : H.row b = some c) : (H.top bs).row b = some c := by
  rw [AH.row_iff] at h ⊢
  show (H.bs ++ bs)[b]? = _
  rw [List.getElem?_append_left (List.getElem?_eq_some_iff.1 h).1, h]
theorem AH.wok_new {H : AH} (h : WF H) (bs : List Blk) (k : Nat) : (H.top bs).wok (H.len + k) = true := by
  have h1 : Nat.ble H.floor (H.len + k) = true := Nat.ble_eq_true_of_le (Nat.le_trans h.1 (Nat.le_add_right _ _))
  have h2 : H.lock.contains (H.len + k) = false := by
    rw [Bool.eq_false_iff]
    intro hc
    have := h.2 _ (List.contains_iff_mem.1 hc)
    omega
  show (Nat.ble H.floor (H.len + k) && !(H.lock.contains (H.len + k))) = true
  rw [h1, h2]; rfl
theorem AH.wok_old (H : AH) (bs : List Blk) (b : Nat) : (H.top bs).wok b = H.wok b := rfl
theorem AH.put_new_top (H : AH) (bs : List Blk) (k : Nat) (x : Blk) : (H.top bs).put (H.len + k) x = H.top (bs.set k x) := by
  show (⟨(H.bs ++ bs).set (H.bs.length + k) x, H.floor, H.lock⟩ : AH) = ⟨H.bs ++ bs.set k x, H.floor, H.lock⟩
  rw [List.set_append_right _ _ (by omega), Nat.add_sub_cancel_left]
theorem AH.put_old_top (H : AH) (bs : List Blk) {b : Nat} (hb : b < H.len) (x : Blk) : (H.top bs).put b x = (H.put b x).top bs := by
  show (⟨(H.bs ++ bs).set b x, H.floor, H.lock⟩ : AH) = ⟨H.bs.set b x ++ bs, H.floor, H.lock⟩
  rw [List.set_append_left _ _ hb]

theorem WF.top {H : AH} (h : WF H) (bs : List Blk) : WF (H.top bs) := by
  refine ⟨?_, fun b hb => ?_⟩
  · rw [AH.len_top]; exact Nat.le_trans h.1 (Nat.le_add_right _ _)
  · rw [AH.len_top]; exact Nat.lt_of_lt_of_le (h.2 b hb) (Nat.le_add_right _ _)
theorem WF.put {H : AH} (h : WF H) (i : Nat) (x : Blk) : WF (H.put i x) := by
  refine ⟨?_, fun b hb => ?_⟩
  · rw [AH.len_put]; exact h.1
  · rw [AH.len_put]; exact h.2 b hb

theorem setN_ok : ∀ (c vs : List Value) (o : Nat), o + vs.length ≤ c.length → setN c vs o = some (c.take o ++ vs ++ c.drop (o + vs.length)) := by
  intro c
  induction c with
  | nil =>
    intro vs o h
    have h1 : vs = [] := by cases vs with | nil => rfl | cons _ _ => simp at h
    have h2 : o = 0 := by simp at h; omega
    subst h1; subst h2; rfl
  | cons x xs ih =>
    intro vs o h
    cases o with
    | zero =>
      cases vs with
      | nil => simp; rfl
      | cons v vs =>
        have e := ih vs 0 (by simp at h ⊢; omega)
        show (setN xs vs 0).bind (fun l => some (v :: l)) = _
        rw [e]; simp
    | succ o =>
      have e := ih vs o (by simp at h ⊢; omega)
      show (setN xs vs o).bind (fun l => some (x :: l)) = _
      rw [e]
      simp [Nat.succ_add]

variable {T : Ty} {α : Type} (e : El T α)

theorem El.ldX (P : Program) (p : Pol) {a : Addr} {H : AH} {c : List Value} (x : α) (hr : H.row a.block = some c) (h : (c.drop a.off).take e.i.size = e.cells x) : ldX ⟨P, T, p⟩ e.t e.t a H = some (e.val x) := e.ld P p a H c x hr h
theorem El.stX {a : Addr} {H : AH} {c : List Value} (x : α) (hs : solid (e.val x) = true) (hr : H.row a.block = some c) (hw : H.wok a.block = true) (hl : a.off + e.i.size ≤ c.length) :
    stX e.t T a (e.val x) H = some (H.put a.block (.cells (c.take a.off ++ e.cells x ++ c.drop (a.off + e.i.size)))) := by
  unfold Ev.stX sizeT
  have h1 : setN c (e.cells x) a.off = some (c.take a.off ++ e.cells x ++ c.drop (a.off + e.i.size)) := by
    have := setN_ok c (e.cells x) a.off (by rw [e.len]; exact hl)
    rw [e.len] at this; exact this
  have h2 : Nat.beq (e.cells x).length e.i.size = true := by rw [e.len]; exact Nat.beq_refl _
  unfold storeN
  simp only [e.get, Option.bind_some, e.cv, h2, hs, Bool.and_self, cond_true, hr, hw, e.one, h1, pureK]
  
end Go.Proofs.Yteljeekapcenlaa.Ev
