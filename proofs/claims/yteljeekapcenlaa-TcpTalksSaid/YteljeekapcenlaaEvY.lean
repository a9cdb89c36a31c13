/-
  Ev, part Y: memories told by lists: what is read of them, written into them, appended to them. No conditions.
-/
import Derived.Test.YteljeekapcenlaaEvN
namespace Go.Proofs.Yteljeekapcenlaa.Ev
open Go Go.RowKit
theorem Sl.ext {s t : Sl} (h1 : s.a = t.a) (h2 : s.l = t.l) (h3 : s.c = t.c) : s = t := by cases s; cases t; simp_all
theorem AH.len_push (H : AH) (b : Blk) : (H.push b).len = H.len + 1 := by simp [AH.push, AH.len]
theorem AH.len_put (H : AH) (i : Nat) (b : Blk) : (H.put i b).len = H.len := by simp [AH.put, AH.len]
theorem AH.push_new (H : AH) (b : Blk) : (H.push b).bs[H.len]? = some b := by simp [AH.push, AH.len]
theorem AH.push_old (H : AH) (b : Blk) {i : Nat} (h : i < H.len) : (H.push b).bs[i]? = H.bs[i]? := by
  simp only [AH.push]; exact List.getElem?_append_left h
theorem AH.put_new (H : AH) {i : Nat} (b : Blk) (h : i < H.len) : (H.put i b).bs[i]? = some b := by
  simp only [AH.put]; exact List.getElem?_set_self h
theorem AH.put_old (H : AH) {i j : Nat} (b : Blk) (h : j ≠ i) : (H.put i b).bs[j]? = H.bs[j]? := by
  simp only [AH.put]; exact List.getElem?_set_ne (fun e => h e.symm)
theorem AH.row_iff {H : AH} {b : Nat} {c : List Value} : H.row b = some c ↔ H.bs[b]? = some (.cells c) := by
  refine ⟨row_some, fun h => ?_⟩
  unfold AH.row
  rw [getL_eq, h]
theorem AH.lt_of {H : AH} {b : Nat} {x : Blk} (h : H.bs[b]? = some x) : b < H.len := (List.getElem?_eq_some_iff.1 h).1
structure Keep (K : Nat → Prop) (H H' : AH) : Prop where
  floor : H'.floor = H.floor
  lock : H'.lock = H.lock
  len : H.len ≤ H'.len
  same : ∀ b, K b → H'.bs[b]? = H.bs[b]?
theorem Keep.refl (K : Nat → Prop) (H : AH) : Keep K H H := ⟨rfl, rfl, Nat.le_refl _, fun _ _ => rfl⟩
theorem Keep.trans {K : Nat → Prop} {A B C : AH} (h : Keep K A B) (k : Keep K B C) : Keep K A C :=
  ⟨k.floor.trans h.floor, k.lock.trans h.lock, Nat.le_trans h.len k.len, fun b hb => (k.same b hb).trans (h.same b hb)⟩
theorem Keep.mono {K L : Nat → Prop} {H H' : AH} (h : Keep K H H') (hl : ∀ b, L b → K b) : Keep L H H' := ⟨h.floor, h.lock, h.len, fun b hb => h.same b (hl b hb)⟩
theorem Keep.push (H : AH) (x : Blk) : Keep (· < H.len) H (H.push x) := ⟨rfl, rfl, by rw [AH.len_push]; omega, fun _ hb => H.push_old x hb⟩
theorem Keep.put (H : AH) (i : Nat) (x : Blk) : Keep (· ≠ i) H (H.put i x) := ⟨rfl, rfl, by rw [AH.len_put]; omega, fun _ hb => H.put_old x hb⟩
theorem Keep.below {n : Nat} {A B C : AH} (h : Keep (· < n) A B) (k : Keep (· < B.len) B C) (hn : n ≤ A.len) : Keep (· < n) A C :=
  h.trans (k.mono fun b (hb : b < n) => by have := h.len; show b < B.len; omega)
def WF (H : AH) : Prop := H.floor ≤ H.len ∧ ∀ b ∈ H.lock, b < H.len
theorem WF.keep {K : Nat → Prop} {H H' : AH} (h : WF H) (k : Keep K H H') : WF H' :=
  ⟨by rw [k.floor]; exact Nat.le_trans h.1 k.len, by rw [k.lock]; exact fun b hb => Nat.lt_of_lt_of_le (h.2 b hb) k.len⟩
theorem WF.wok {n : Nat} {H H' : AH} (h : WF H) (k : Keep (· < n) H H') {b : Nat} (hb : H.len ≤ b) : H'.wok b = true := by
  unfold AH.wok
  rw [k.floor, k.lock]
  simp only [Bool.and_eq_true, Bool.not_eq_true']
  refine ⟨Nat.ble_eq_true_of_le (Nat.le_trans h.1 hb), ?_⟩
  cases hc : H.lock.contains b with
  | false => rfl
  | true => have := h.2 b (by simpa using hc); omega
theorem callV_two {P : Program} {T : Ty} {p : Pol} {g : FuncId} (hm : p.mode g = 2) {fn : Func} (hf : P.funcs[g]? = some fn) (hb : fn.body.isSome = true) {vs : List Value} {v : Value} {H0 H : AH} {orc : Orc} {t : TypeId}
    (hfl : flatTs T fn.resultTypes.toList = true) (hp : vs.all plain = true) (ho : orc g vs ⟨[], 0, []⟩ = some (v, H0)) (hd : ∀ k : Value → Res, destrRes T fn.resultTypes.toList v k = k v) (hok : okR ⟨P, T, p⟩ t v = true) : callV ⟨P, T, p⟩ orc t g vs H = some v := by
  unfold callV fitV callF
  simp only [hf, Option.bind_some, hb, cond_true, hm, hfl, hp, Bool.and_self, ho, hd, pureK, hok]
theorem callV_one {P : Program} {T : Ty} {p : Pol} {g : FuncId} (hm : p.mode g = 1) {fn : Func} (hf : P.funcs[g]? = some fn) (hb : fn.body.isSome = true) {vs : List Value} {v : Value} {H0 H : AH} {orc : Orc} {t : TypeId}
    (hfl : flatTs T fn.resultTypes.toList = true) (ho : orc g vs ⟨H.bs, H.len, []⟩ = some (v, H0)) (hd : ∀ k : Value → Res, destrRes T fn.resultTypes.toList v k = k v) (hok : okR ⟨P, T, p⟩ t v = true) : callV ⟨P, T, p⟩ orc t g vs H = some v := by
  unfold callV fitV callF
  simp only [hf, Option.bind_some, hb, cond_true, hm, hfl, ho, hd, pureK, hok]
theorem callX_any {P : Program} {T : Ty} {p : Pol} {g : FuncId} (hm : p.mode g = 0) {fn : Func} (hf : P.funcs[g]? = some fn) (hb : fn.body.isSome = true) {vs : List Value} {v : Value} {H H' : AH} {orc : Orc} {t : TypeId}
    (ho : orc g vs H = some (v, H')) (hfl : H'.floor = H.floor) (hlk : H'.lock = H.lock) (hd : ∀ k : Value → Res, destrRes T fn.resultTypes.toList v k = k v) (hok : okR ⟨P, T, p⟩ t v = true) : callX ⟨P, T, p⟩ orc t g vs H = some (v, H') := by
  unfold callX fit callF
  have e : (⟨H'.bs, H.floor, H.lock⟩ : AH) = H' := by rw [← hfl, ← hlk]
  simp only [hf, Option.bind_some, hb, cond_true, hm, ho, hd, pureK, hok, e]
noncomputable def fam {ι : Type} (a : ι → List Value) (m : ι → AH) (r : ι → Value × AH) (vs : List Value) (H : AH) : Res := by
  classical exact if h : ∃ i, a i = vs ∧ m i = H then some (r h.choose) else none
theorem fam_get {ι : Type} {a : ι → List Value} {m : ι → AH} {r : ι → Value × AH} (i : ι) (hr : ∀ j, a j = a i → m j = m i → r j = r i) : fam a m r (a i) (m i) = some (r i) := by
  unfold fam
  have h : ∃ j, a j = a i ∧ m j = m i := ⟨i, rfl, rfl⟩
  rw [dif_pos h]
  exact congrArg some (hr _ h.choose_spec.1 h.choose_spec.2)
theorem fam_good {P : Program} {f : FuncId} {ι : Type} {a : ι → List Value} {m : ι → AH} {r : ι → Value × AH} (hg : ∀ i, Good P f (a i) (m i) (r i)) : ∀ vs H q, fam a m r vs H = some q → Good P f vs H q := by
  intro vs H q h
  unfold fam at h
  split at h
  · rename_i hex
    simp at h
    subst h
    have h1 := hex.choose_spec
    generalize hex.choose = i at h1 ⊢
    obtain ⟨rfl, rfl⟩ := h1
    exact hg i
  · cases h
theorem good_reads {E : Env} (hE : EnvOk E) {orc : Orc} (hO : OrcOk E orc) {n : Nat} {f : FuncId} {vs : List Value} {H H' : AH} {v : Value}
    (h : evBody E orc (fun s => loopN s n) f vs ⟨H.bs, H.len, []⟩ = some (v, H')) (hp : plain7 v = true) : Good E.P f vs H (v, H) := by
  refine ⟨Grow.refl _, fun B ι w vs' hH hvs => ?_⟩
  refine ((body_good hE hO h).2 w.heap.size ι.all w vs' hH.raise (VRs.all (ι := ι) (ι' := ι.all) rfl rfl hvs)).mono fun e w' he => ?_
  obtain ⟨ι', v', rfl, x1, x2, x3, x4⟩ := he
  have hv' := plain7_eq hp x3
  subst hv'
  exact ⟨ι, _, rfl, Ext.refl _ _, hH.world x4 hH.size (fun b j hj hl => hH.lt hj hl) (fun r i d hd => hH.fz_lt hd), plain7_refl ι hp, x4.mono hH.size⟩
noncomputable def AH.up (H : AH) : AH := ⟨H.bs, H.len, []⟩
structure El (T : Ty) (α : Type) where
  t : TypeId
  i : TI
  get : T.get t = some i
  cells : α → List Value
  val : α → Value
  len : ∀ x, (cells x).length = i.size
  pos : 0 < i.size
  ld : ∀ (P : Program) (p : Pol) (a : Addr) (H : AH) (c : List Value) (x : α), H.row a.block = some c → (c.drop a.off).take i.size = cells x → ldX ⟨P, T, p⟩ t t a H = some (val x)
  one : ∀ x, (cells x).all oneCell = true
  cv : ∀ x, cellsOf (val x) = cells x
  inj : ∀ x y, cells x = cells y → x = y
theorem ldX_agg {P : Program} {T : Ty} {p : Pol} {t : TypeId} {i : TI} (hg : T.get t = some i) (ha : i.agg = true) {a : Addr} {H : AH} {c l : List Value} (hr : H.row a.block = some c) (hl : (c.drop a.off).take i.size = l) (hn : l.length = i.size)
    (hd : ∀ k : List Value → Res, destrL i.kd l k = k l) (hok : okL i.kd l = true) : ldX ⟨P, T, p⟩ t t a H = some (.agg ⟨l⟩) := by
  have hag : isAggT T t = true := by unfold isAggT; rw [hg]; exact ha
  have hk : kinds T t = i.kd := by unfold kinds; rw [hg]
  have hle : i.size ≤ (c.drop a.off).length := by
    rw [← hl, List.length_take] at hn; omega
  unfold ldX fitV ldP
  rw [hag, cond_true]
  unfold sizeT loadN
  have hk' : kinds (⟨P, T, p⟩ : Env).T t = i.kd := hk
  simp only [hg, Option.bind_some, hr, dropL_eq, takeL_eq, if_pos hle, hl, hk', hd, pureK]
  show (cond (okR ⟨P, T, p⟩ t (.agg l.toArray)) (some (Value.agg l.toArray)) none) = _
  have : okR ⟨P, T, p⟩ t (.agg l.toArray) = true := by
    unfold okR
    simp only [hg]
    unfold okI
    rw [ha, cond_true]
    exact hok
  rw [this]; rfl
theorem take_one {α : Type} {l : List α} {i : Nat} {v : α} (h : (l.drop i).take 1 = [v]) : l[i]? = some v := by
  have : ((l.drop i).take 1)[0]? = some v := by rw [h]; rfl
  rw [List.getElem?_take_of_lt (by omega), List.getElem?_drop] at this
  simpa using this
theorem ldX_one {P : Program} {T : Ty} {p : Pol} {t : TypeId} {i : TI} {kd : Kd} (hg : T.get t = some i) (ha : i.agg = false) (hk : i.kd = [kd]) {a : Addr} {H : AH} {c : List Value} {v : Value} (hr : H.row a.block = some c) (hl : c[a.off]? = some v)
    (hd : ∀ k : Value → Res, kd.destr v k = k v) (hok : kd.ok v = true) : ldX ⟨P, T, p⟩ t t a H = some v := by
  have hag : isAggT T t = false := by unfold isAggT; rw [hg]; exact ha
  have hkd : kindOf T t = kd := by unfold kindOf kinds; rw [hg]; simp only [hk]
  unfold ldX fitV ldP
  rw [hag, cond_false]
  unfold load1
  have hkd' : kindOf (⟨P, T, p⟩ : Env).T t = kd := hkd
  simp only [hr, Option.bind_some, getL_eq, hl, hkd', hd, hg, pureK, Option.isSome_some, cond_true]
  show (cond (okR ⟨P, T, p⟩ t v) (some v) none) = _
  have : okR ⟨P, T, p⟩ t v = true := by
    unfold okR
    simp only [hg]
    unfold okI
    rw [ha, cond_false, hk]
    exact hok
  rw [this]; rfl
section
variable {T : Ty} {α : Type} (e : El T α)
def El.flat (xs : List α) : List Value := xs.flatMap e.cells
theorem El.flat_len (xs : List α) : (e.flat xs).length = xs.length * e.i.size := by
  induction xs with
  | nil => simp [El.flat]
  | cons x xs ih =>
    have : e.flat (x :: xs) = e.cells x ++ e.flat xs := rfl
    rw [this, List.length_append, ih, e.len, List.length_cons, Nat.add_mul]; omega
theorem El.flat_append (xs ys : List α) : e.flat (xs ++ ys) = e.flat xs ++ e.flat ys := by simp [El.flat]
theorem El.flat_at (xs : List α) : ∀ (i : Nat) (h : i < xs.length), ((e.flat xs).drop (i * e.i.size)).take e.i.size = e.cells xs[i] := by
  induction xs with
  | nil => intro i h; simp at h
  | cons x xs ih =>
    intro i h
    have e1 : e.flat (x :: xs) = e.cells x ++ e.flat xs := rfl
    cases i with
    | zero =>
      rw [e1, Nat.zero_mul, List.drop_zero, List.take_append_of_le_length (by rw [e.len]; omega), List.take_of_length_le (by rw [e.len]; omega)]
      rfl
    | succ i =>
      rw [e1, Nat.add_mul, Nat.one_mul, Nat.add_comm, ← List.drop_drop]
      have : (e.cells x ++ e.flat xs).drop e.i.size = e.flat xs := by
        rw [List.drop_append, e.len, Nat.sub_self, List.drop_zero, List.drop_of_length_le (by rw [e.len]; omega), List.nil_append]
      rw [this]
      exact ih i (by simpa using h)
theorem El.flat_take (xs : List α) (n : Nat) : (e.flat xs).take (n * e.i.size) = e.flat (xs.take n) := by
  induction xs generalizing n with
  | nil => simp [El.flat]
  | cons x xs ih =>
    have e1 : e.flat (x :: xs) = e.cells x ++ e.flat xs := rfl
    cases n with
    | zero => simp [El.flat]
    | succ n =>
      rw [e1, List.take_succ_cons]
      have e2 : e.flat (x :: xs.take n) = e.cells x ++ e.flat (xs.take n) := rfl
      rw [e2, List.take_append, e.len, List.take_of_length_le (by rw [e.len, Nat.add_mul]; omega), ← ih]
      congr 2
      rw [Nat.add_mul]; omega
theorem El.flat_drop (xs : List α) (n : Nat) : (e.flat xs).drop (n * e.i.size) = e.flat (xs.drop n) := by
  induction xs generalizing n with
  | nil => simp [El.flat]
  | cons x xs ih =>
    have e1 : e.flat (x :: xs) = e.cells x ++ e.flat xs := rfl
    cases n with
    | zero => simp [El.flat]
    | succ n =>
      rw [e1, List.drop_succ_cons, List.drop_append, e.len, List.drop_of_length_le (by rw [e.len, Nat.add_mul]; omega), List.nil_append, ← ih]
      congr 1
      rw [Nat.add_mul]; omega
theorem El.flat_inj {xs ys : List α} (h : e.flat xs = e.flat ys) : xs = ys := by
  induction xs generalizing ys with
  | nil =>
    cases ys with
    | nil => rfl
    | cons y ys =>
      have := congrArg List.length h
      rw [e.flat_len, e.flat_len] at this
      have hp := e.pos
      simp only [List.length_nil, Nat.zero_mul, List.length_cons, Nat.add_mul] at this
      omega
  | cons x xs ih =>
    cases ys with
    | nil =>
      have := congrArg List.length h
      rw [e.flat_len, e.flat_len] at this
      have hp := e.pos
      simp only [List.length_nil, Nat.zero_mul, List.length_cons, Nat.add_mul] at this
      omega
    | cons y ys =>
      have h1 : e.cells x ++ e.flat xs = e.cells y ++ e.flat ys := h
      obtain ⟨h2, h3⟩ := List.append_inj h1 (by rw [e.len, e.len])
      rw [e.inj _ _ h2, ih h3]
theorem El.flat_one (xs : List α) : (e.flat xs).all oneCell = true := by
  rw [List.all_eq_true]
  intro v hv
  obtain ⟨x, _, h⟩ := List.mem_flatMap.1 hv
  exact List.all_eq_true.1 (e.one x) v h
structure Rd (H : AH) (s : Sl) (xs : List α) : Prop where
  len : s.l = xs.length
  cap : s.l ≤ s.c
  nil : s.a = none → xs = [] ∧ s.c = 0
  row : ∀ a, s.a = some a → xs ≠ [] → ∃ c, H.bs[a.block]? = some (.cells c) ∧ (c.drop a.off).take (xs.length * e.i.size) = e.flat xs
variable {e} {H H' : AH} {s : Sl} {xs : List α}
theorem Rd.some (h : Rd e H s xs) (hx : xs ≠ []) : ∃ a c, s.a = some a ∧ H.bs[a.block]? = some (.cells c) ∧ (c.drop a.off).take (xs.length * e.i.size) = e.flat xs := by
  cases ha : s.a with
  | none => exact absurd (h.nil ha).1 hx
  | some a => obtain ⟨c, h1, h2⟩ := h.row a ha hx; exact ⟨a, c, rfl, h1, h2⟩
theorem Rd.lt (h : Rd e H s xs) {a : Addr} (ha : s.a = Option.some a) (hx : xs ≠ []) : a.block < H.len := by
  obtain ⟨c, h1, _⟩ := h.row a ha hx
  exact AH.lt_of h1
theorem Rd.keep {K : Nat → Prop} (h : Rd e H s xs) (k : Keep K H H') (hk : ∀ a, s.a = Option.some a → xs ≠ [] → K a.block) : Rd e H' s xs :=
  ⟨h.len, h.cap, h.nil, fun a ha hx => by obtain ⟨c, h1, h2⟩ := h.row a ha hx; exact ⟨c, by rw [k.same _ (hk a ha hx), h1], h2⟩⟩
theorem Rd.below {n : Nat} (h : Rd e H s xs) (k : Keep (· < n) H H') (hn : H.len ≤ n) : Rd e H' s xs :=
  h.keep k fun _ ha hx => Nat.lt_of_lt_of_le (h.lt ha hx) hn
theorem Rd.at (h : Rd e H s xs) {i : Nat} (hi : i < xs.length) : ∃ a, s.a = Option.some a ∧ ∀ (P : Program) (p : Pol), ldX ⟨P, T, p⟩ e.t e.t ⟨a.block, a.off + i * e.i.size, none⟩ H = Option.some (e.val xs[i]) := by
  obtain ⟨a, c, h1, h2, h3⟩ := h.some (by intro q; rw [q] at hi; simp at hi)
  refine ⟨a, h1, fun P p => e.ld P p _ H c _ (AH.row_iff.2 h2) ?_⟩
  show (c.drop (a.off + i * e.i.size)).take e.i.size = _
  rw [← e.flat_at xs i hi, ← h3, List.drop_take, List.take_take, List.drop_drop]
  congr 1
  have : (i + 1) * e.i.size ≤ xs.length * e.i.size := Nat.mul_le_mul_right _ hi
  rw [Nat.add_mul] at this
  omega
theorem Rd.uniq (h : Rd e H s xs) {ys : List α} (k : Rd e H s ys) : xs = ys := by
  have hl : xs.length = ys.length := by rw [← h.len, k.len]
  by_cases hx : xs = []
  · subst hx; exact (List.eq_nil_of_length_eq_zero (by simpa using hl.symm)).symm
  · obtain ⟨a, c, h1, h2, h3⟩ := h.some hx
    have hy : ys ≠ [] := fun q => hx (by subst q; exact List.eq_nil_of_length_eq_zero (by simpa using hl))
    obtain ⟨c', k1, k2⟩ := k.row a h1 hy
    rw [h2] at k1
    simp at k1; subst k1
    rw [hl, k2] at h3
    exact (e.flat_inj h3).symm
def Own (e : El T α) (H : AH) (n : Nat) (s : Sl) (xs : List α) : Prop :=
  (s = ⟨none, 0, 0⟩ ∧ xs = []) ∨ (xs ≠ [] ∧ ∃ b sp, n ≤ b ∧ (sp = none ∨ sp = Option.some e.i.size) ∧ s = ⟨Option.some ⟨b, 0, sp⟩, xs.length, xs.length⟩ ∧ H.bs[b]? = Option.some (.cells (e.flat xs)) ∧ H.wok b = true)
theorem Own.nil (e : El T α) (H : AH) (n : Nat) : Own e H n ⟨none, 0, 0⟩ [] := .inl ⟨rfl, rfl⟩
theorem Own.rd {n : Nat} (h : Own e H n s xs) : Rd e H s xs := by
  rcases h with ⟨rfl, rfl⟩ | ⟨hx, b, sp, _, _, rfl, hb, _⟩
  · exact ⟨rfl, Nat.le_refl _, fun _ => ⟨rfl, rfl⟩, fun _ _ hx => absurd rfl hx⟩
  · refine ⟨rfl, Nat.le_refl _, fun q => (by cases q), fun a ha _ => ?_⟩
    simp at ha; subst ha
    exact ⟨_, hb, by rw [List.drop_zero, List.take_of_length_le (by rw [e.flat_len]; omega)]⟩
theorem Own.blk {n : Nat} (h : Own e H n s xs) {a : Addr} (ha : s.a = Option.some a) : n ≤ a.block ∧ a.block < H.len := by
  rcases h with ⟨rfl, rfl⟩ | ⟨hx, b, sp, hn, _, rfl, hb, _⟩
  · cases ha
  · simp at ha; subst ha; exact ⟨hn, AH.lt_of hb⟩
theorem Own.keep {K : Nat → Prop} {n : Nat} (h : Own e H n s xs) (k : Keep K H H') (hk : ∀ a, s.a = Option.some a → K a.block) : Own e H' n s xs := by
  rcases h with ⟨rfl, rfl⟩ | ⟨hx, b, sp, hn, hsp, rfl, hb, hw⟩
  · exact .inl ⟨rfl, rfl⟩
  · exact .inr ⟨hx, b, sp, hn, hsp, rfl, by rw [k.same b (hk _ rfl), hb], by unfold AH.wok at hw ⊢; rw [k.floor, k.lock]; exact hw⟩
theorem firstK_rd {y : Sl} {ys : List α} (h : Rd e H y ys) (k : List Value → Res) : firstK H e.i.size ys.length (.slice y.a y.l y.c) k = k (e.flat ys) := by
  unfold firstK
  simp only []
  by_cases hy : ys = []
  · subst hy; rfl
  · obtain ⟨a, c, h1, h2, h3⟩ := h.some hy
    have hp : 0 < ys.length := List.length_pos_iff.2 hy
    have b0 : Nat.beq ys.length 0 = false := by cases hq : Nat.beq ys.length 0 with | false => rfl | true => have := Nat.eq_of_beq_eq_true hq; omega
    rw [b0, cond_false, h.len, Nat.ble_eq_true_of_le (Nat.le_refl _), cond_true, h1]
    simp only []
    unfold loadN
    rw [AH.row_iff.2 h2]
    have hle : ys.length * e.i.size ≤ (c.drop a.off).length := by
      have := congrArg List.length h3
      rw [List.length_take, e.flat_len] at this; omega
    simp only [Option.bind_some, dropL_eq, takeL_eq, if_pos hle, h3]
theorem Own.app {n : Nat} (h : Own e H n s xs) (hn : n ≤ H.len) (hwf : WF H) {y : Sl} {ys : List α} (hy : Rd e H y ys) {t : TypeId} (ht : T.und t = Option.some (.slice e.t)) (hz : e.i.zero.length = e.i.size) {it : TI} (hit : T.get t = Option.some it) (hia : it.agg = false) (hik : it.kd = [.slice])
    (hb : (xs.length + ys.length) * e.i.bytes ≤ 2 ^ 47) (hb2 : xs.length + ys.length ≤ 2 ^ 47) (P : Program) (p : Pol) :
    ∃ s' H', appX ⟨P, T, p⟩ t [t, t] [.slice s.a s.l s.c, .slice y.a y.l y.c] H = Option.some (.slice s'.a s'.l s'.c, H') ∧ Own e H' n s' (xs ++ ys) ∧ Keep (fun b => b < H.len ∧ ∀ a, s.a = Option.some a → a.block ≠ b) H H' ∧ (s' = s ∧ H' = H ∨ ∃ sp, s'.a = Option.some ⟨H.len, 0, sp⟩) := by
  have okS : ∀ a l c, okR ⟨P, T, p⟩ t (.slice a l c) = true := by
    intro a l c
    unfold okR
    simp only [hit]
    unfold okI
    rw [hia, cond_false, hik]; rfl
  have hone := e.flat_one ys
  have hlen := e.flat_len ys
  have chk : (Nat.blt 0 e.i.size && Nat.beq e.i.zero.length e.i.size && (e.flat ys).all oneCell && Nat.beq (e.flat ys).length (ys.length * e.i.size)) = true := by
    rw [hz, hlen, hone, Nat.beq_refl, Nat.beq_refl]
    simp [Nat.blt, Nat.ble_eq_true_of_le (show 0 + 1 ≤ e.i.size from e.pos)]
  have start : ∀ k : K, opAppend T [t, t] [.slice s.a s.l s.c, .slice y.a y.l y.c] H k = (match s.a with
      | Option.some a => appendTo e.i a s.l s.c ys.length (e.flat ys) H k
      | none => cond (Nat.beq s.l 0 && Nat.beq s.c 0) (appendNil e.i ys.length (e.flat ys) H k) none) := by
    intro k
    unfold opAppend
    simp only [ht, cond_true, e.get, Option.bind_some, lenK]
    rw [hy.len, ← hy.len, hy.len]
    have := firstK_rd hy (fun new => cond (Nat.blt 0 e.i.size && Nat.beq e.i.zero.length e.i.size && new.all oneCell && Nat.beq new.length (ys.length * e.i.size)) (match s.a with
      | Option.some a => appendTo e.i a s.l s.c ys.length new H k
      | none => cond (Nat.beq s.l 0 && Nat.beq s.c 0) (appendNil e.i ys.length new H k) none) none)
    rw [hy.len] at this
    refine this.trans ?_
    rw [chk, cond_true]
  have done : ∀ (s' : Sl) (H' : AH), opAppend T [t, t] [.slice s.a s.l s.c, .slice y.a y.l y.c] H pureK = Option.some (.slice s'.a s'.l s'.c, H') → appX ⟨P, T, p⟩ t [t, t] [.slice s.a s.l s.c, .slice y.a y.l y.c] H = Option.some (.slice s'.a s'.l s'.c, H') := by
    intro s' H' q
    unfold appX fit
    show (opAppend T [t, t] [.slice s.a s.l s.c, .slice y.a y.l y.c] H pureK).bind _ = _
    rw [q, Option.bind_some, okS]; rfl
  rcases h with ⟨rfl, rfl⟩ | ⟨hx, b, sp, hnb, hsp, rfl, hbk, hw⟩
  · -- nil
    by_cases hy0 : ys = []
    · subst hy0
      refine ⟨⟨none, 0, 0⟩, H, done _ _ (by rw [start]; rfl), .inl ⟨rfl, rfl⟩, Keep.refl _ _, .inl ⟨rfl, rfl⟩⟩
    · have hp : 0 < ys.length := List.length_pos_iff.2 hy0
      have b0 : Nat.beq ys.length 0 = false := by cases hq : Nat.beq ys.length 0 with | false => rfl | true => have := Nat.eq_of_beq_eq_true hq; omega
      refine ⟨⟨Option.some ⟨H.len, 0, Option.some e.i.size⟩, ys.length, ys.length⟩, H.push (.cells (e.flat ys)), done _ _ ?_, .inr ⟨by simpa using hy0, H.len, Option.some e.i.size, hn, .inr rfl, by simp, by simpa using AH.push_new H _, ?_⟩, (Keep.push H _).mono (fun b hb => hb.1), .inr ⟨_, rfl⟩⟩
      · rw [start]
        simp only [appendNil]
        rw [b0]
        have c1 : ys.length * e.i.bytes ≤ 2 ^ 47 := by simpa using hb
        have c2 : ys.length ≤ 2 ^ 47 := by simpa using hb2
        simp only [cond_false, decide_eq_true c1, decide_eq_true c2, Bool.and_self, cond_true, Nat.beq_refl]
        rfl
      · exact hwf.wok (Keep.push H _) (Nat.le_refl _)
  · by_cases hy0 : ys = []
    · subst hy0
      refine ⟨⟨Option.some ⟨b, 0, sp⟩, xs.length, xs.length⟩, H, done _ _ ?_, .inr ⟨by simpa using hx, b, sp, hnb, hsp, by simp, by simpa using hbk, hw⟩, Keep.refl _ _, .inl ⟨rfl, rfl⟩⟩
      rw [start]
      simp only [appendTo, List.length_nil, Nat.add_zero, Nat.ble_eq_true_of_le (Nat.le_refl _), cond_true, Nat.beq_refl]
      rfl
    · have hp : 0 < ys.length := List.length_pos_iff.2 hy0
      have b0 : Nat.ble (xs.length + ys.length) xs.length = false := by cases hq : Nat.ble (xs.length + ys.length) xs.length with | false => rfl | true => have := Nat.le_of_ble_eq_true hq; omega
      have hld : ∀ k : List Value → Res, loadN H ⟨b, 0, none⟩ (xs.length * e.i.size) k = k (e.flat xs) := by
        intro k
        unfold loadN
        rw [AH.row_iff.2 hbk]
        simp only [Option.bind_some, dropL_eq, takeL_eq, List.drop_zero]
        rw [if_pos (by rw [e.flat_len]; omega), Option.bind_some, List.take_of_length_le (by rw [e.flat_len]; omega)]
      rcases hsp with rfl | rfl
      · refine ⟨⟨Option.some ⟨H.len, 0, Option.some e.i.size⟩, xs.length + ys.length, xs.length + ys.length⟩, H.push (.cells (e.flat xs ++ e.flat ys)), done _ _ ?_, .inr ⟨by simp [hx], H.len, Option.some e.i.size, hn, .inr rfl, by simp, by rw [e.flat_append]; exact AH.push_new H _, hwf.wok (Keep.push H _) (Nat.le_refl _)⟩, (Keep.push H _).mono (fun b hb => hb.1), .inr ⟨_, rfl⟩⟩
        rw [start]
        simp only [appendTo, b0, cond_false, decide_eq_true hb, decide_eq_true hb2, Bool.and_self, cond_true, hld]
        rfl
      · have hlt := AH.lt_of hbk
        have k1 : Keep (fun c => c < H.len ∧ ∀ a, Option.some (⟨b, 0, Option.some e.i.size⟩ : Addr) = Option.some a → a.block ≠ c) H ((H.put b .dead).push (.cells (e.flat xs ++ e.flat ys))) :=
          ((Keep.put H b .dead).mono (fun c hc q => (hc.2 _ rfl) q.symm)).trans ((Keep.push (H.put b .dead) _).mono (fun c hc => by rw [AH.len_put]; exact hc.1))
        refine ⟨⟨Option.some ⟨H.len, 0, Option.some e.i.size⟩, xs.length + ys.length, xs.length + ys.length⟩, (H.put b .dead).push (.cells (e.flat xs ++ e.flat ys)), done _ _ ?_, .inr ⟨by simp [hx], H.len, Option.some e.i.size, hn, .inr rfl, by simp, ?_, ?_⟩, k1, .inr ⟨_, rfl⟩⟩
        · rw [start]
          simp only [appendTo, b0, cond_false, decide_eq_true hb, decide_eq_true hb2, Bool.and_self, cond_true, hld, AH.row_iff.2 hbk, Option.bind_some, Nat.beq_refl, Nat.zero_add, e.flat_len, hw]
          unfold pureK
          simp only [AH.len_put]
        · rw [e.flat_append]
          have := AH.push_new (H.put b .dead) (.cells (e.flat xs ++ e.flat ys))
          rwa [AH.len_put] at this
        · have k2 : Keep (fun _ => False) H ((H.put b .dead).push (.cells (e.flat xs ++ e.flat ys))) := k1.mono (fun _ h => h.elim)
          exact hwf.wok (n := 0) (k1.mono (fun c hc => absurd hc (Nat.not_lt_zero c))) (Nat.le_refl _)
noncomputable def natV (n : Option Nat) : Option Value := match n with | Option.some n => Option.some (.int .i64 n) | none => none
theorem boundK_nat (n : Option Nat) (d m : Nat) (hm : ∀ k, n = Option.some k → k ≤ m) (k : Nat → Res) : boundK [] (cOp (natV n)) d m k = k (n.getD d) := by
  cases n with
  | none => rfl
  | some n =>
    have h1 : (n : Int) ≤ (m : Int) := by have := hm n rfl; omega
    have h0 : (0 : Int) ≤ (n : Int) := by omega
    show ((arg [] (.const (.int .i64 n))).bind fun v => asI v fun _ i => cond (decide (0 ≤ i) && decide (i ≤ m)) (k i.toNat) none) = _
    have : arg [] (.const (.int .i64 n)) = Option.some (.int .i64 n) := rfl
    rw [this]
    simp only [Option.bind_some, asI, decide_eq_true h0, decide_eq_true h1, Bool.and_self, cond_true, Int.toNat_natCast, Option.getD_some]
theorem Rd.sub (h : Rd e H s xs) (lo hi : Option Nat) (h1 : lo.getD 0 ≤ hi.getD xs.length) (h2 : hi.getD xs.length ≤ xs.length) {t : TypeId} (ht : T.und t = Option.some (.slice e.t)) {it : TI} (hit : T.get t = Option.some it) (hia : it.agg = false) (hik : it.kd = [.slice]) (P : Program) (p : Pol) :
    ∃ s', slX ⟨P, T, p⟩ t t (.slice s.a s.l s.c) (natV lo) (natV hi) none = Option.some (.slice s'.a s'.l s'.c) ∧ Rd e H s' ((xs.take (hi.getD xs.length)).drop (lo.getD 0)) ∧ s'.c = s.c - lo.getD 0 ∧ (∀ a', s'.a = Option.some a' → ∃ a, s.a = Option.some a ∧ a'.block = a.block) := by
  have okS : ∀ a l c, okR ⟨P, T, p⟩ t (.slice a l c) = true := by
    intro a l c
    unfold okR
    simp only [hit]
    unfold okI
    rw [hia, cond_false, hik]; rfl
  have hlen := h.len
  have hcap := h.cap
  have hb : ∀ k : Nat → Nat → Nat → Res, boundsK [] s.l s.c (cOp (natV lo)) (cOp (natV hi)) none k = k (lo.getD 0) (hi.getD s.l) s.c := by
    intro k
    unfold boundsK
    have e0 : ∀ k : Nat → Res, boundK [] none s.c s.c k = k s.c := fun _ => rfl
    rw [e0]
    cases hi with
    | none =>
      simp only [natV, cOp, Option.getD_none] at h1 ⊢
      exact boundK_nat lo 0 s.l (fun q hq => by subst hq; simp at h1; omega) _
    | some hh =>
      simp only [Option.getD_some] at h1 h2
      have e1 := boundK_nat (Option.some hh) s.l s.c (fun q hq => by simp at hq; omega)
      simp only [natV, cOp] at e1 ⊢
      rw [e1]
      exact boundK_nat lo 0 hh (fun q hq => by subst hq; simpa using h1) _
  have done : ∀ (s' : Sl), opSlice T [] t (.slice s.a s.l s.c) (cOp (natV lo)) (cOp (natV hi)) (cOp none) (fun v => pureK v ⟨[], 0, []⟩) = Option.some (.slice s'.a s'.l s'.c, ⟨[], 0, []⟩) → slX ⟨P, T, p⟩ t t (.slice s.a s.l s.c) (natV lo) (natV hi) none = Option.some (.slice s'.a s'.l s'.c) := by
    intro s' q
    unfold slX fitV
    show (opSlice T [] t _ _ _ _ _).bind _ = _
    rw [q, Option.bind_some, okS]; rfl
  have start : ∀ k : Value → Res, opSlice T [] t (.slice s.a s.l s.c) (cOp (natV lo)) (cOp (natV hi)) (cOp none) k = (match s.a with
      | Option.some a => k (sliceHead a none e.i.size (lo.getD 0) (hi.getD s.l) s.c)
      | none => cond (Nat.beq s.c 0) (k (.slice none 0 0)) none) := by
    intro k
    unfold opSlice
    simp only [ht, sizeT, e.get, Option.bind_some, Nat.ble_eq_true_of_le hcap, cond_true]
    have e1 : cOp none = none := rfl
    rw [e1]
    cases s.a with
    | none => simp only [hb]
    | some a => simp only [hb]
  have hd : hi.getD s.l = hi.getD xs.length := by rw [hlen]
  generalize hL : lo.getD 0 = L at *
  generalize hH : hi.getD xs.length = M at *
  rw [hd] at start
  have hrd : ∀ (a a' : Addr), s.a = Option.some a → a'.block = a.block → a'.off = a.off + L * e.i.size → (xs.take M).drop L ≠ [] → ∃ c, H.bs[a'.block]? = Option.some (.cells c) ∧ (c.drop a'.off).take (((xs.take M).drop L).length * e.i.size) = e.flat ((xs.take M).drop L) := by
    intro a a' ha hab hao hne
    have hx : xs ≠ [] := by intro q; subst q; simp at hne
    obtain ⟨c, h3, h4⟩ := h.row a ha hx
    refine ⟨c, by rw [hab, h3], ?_⟩
    rw [hao, ← List.drop_drop]
    have e1 : e.flat ((xs.take M).drop L) = ((e.flat xs).take (M * e.i.size)).drop (L * e.i.size) := by rw [e.flat_take, e.flat_drop]
    have hlen' : ((xs.take M).drop L).length = M - L := by rw [List.length_drop, List.length_take, Nat.min_eq_left h2]
    rw [e1, ← h4, List.take_take, hlen', Nat.min_eq_left (Nat.mul_le_mul_right _ h2), List.drop_take, Nat.sub_mul]
  have hlen' : ((xs.take M).drop L).length = M - L := by rw [List.length_drop, List.length_take, Nat.min_eq_left h2]
  cases ha : s.a with
  | none =>
    obtain ⟨hx, hc⟩ := h.nil ha
    subst hx
    simp only [List.length_nil] at h2 hlen
    have hM : M = 0 := by omega
    subst hM
    have hL0 : L = 0 := by omega
    subst hL0
    refine ⟨⟨none, 0, 0⟩, ?_, ⟨by simp, Nat.le_refl _, fun _ => ⟨by simp, rfl⟩, fun a q => by cases q⟩, by simp [hc], fun a' q => by cases q⟩
    rw [ha] at done start
    refine done ⟨none, 0, 0⟩ ?_
    rw [start]
    simp only []
    rw [hc]; rfl
  | some a =>
    rw [ha] at start done
    have main : ∀ (s' : Sl) (a' : Addr), s' = ⟨Option.some a', M - L, s.c - L⟩ → a'.block = a.block → ((xs.take M).drop L ≠ [] → a'.off = a.off + L * e.i.size) → sliceHead a none e.i.size L M s.c = .slice s'.a s'.l s'.c →
        ∃ s', slX ⟨P, T, p⟩ t t (.slice (Option.some a) s.l s.c) (natV lo) (natV hi) none = Option.some (.slice s'.a s'.l s'.c) ∧ Rd e H s' ((xs.take M).drop L) ∧ s'.c = s.c - L ∧ (∀ a', s'.a = Option.some a' → ∃ b, Option.some a = Option.some b ∧ a'.block = b.block) := by
      intro s' a' e1 e2 e3 e4
      refine ⟨s', done s' (by rw [start]; simp only []; rw [e4]; rfl), ⟨by rw [e1, hlen'], by rw [e1]; show M - L ≤ s.c - L; omega, fun q => (by rw [e1] at q; cases q), fun b hb hne => ?_⟩, by rw [e1], fun b hb => ⟨a, rfl, by rw [e1] at hb; simp at hb; rw [← hb, e2]⟩⟩
      rw [e1] at hb
      simp at hb; subst hb
      exact hrd a a' ha e2 (e3 hne) hne
    have hbm : (xs.take M).drop L ≠ [] → Nat.beq s.c L = false := by
      intro hne
      cases hq : Nat.beq s.c L with
      | false => rfl
      | true =>
        have := Nat.eq_of_beq_eq_true hq
        have hpos := List.length_pos_iff.2 hne
        rw [hlen'] at hpos; omega
    cases hsp : a.spot with
    | none =>
      refine main ⟨Option.some ⟨a.block, a.off + cond (Nat.beq s.c L) 0 (L * e.i.size), none⟩, M - L, s.c - L⟩ _ rfl rfl (fun hne => by rw [hbm hne]; rfl) ?_
      unfold sliceHead; rw [hsp]
    | some sz =>
      cases hq : Nat.beq s.c L with
      | true =>
        have hcl := Nat.eq_of_beq_eq_true hq
        refine main ⟨Option.some ⟨a.block, 0, Option.some 0⟩, M - L, s.c - L⟩ _ rfl rfl (fun hne => by rw [hbm hne] at hq; cases hq) ?_
        unfold sliceHead; rw [hsp]
        simp only [hq, cond_true]
        have : M - L = 0 := by omega
        rw [this, hcl, Nat.sub_self]
      | false =>
        refine main ⟨Option.some ⟨a.block, a.off + L * e.i.size, Option.some sz⟩, M - L, s.c - L⟩ _ rfl rfl (fun _ => rfl) ?_
        unfold sliceHead; rw [hsp]
        simp only [hq, cond_false]
end
end Go.Proofs.Yteljeekapcenlaa.Ev
