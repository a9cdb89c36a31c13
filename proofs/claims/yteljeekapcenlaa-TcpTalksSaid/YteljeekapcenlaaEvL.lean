/-
  Ev, part L: regions that draw their order. No conditions.
-/
import Derived.Test.YteljeekapcenlaaEvKa
namespace Go.Proofs.Yteljeekapcenlaa.Ev
open Go Go.RowKit
theorem before_step (ops : Array Oper) : ∀ (l : List Oper) (acc : Array Nat) (i : Nat), i < acc.size →
    (l.foldl (fun acc o => acc.push (o.after.foldl (fun s e => if Region.binds .any e then s ||| 2 ^ e.on ||| acc.getD e.on 0 else s) 0)) acc).getD i 0 = acc.getD i 0 := by
  intro l
  induction l with
  | nil => intro acc i _; rfl
  | cons o l ih =>
    intro acc i hi
    simp only [List.foldl_cons]
    rw [ih _ i (by simp; omega)]
    simp [Array.getElem?_push, Nat.ne_of_lt hi]
theorem edges_bits (acc : Array Nat) (j : Nat) : ∀ (l : List Edge) (s : Nat),
    (l.foldl (fun s e => if Region.binds .any e then s ||| 2 ^ e.on ||| acc.getD e.on 0 else s) s).testBit j = true ↔
      s.testBit j = true ∨ ∃ e ∈ l, Region.binds .any e = true ∧ (e.on = j ∨ (acc.getD e.on 0).testBit j = true) := by
  intro l
  induction l with
  | nil => intro s; simp
  | cons e l ih =>
    intro s
    simp only [List.foldl_cons]
    rw [ih]
    by_cases hb : Region.binds .any e = true
    · simp only [hb, if_true, Nat.testBit_or, Bool.or_eq_true, Nat.testBit_two_pow, decide_eq_true_eq, List.mem_cons]
      constructor
      · rintro (((h | h) | h) | ⟨e', h1, h2⟩)
        · exact .inl h
        · exact .inr ⟨e, .inl rfl, hb, .inl h⟩
        · exact .inr ⟨e, .inl rfl, hb, .inr h⟩
        · exact .inr ⟨e', .inr h1, h2⟩
      · rintro (h | ⟨e', rfl | h1, h2, h3⟩)
        · exact .inl (.inl (.inl h))
        · rcases h3 with h3 | h3
          · exact .inl (.inl (.inr h3))
          · exact .inl (.inr h3)
        · exact .inr ⟨e', h1, h2, h3⟩
    · simp only [hb, Bool.false_eq_true, if_false, List.mem_cons]
      constructor
      · rintro (h | ⟨e', h1, h2⟩)
        · exact .inl h
        · exact .inr ⟨e', .inr h1, h2⟩
      · rintro (h | ⟨e', rfl | h1, h2, h3⟩)
        · exact .inl h
        · exact absurd h2 hb
        · exact .inr ⟨e', h1, h2, h3⟩
def bstep (acc : Array Nat) (o : Oper) : Array Nat := acc.push (o.after.foldl (fun s e => if Region.binds .any e then s ||| 2 ^ e.on ||| acc.getD e.on 0 else s) 0)
theorem bfold_size : ∀ (l : List Oper) (acc : Array Nat), (l.foldl bstep acc).size = acc.size + l.length := by
  intro l
  induction l with
  | nil => intro acc; rfl
  | cons o l ih => intro acc; simp only [List.foldl_cons, ih]; simp [bstep]; omega
theorem before_bits (ops : Array Oper) (i : Nat) (o : Oper) (ho : ops[i]? = some o) (hedge : ∀ e ∈ o.after.toList, Region.binds .any e = true → e.on < i) (j : Nat) :
    ((Region.before ops).getD i 0).testBit j = true ↔ ∃ e ∈ o.after.toList, Region.binds .any e = true ∧ (e.on = j ∨ ((Region.before ops).getD e.on 0).testBit j = true) := by
  have hb : Region.before ops = ops.toList.foldl bstep #[] := by
    unfold Region.before; rw [← Array.foldl_toList]; rfl
  obtain ⟨hl, he⟩ := Array.getElem?_eq_some_iff.1 ho
  have hsplit : ops.toList = ops.toList.take i ++ (o :: ops.toList.drop (i + 1)) := by
    have hl' : i < ops.toList.length := by simpa using hl
    have e1 : ops.toList[i] = o := by simpa using he
    rw [← e1, ← List.drop_eq_getElem_cons hl', List.take_append_drop]
  have hlen : (ops.toList.take i).length = i := by simp; omega
  generalize hacc : (ops.toList.take i).foldl bstep #[] = acc
  have hsz : acc.size = i := by rw [← hacc, bfold_size]; simp; omega
  have hbe : Region.before ops = (ops.toList.drop (i + 1)).foldl bstep (bstep acc o) := by
    rw [hb]
    conv => lhs; rw [hsplit]
    rw [List.foldl_append, List.foldl_cons, hacc]
  have hsz2 : (bstep acc o).size = i + 1 := by simp [bstep, hsz]
  have hat : ∀ m, m ≤ i → (Region.before ops).getD m 0 = (bstep acc o).getD m 0 := by
    intro m hm
    rw [hbe]
    exact before_step ops _ _ m (by omega)
  have hlow : ∀ m, m < i → (bstep acc o).getD m 0 = acc.getD m 0 := by
    intro m hm
    simp [bstep, Array.getElem?_push, hsz, Nat.ne_of_lt hm]
  rw [hat i (Nat.le_refl _)]
  have hself : (bstep acc o).getD i 0 = o.after.toList.foldl (fun s e => if Region.binds .any e then s ||| 2 ^ e.on ||| acc.getD e.on 0 else s) 0 := by
    rw [Array.foldl_toList]
    have : (bstep acc o)[i]? = some (o.after.foldl (fun s e => if Region.binds .any e then s ||| 2 ^ e.on ||| acc.getD e.on 0 else s) 0) := by
      unfold bstep; rw [← hsz]; exact Array.getElem?_push_size
    rw [Array.getD_eq_getD_getElem?, this]; rfl
  rw [hself, edges_bits]
  simp only [Nat.zero_testBit, Bool.false_eq_true, false_or]
  constructor
  · rintro ⟨e, h1, h2, h3⟩
    refine ⟨e, h1, h2, ?_⟩
    rw [hat e.on (Nat.le_of_lt (hedge e h1 h2)), hlow e.on (hedge e h1 h2)]
    exact h3
  · rintro ⟨e, h1, h2, h3⟩
    refine ⟨e, h1, h2, ?_⟩
    rw [hat e.on (Nat.le_of_lt (hedge e h1 h2)), hlow e.on (hedge e h1 h2)] at h3
    exact h3
structure DrawSt (pol : Pol) (ops : Array Oper) (b : Array Nat) (s : List Nat) : Prop where
  all : ∀ i, i < ops.size → i ∈ s
  lt : ∀ i ∈ s, i < ops.size
  pairs : s.Pairwise fun x y => x ≠ y ∧ (b.getD x 0).testBit y = false ∧ (rankAt pol ops x < 2 ∨ (b.getD y 0).testBit x = true)
  edge : ∀ (i : Nat) (o : Oper), ops[i]? = some o → ∀ e ∈ o.after.toList, Region.binds .any e = true → e.on < i
  guard : ∀ (i : Nat) (o : Oper) (j : Nat) (want : Bool), ops[i]? = some o → o.guard = some (j, want) → ∃ e ∈ o.after.toList, e.on = j ∧ Region.binds .any e = true
  apart : ∀ (i j : Nat) (x y : Oper) (t : Tmp), ops[i]? = some x → ops[j]? = some y → y.dst = some t → i ≠ j → (t ∈ tmpsOf x → (b.getD (max i j) 0).testBit (min i j) = true) ∧ x.dst ≠ some t
theorem pairsOk_iff {f : Nat → Nat → Bool} {R : Nat → Nat → Prop} (h : ∀ x y, f x y = true → R x y) : ∀ (l : List Nat), pairsOk f l = true → l.Pairwise R := by
  intro l
  induction l with
  | nil => intro _; exact .nil
  | cons x l ih =>
    intro hp
    simp only [pairsOk, Bool.and_eq_true, List.all_eq_true] at hp
    exact .cons (fun y hy => h x y (hp.1 y hy)) (ih hp.2)
theorem drawOk_st {pol : Pol} {ops : Array Oper} (h : drawOk pol ops = true) : DrawSt pol ops (Region.before ops) (sigma pol ops (Region.before ops) ops.size 0) := by
  unfold drawOk at h
  simp only [Bool.and_eq_true, List.all_eq_true, List.mem_range] at h
  obtain ⟨⟨⟨⟨h1, h2⟩, h3⟩, h4⟩, h5⟩ := h
  have hop : ∀ (i : Nat) (o : Oper), ops[i]? = some o → edgeOk ops i o = true ∧ ∀ (j : Nat) (y : Oper), ops[j]? = some y → apartOk (Region.before ops) i o j y = true := by
    intro i o ho
    have hl : i < ops.size := (Array.getElem?_eq_some_iff.1 ho).1
    have := h5 i hl
    rw [ho] at this
    simp only [Bool.and_eq_true, List.all_eq_true, List.mem_range] at this
    refine ⟨this.1, fun j y hy => ?_⟩
    have h := this.2 j (Array.getElem?_eq_some_iff.1 hy).1
    rw [hy] at h
    exact h
  refine ⟨fun i hi => by simpa using h2 i hi, fun i hi => ?_, ?_, ?_, ?_, ?_⟩
  · have := h3 i hi; exact Nat.le_of_ble_eq_true this
  · refine pairsOk_iff (fun x y hxy => ?_) _ h4
    simp only [Bool.and_eq_true, Bool.or_eq_true, Bool.not_eq_true'] at hxy
    obtain ⟨⟨p1, p2⟩, p3⟩ := hxy
    refine ⟨(fun e => (by subst e; rw [Nat.beq_refl] at p1; cases p1)), p2, ?_⟩
    rcases p3 with p3 | p3
    · exact .inl (Nat.le_of_ble_eq_true p3)
    · exact .inr p3
  · intro i o ho e he hb
    have := (hop i o ho).1
    simp only [edgeOk, Bool.and_eq_true, List.all_eq_true, Bool.or_eq_true, Bool.not_eq_true'] at this
    rcases this.1 e he with q | q
    · rw [hb] at q; cases q
    · exact Nat.le_of_ble_eq_true q
  · intro i o j want ho hg
    have := (hop i o ho).1
    simp only [edgeOk, hg, Bool.and_eq_true, List.any_eq_true] at this
    obtain ⟨e, h1, h2, h3⟩ := this.2
    exact ⟨e, h1, Nat.eq_of_beq_eq_true h2, h3⟩
  · intro i j x y t hx hy hd hne
    have := (hop i x hx).2 j y hy
    simp only [apartOk, hd, Bool.or_eq_true, Bool.and_eq_true, Bool.not_eq_true'] at this
    rcases this with q | ⟨q1, q2⟩
    · exact absurd (Nat.eq_of_beq_eq_true q) hne
    · refine ⟨fun ht => ?_, fun he => ?_⟩
      · rcases q1 with q1 | q1
        · have : (tmpsOf x).contains t = true := by simpa using ht
          rw [this] at q1; cases q1
        · exact q1
      · rw [he] at q2
        simp at q2
section
variable {E : Env} {orc : Orc} {ops : Array Oper}
def Lst (listed : Array Bool) (i : Nat) : Prop := listed.getD i false = true
def WR (ops : Array Oper) (t : Tmp) (j : Nat) : Prop := ∃ o, ops[j]? = some o ∧ o.dst = some t
noncomputable def readsOf (ops : Array Oper) (o : Oper) : List Tmp :=
  tmpsOf o ++ (match o.guard with | some (g, _) => ((ops[g]?).bind (·.dst)).toList | none => [])
def Pend (E : Env) (ops : Array Oper) (b : Array Nat) (fr0 fr : Frame) (H : AH) (memo : List (Nat × Nat)) (nb : Nat → Option Nat) (ι : Emb) (i : Nat) : Prop :=
  ∃ (o : Oper) (fi : Frame) (v : Value), ops[i]? = some o ∧ rankP E.pol o.op < 2 ∧
    (∀ t ∈ readsOf ops o, (∀ j, WR ops t j → (b.getD i 0).testBit j = true → getF fi t = getF fr t) ∧ ((∀ j, WR ops t j → (b.getD i 0).testBit j = false) → getF fi t = getF fr0 t)) ∧
    (∀ t, o.dst = some t → ∀ u, getF fr t = some u → u = v) ∧
    ((guardIs ops o.guard fi true ∧ (Quiet E o fi v ∨ Pures E o fi v ∨ (∃ H1, Reads E o fi H1 v ∧ ∀ c, readAt o fi H1 = some c → H.bs[c]? = H1.bs[c]? ∧ (i, c) ∈ memo ∧ c < H.len) ∨
        (∃ x mk n, Makes E o fi x mk ∧ v = mk n ∧ H.bs[n]? = some x ∧ (i, n) ∈ memo ∧ nb i = some n ∧ ι n = none))) ∨
      (guardIs ops o.guard fi false ∧ v = undef))
where
  guardIs (ops : Array Oper) (g : Option (Nat × Bool)) (fi : Frame) (ran : Bool) : Prop :=
    match g with
    | none => ran = true
    | some (j, want) => ∃ u, ((getL ops.toList j).bind fun o => o.dst.bind fun d => getF fi d) = some u ∧ (boolOf u == some want) = ran
structure Inv (E : Env) (orc : Orc) (ops : Array Oper) (b : Array Nat) (s : List Nat) (B : Nat) (ι0 : Emb) (fr0 : Frame) (H0 : AH) (w0 : World) (k : Frame → AH → Res) (r : Value × AH)
    (done l : List Nat) (fr : Frame) (H : AH) (memo : List (Nat × Nat)) (nb : Nat → Option Nat) (listed : Array Bool) (a : Act) (w : World) (ι : Emb) : Prop where
  ev : evDraw E orc ops.toList b l memo fr H k = some r
  split : s = done ++ l
  size : listed.size = ops.size
  sub : ∀ i, Lst listed i → i ∈ done
  down : ∀ i j, Lst listed i → (b.getD i 0).testBit j = true → Lst listed j
  eff : ∀ i ∈ done, 2 ≤ rankAt E.pol ops i → Lst listed i
  hr : HR B ι H w
  ext : Ext H0.len ι0 ι
  bel : Below B w0 w
  grow : Grow H0 H
  f1 : ∀ t j, WR ops t j → Lst listed j → ∀ v, getF fr t = some v → ∃ v', a.tmps[t]? = some v' ∧ VR ι v v'
  f2 : ∀ t, (∀ j, WR ops t j → ¬ Lst listed j) → ∀ v, getF fr0 t = some v → ∃ v', a.tmps[t]? = some v' ∧ VR ι v v'
  f3 : ∀ t, (∀ j, WR ops t j → j ∉ done) → getF fr t = getF fr0 t
  len : fr.length = fr0.length
  tmps : fr0.length ≤ a.tmps.size
  defers : a.defers = []
  pend : ∀ i ∈ done, ¬ Lst listed i → Pend E ops b fr0 fr H memo nb ι i
  nbi : ∀ i j n, nb i = some n → nb j = some n → i = j
  nbl : ∀ i n, nb i = some n → n < H.len ∧ H0.len ≤ n ∧ i ∈ done
variable {b : Array Nat} {s : List Nat} {B : Nat} {ι0 : Emb} {fr0 : Frame} {H0 : AH} {w0 : World} {k : Frame → AH → Res} {r : Value × AH}
  {done l : List Nat} {fr : Frame} {H : AH} {memo : List (Nat × Nat)} {nb : Nat → Option Nat} {listed : Array Bool} {a : Act} {w : World} {ι : Emb}
theorem tmps_reads {o : Oper} {t : Tmp} (h : t ∈ tmpsOf o) : t ∈ readsOf ops o := by simp [readsOf, h]
theorem mem_tmps {o : Oper} {t : Tmp} (h : Operand.tmp t ∈ o.op.operands) : t ∈ tmpsOf o := by
  unfold tmpsOf
  rw [List.mem_filterMap]
  exact ⟨.tmp t, by simpa using h, rfl⟩
theorem DrawSt.hang (st : DrawSt E.pol ops b s) {i j : Nat} {o : Oper} {t : Tmp} (ho : ops[i]? = some o) (ht : t ∈ readsOf ops o) (hw : WR ops t j) (hbits : b = Region.before ops) :
    j = i ∨ (b.getD i 0).testBit j = true ∨ (b.getD j 0).testBit i = true := by
  obtain ⟨y, hy, hd⟩ := hw
  by_cases hij : i = j
  · exact .inl hij.symm
  simp only [readsOf, List.mem_append] at ht
  rcases ht with ht | ht
  · have := (st.apart i j o y t ho hy hd hij).1 ht
    rcases Nat.lt_or_ge i j with h | h
    · rw [Nat.max_eq_right (by omega), Nat.min_eq_left (by omega)] at this; exact .inr (.inr this)
    · rw [Nat.max_eq_left h, Nat.min_eq_right h] at this; exact .inr (.inl this)
  · cases hg : o.guard with
    | none => rw [hg] at ht; simp at ht
    | some q =>
      obtain ⟨g, want⟩ := q
      rw [hg] at ht
      simp only [Option.mem_toList, Option.bind_eq_some_iff] at ht
      obtain ⟨x, hx, hxd⟩ := ht
      have hgj : g = j := by
        by_cases e : g = j
        · exact e
        · exact absurd hxd (st.apart g j x y t hx hy hd e).2
      subst hgj
      obtain ⟨e, he, hon, hb⟩ := st.guard i o g want ho hg
      right; left
      rw [hbits]
      rw [before_bits ops i o ho (fun e he hb => st.edge i o ho e he hb)]
      exact ⟨e, he, hb, .inl hon⟩
theorem rankAt_of {i : Nat} {o : Oper} (ho : ops[i]? = some o) : rankAt E.pol ops i = rankP E.pol o.op := by unfold rankAt; rw [ho]
theorem getF_put_self {fr : Frame} {t : Tmp} {v u : Value} (h : getF (putF fr (some t) v) t = some u) : u = v := by
  simp only [putF, setF_eq] at h
  rw [getF_eq] at h
  by_cases hl : t < fr.length
  · rw [List.getElem?_set_self hl] at h; simp at h; exact h.symm
  · rw [List.getElem?_eq_none (by simpa using Nat.le_of_not_lt hl)] at h; simp at h
theorem getF_put_ne {fr : Frame} {d : Option Tmp} {t : Tmp} {v : Value} (h : d ≠ some t) : getF (putF fr d v) t = getF fr t := by
  cases d with
  | none => rfl
  | some d =>
    simp only [putF, setF_eq]
    rw [getF_eq, getF_eq, List.getElem?_set_ne (fun e => h (by rw [e]))]
theorem len_put (fr : Frame) (d : Option Tmp) (v : Value) : (putF fr d v).length = fr.length := by
  cases d with
  | none => rfl
  | some d => simp [putF, setF_eq]
theorem Inv.unlisted (st : DrawSt E.pol ops b s) {i : Nat} (h : Inv E orc ops b s B ι0 fr0 H0 w0 k r done (i :: l) fr H memo nb listed a w ι) : i ∉ done ∧ ¬ Lst listed i := by
  have hp := st.pairs
  rw [h.split, List.pairwise_append] at hp
  have : i ∉ done := fun hi => (hp.2.2 i hi i (by simp)).1 rfl
  exact ⟨this, fun hl => this (h.sub i hl)⟩
theorem guardK_cases {g : Option (Nat × Bool)} {x y : Res} (h : guardK ops.toList g fr x y = some r) : (Pend.guardIs ops g fr true ∧ x = some r) ∨ (Pend.guardIs ops g fr false ∧ y = some r) := by
  unfold guardK at h
  cases g with
  | none => exact .inl ⟨rfl, h⟩
  | some q =>
    obtain ⟨j, want⟩ := q
    simp only at h
    obtain ⟨v, hv, h⟩ := Option.bind_eq_some_iff.1 h
    cases v with
    | bool b =>
      simp only at h
      cases want <;> cases b <;> simp only [cond_true, cond_false] at h
      · exact .inl ⟨⟨_, hv, rfl⟩, h⟩
      · exact .inr ⟨⟨_, hv, rfl⟩, h⟩
      · exact .inr ⟨⟨_, hv, rfl⟩, h⟩
      · exact .inl ⟨⟨_, hv, rfl⟩, h⟩
    | _ => exact .inr ⟨⟨_, hv, by cases want <;> rfl⟩, h⟩
theorem bit_lt (st : DrawSt E.pol ops b s) (hbits : b = Region.before ops) : ∀ i, i < ops.size → ∀ j, (b.getD i 0).testBit j = true → j < i := by
  intro i
  induction i using Nat.strongRecOn with
  | _ i ih =>
    intro hi j hj
    have ho : ops[i]? = some ops[i] := by simp [hi]
    rw [hbits, before_bits ops i _ ho (fun e he hb => st.edge i _ ho e he hb)] at hj
    obtain ⟨e, he, hb, h⟩ := hj
    have hlt := st.edge i _ ho e he hb
    rcases h with h | h
    · omega
    · have := ih e.on hlt (by omega) j (by rw [hbits]; exact h); omega
theorem Inv.draw_cons {i : Nat} (h : Inv E orc ops b s B ι0 fr0 H0 w0 k r done (i :: l) fr H memo nb listed a w ι) :
    ∃ o, ops[i]? = some o ∧ guardK ops.toList o.guard fr
        (match rankP E.pol o.op with
         | 0 => evOpN E orc o fr H fun v H => evDraw E orc ops.toList b l memo (putF fr o.dst v) H k
         | 1 => evOpN E orc o fr H fun v H' => evDraw E orc ops.toList b l (match readAt o fr H with | some r => (i, r) :: memo | none => memo) (putF fr o.dst v) H' k
         | _ => evOpN E orc o fr (H.withLock ((memo.filterMap fun (j, r) => cond ((b.getD i 0).testBit j) none (some r)) ++ H.lock)) fun v H' =>
             evDraw E orc ops.toList b l memo (putF fr o.dst v) (H'.withLock H.lock) k)
        (evDraw E orc ops.toList b l memo (putF fr o.dst undef) H k) = some r := by
  have h' : (getL ops.toList i).bind (fun o => guardR ops.toList o.guard fr
        (fun fr => sureK E.pol o.op fr fun fr => match rankP E.pol o.op with
         | 0 => evOpN E orc o fr H fun v H => evDraw E orc ops.toList b l memo (putF fr o.dst v) H k
         | 1 => evOpN E orc o fr H fun v H' => evDraw E orc ops.toList b l (match readAt o fr H with | some r => (i, r) :: memo | none => memo) (putF fr o.dst v) H' k
         | _ => evOpN E orc o fr (H.withLock ((memo.filterMap fun (j, r) => cond ((b.getD i 0).testBit j) none (some r)) ++ H.lock)) fun v H' =>
             evDraw E orc ops.toList b l memo (putF fr o.dst v) (H'.withLock H.lock) k)
        (fun fr => evDraw E orc ops.toList b l memo (putF fr o.dst undef) H k)) = some r := h.ev
  obtain ⟨o, ho, h'⟩ := Option.bind_eq_some_iff.1 h'
  rw [guardR_eq] at h'
  rw [getL_eq] at ho
  refine ⟨o, by simpa using ho, ?_⟩
  have sk : ∀ {g : Option (Nat × Bool)} {run : Frame → Res} {y : Res}, guardK ops.toList g fr (sureK E.pol o.op fr run) y = some r → guardK ops.toList g fr (run fr) y = some r := by
    intro g run y hh
    cases g with
    | none => exact sureK_ok (run := run) hh
    | some q =>
      obtain ⟨j, want⟩ := q
      unfold guardK at hh ⊢
      simp only [] at hh ⊢
      obtain ⟨u, hu, hb⟩ := Option.bind_eq_some_iff.1 hh
      rw [hu]
      simp only [Option.bind_some]
      cases u <;> simp only [] at hb ⊢ <;> first | exact hb | skip
      rename_i b
      cases want <;> cases b <;> simp only [cond_true, cond_false] at hb ⊢ <;> first | exact hb | exact sureK_ok (run := run) hb
  exact sk h'
theorem Inv.slots (st : DrawSt E.pol ops b s) (hbits : b = Region.before ops) {i : Nat} (h : Inv E orc ops b s B ι0 fr0 H0 w0 k r done (i :: l) fr H memo nb listed a w ι) {o : Oper} (ho : ops[i]? = some o) (v : Value) :
    ∀ t ∈ readsOf ops o, (∀ j, WR ops t j → (b.getD i 0).testBit j = true → getF fr t = getF (putF fr o.dst v) t) ∧ ((∀ j, WR ops t j → (b.getD i 0).testBit j = false) → getF fr t = getF fr0 t) := by
  obtain ⟨hnd, hnl⟩ := h.unlisted st
  have hp := st.pairs
  rw [h.split, List.pairwise_append] at hp
  have hi : i < ops.size := (Array.getElem?_eq_some_iff.1 ho).1
  intro t ht
  refine ⟨fun j hj hb => ?_, fun hno => h.f3 t fun j hj hd => ?_⟩
  · have hlt := bit_lt st hbits i hi j hb
    obtain ⟨y, hy, hyd⟩ := hj
    exact (getF_put_ne (st.apart i j o y t ho hy hyd (by omega)).2).symm
  · rcases st.hang ho ht hj hbits with e | e | e
    · subst e; exact hnd hd
    · rw [hno j hj] at e; cases e
    · have := (hp.2.2 j hd i (by simp)).2.1
      rw [this] at e; cases e
theorem Pend.move {i : Nat} {i' : Nat} {o : Oper} {v : Value} {H' : AH} {memo' : List (Nat × Nat)} {nb' : Nat → Option Nat} {ι' : Emb} (hp : Pend E ops b fr0 fr H memo nb ι i')
    (h1 : ∀ t, o.dst = some t → ∀ o', ops[i']? = some o' → (t ∈ readsOf ops o' → (b.getD i' 0).testBit i = false) ∧ o'.dst ≠ some t) (hwr : ∀ t, o.dst = some t → ∀ j, WR ops t j → j = i)
    (hH : ∀ c, (i', c) ∈ memo → c < H.len → H'.bs[c]? = H.bs[c]?) (hHl : H.len ≤ H'.len) (hm : ∀ x ∈ memo, x ∈ memo') (hnb : ∀ n, nb i' = some n → nb' i' = some n ∧ n < H.len) (hι : ∀ n, n < H.len → ι n = none → ι' n = none) : Pend E ops b fr0 (putF fr o.dst v) H' memo' nb' ι' i' := by
  obtain ⟨o', fi, u, q1, q2, q3, q4, q5⟩ := hp
  have hne : ∀ t, t ∈ readsOf ops o' → ∀ j, WR ops t j → (b.getD i' 0).testBit j = true → o.dst ≠ some t := by
    intro t ht j hj hb hd
    have := hwr t hd j hj
    subst this
    rw [(h1 t hd o' q1).1 ht] at hb; cases hb
  refine ⟨o', fi, u, q1, q2, fun t ht => ⟨fun j hj hb => ?_, (q3 t ht).2⟩, fun t ht x hx => ?_, ?_⟩
  · rw [getF_put_ne (hne t ht j hj hb)]; exact (q3 t ht).1 j hj hb
  · have : o.dst ≠ some t := fun hd => (h1 t hd o' q1).2 ht
    rw [getF_put_ne this] at hx
    exact q4 t ht x hx
  · rcases q5 with ⟨g, q5⟩ | q5
    · refine .inl ⟨g, ?_⟩
      rcases q5 with q5 | q5 | ⟨H1, r1, r2⟩ | ⟨x, mk, n, r1, r2, r3, r4, r5, r6⟩
      · exact .inl q5
      · exact .inr (.inl q5)
      · exact .inr (.inr (.inl ⟨H1, r1, fun c hc => ⟨by rw [hH c (r2 c hc).2.1 (r2 c hc).2.2]; exact (r2 c hc).1, hm _ (r2 c hc).2.1, Nat.lt_of_lt_of_le (r2 c hc).2.2 hHl⟩⟩))
      · exact .inr (.inr (.inr ⟨x, mk, n, r1, r2, by rw [hH n r4 (hnb n r5).2]; exact r3, hm _ r4, (hnb n r5).1, hι n (hnb n r5).2 r6⟩))
    · exact .inr q5
theorem Inv.advance (hE : EnvOk E) (hO : OrcOk E orc) (st : DrawSt E.pol ops b s) (hbits : b = Region.before ops) {i : Nat} (h : Inv E orc ops b s B ι0 fr0 H0 w0 k r done (i :: l) fr H memo nb listed a w ι) (hrk : rankAt E.pol ops i < 2) :
    ∃ fr' H' memo' nb', Inv E orc ops b s B ι0 fr0 H0 w0 k r (done ++ [i]) l fr' H' memo' nb' listed a w ι := by
  obtain ⟨hnd, hnl⟩ := h.unlisted st
  obtain ⟨o, ho, hg⟩ := h.draw_cons
  have hrk' : rankP E.pol o.op < 2 := by rw [← rankAt_of ho]; exact hrk
  have hp := st.pairs
  rw [h.split, List.pairwise_append] at hp
  have hbef : ∀ i' ∈ done, (b.getD i' 0).testBit i = false := fun i' hi' => (hp.2.2 i' hi' i (by simp)).2.1
  have hself : ∀ t, o.dst = some t → ∀ j, WR ops t j → j = i := by
    intro t hd j ⟨y, hy, hyd⟩
    by_cases e : j = i
    · exact e
    · exact absurd hd (st.apart i j o y t ho hy hyd (fun q => e q.symm)).2
  -- one way for all: the abstract step and its fact
  have fin : ∀ (v : Value) (H' : AH) (memo' : List (Nat × Nat)) (nb' : Nat → Option Nat), evDraw E orc ops.toList b l memo' (putF fr o.dst v) H' k = some r → Grow H H' → HR B ι H' w → (∀ c, c < H.len → H'.bs[c]? = H.bs[c]?) → (∀ x ∈ memo, x ∈ memo') →
      (∀ j, j ≠ i → nb' j = nb j) → (∀ n, nb' i = some n → H.len ≤ n ∧ n < H'.len) → Pend E ops b fr0 (putF fr o.dst v) H' memo' nb' ι i →
      ∃ fr' H' memo' nb', Inv E orc ops b s B ι0 fr0 H0 w0 k r (done ++ [i]) l fr' H' memo' nb' listed a w ι := by
    intro v H' memo' nb' hev hgr hhr hH hm hnbo hnbi hpi
    have hni : nb i = none := by
      cases hq : nb i with
      | none => rfl
      | some n => exact absurd (h.nbl i n hq).2.2 hnd
    refine ⟨putF fr o.dst v, H', memo', nb', hev, by rw [h.split]; simp, h.size, fun j hj => by simp [h.sub j hj], h.down, fun j hj hr2 => ?_, hhr, h.ext, h.bel, h.grow.trans hgr, fun t j hj hl u hu => ?_, h.f2, fun t ht => ?_, by rw [len_put]; exact h.len, h.tmps, h.defers, fun j hj hl => ?_, fun p q n hp1 hq1 => ?_, fun j n hj => ?_⟩
    · rcases List.mem_append.1 hj with hj | hj
      · exact h.eff j hj hr2
      · simp at hj; subst hj; omega
    · have : o.dst ≠ some t := fun hd => by have := hself t hd j hj; subst this; exact hnl hl
      rw [getF_put_ne this] at hu
      exact h.f1 t j hj hl u hu
    · have : o.dst ≠ some t := fun hd => ht i ⟨o, ho, hd⟩ (by simp)
      rw [getF_put_ne this]
      exact h.f3 t fun j hj hd => ht j hj (by simp [hd])
    · rcases List.mem_append.1 hj with hj' | hj'
      · have hne : j ≠ i := fun e => by subst e; exact hnd hj'
        refine (h.pend j hj' hl).move (i := i) (fun t hd o' ho' => ⟨fun _ => hbef j hj', fun hd' => ?_⟩) hself (fun c _ hc => hH c hc) hgr.len hm (fun n hn => ⟨by rw [hnbo j hne]; exact hn, (h.nbl j n hn).1⟩) (fun _ _ hn => hn)
        exact (st.apart i j o o' t ho ho' hd' (fun q => hne q.symm)).2 hd
      · simp at hj'; subst hj'; exact hpi
    · by_cases e1 : p = i
      · by_cases e2 : q = i
        · rw [e1, e2]
        · subst e1
          rw [hnbo q e2] at hq1
          have := h.nbl q n hq1; have := hnbi n hp1; omega
      · by_cases e2 : q = i
        · subst e2
          rw [hnbo p e1] at hp1
          have := h.nbl p n hp1; have := hnbi n hq1; omega
        · rw [hnbo p e1] at hp1; rw [hnbo q e2] at hq1; exact h.nbi p q n hp1 hq1
    · by_cases e1 : j = i
      · subst e1; exact ⟨(hnbi n hj).2, Nat.le_trans h.grow.len (hnbi n hj).1, by simp⟩
      · rw [hnbo j e1] at hj
        have := h.nbl j n hj
        exact ⟨Nat.lt_of_lt_of_le this.1 hgr.len, this.2.1, by simp [this.2.2]⟩
  have hnbn : ∀ n, nb i = some n → H.len ≤ n ∧ n < H.len := fun n hn => absurd (h.nbl i n hn).2.2 hnd
  have dstv : ∀ v t, o.dst = some t → ∀ u, getF (putF fr o.dst v) t = some u → u = v := fun v t hd u hu => by rw [hd] at hu; exact getF_put_self hu
  rcases guardK_cases hg with ⟨hgt, hrun⟩ | ⟨hgf, hskip⟩
  · match hrp : rankP E.pol o.op, hrun with
    | 0, hrun =>
      cases hq : quietCall E.pol o.op with
      | true =>
        obtain ⟨v, h1, h2⟩ := quiet_okN hE hO hrun hq
        exact fin v H memo nb h1 (Grow.refl _) h.hr (fun _ _ => rfl) (fun _ hx => hx) (fun _ _ => rfl) hnbn
          ⟨o, fr, v, ho, hrk', h.slots st hbits ho v, dstv v, .inl ⟨hgt, .inl h2⟩⟩
      | false =>
      have hr0 : rank o.op = 0 := by unfold rankP at hrp; rw [hq] at hrp; exact hrp
      obtain ⟨v, h1, h2⟩ := pure_okN hE hrun hr0
      exact fin v H memo nb h1 (Grow.refl _) h.hr (fun _ _ => rfl) (fun _ hx => hx) (fun _ _ => rfl) hnbn
        ⟨o, fr, v, ho, hrk', h.slots st hbits ho v, dstv v, .inl ⟨hgt, .inr (.inl h2)⟩⟩
    | 1, hrun =>
      have hr0 : rank o.op = 1 := by
        unfold rankP at hrp
        cases hq : quietCall E.pol o.op with
        | true => rw [hq] at hrp; cases hrp
        | false => rw [hq] at hrp; exact hrp
      by_cases hm : isMake o.op = true
      · obtain ⟨x, mk, h1, h2⟩ := make_okN hE hrun hm
        have hra : readAt o fr H = some H.len := by
          unfold readAt
          cases hop : o.op <;> rw [hop] at hm <;> first | rfl | (cases hm; done)
        rw [hra] at h1
        refine fin (mk H.len) (H.push x) ((i, H.len) :: memo) (fun j => if j = i then some H.len else nb j) h1 (Grow.push _ _) (h.hr.push x) (fun c hc => by simp only [AH.push]; rw [List.getElem?_append_left hc]) (fun y hy => by simp [hy]) (fun j hj => by simp [hj]) (fun n hn => ?_)
          ⟨o, fr, mk H.len, ho, hrk', h.slots st hbits ho _, dstv _, .inl ⟨hgt, .inr (.inr (.inr ⟨x, mk, H.len, h2, rfl, by simp [AH.push, AH.len], by simp, by simp, h.hr.none⟩))⟩⟩
        simp at hn
        subst hn
        simp [AH.push, AH.len]
      · obtain ⟨v, h1, h2⟩ := read_okN hE hrun hr0 (by simpa using hm)
        have hlt := fun c hc => read_ltN (c := c) hE hrun hr0 (by simpa using hm) hc
        refine fin v H _ nb h1 (Grow.refl _) h.hr (fun _ _ => rfl) (fun y hy => by split <;> simp [hy]) (fun _ _ => rfl) hnbn
          ⟨o, fr, v, ho, hrk', h.slots st hbits ho _, dstv _, .inl ⟨hgt, .inr (.inr (.inl ⟨H, h2, fun c hc => ⟨rfl, by rw [hc]; simp, hlt c hc⟩⟩))⟩⟩
    | n + 2, hrun => omega
  · exact fin undef H memo nb hskip (Grow.refl _) h.hr (fun _ _ => rfl) (fun _ hx => hx) (fun _ _ => rfl) hnbn
      ⟨o, fr, undef, ho, hrk', h.slots st hbits ho undef, dstv undef, .inr ⟨hgf, rfl⟩⟩
theorem Inv.settle (hE : EnvOk E) (hO : OrcOk E orc) (st : DrawSt E.pol ops b s) (hbits : b = Region.before ops) : ∀ (l : List Nat) {done : List Nat} {fr : Frame} {H : AH} {memo : List (Nat × Nat)} {nb : Nat → Option Nat}, Inv E orc ops b s B ι0 fr0 H0 w0 k r done l fr H memo nb listed a w ι →
    ∃ done' l' fr' H' memo' nb', Inv E orc ops b s B ι0 fr0 H0 w0 k r done' l' fr' H' memo' nb' listed a w ι ∧ (∀ x, l'.head? = some x → 2 ≤ rankAt E.pol ops x) := by
  intro l
  induction l with
  | nil => intro done fr H memo nb h; exact ⟨done, [], fr, H, memo, nb, h, fun x hx => by cases hx⟩
  | cons i l ih =>
    intro done fr H memo nb h
    by_cases hr : rankAt E.pol ops i < 2
    · obtain ⟨fr', H', memo', nb', h'⟩ := h.advance hE hO st hbits hr
      exact ih h'
    · exact ⟨done, i :: l, fr, H, memo, nb, h, fun x hx => by simp at hx; subst hx; omega⟩
theorem ars_of {o : Oper} {fi : Frame} (h : ∀ t ∈ tmpsOf o, ∀ v, getF fi t = some v → ∃ v', a.tmps[t]? = some v' ∧ VR ι v v') : ARs ι fi a o := by
  intro x hx v hv
  cases x with
  | tmp t =>
    obtain ⟨v', h1, h2⟩ := h t (mem_tmps hx) v hv
    have : a.eval (.tmp t) = v' := by simp [Act.eval, h1]
    rw [this]; exact h2
  | const c =>
    simp only [arg] at hv
    obtain ⟨h1, h2⟩ := cond_some hv
    simp at h2; subst h2
    exact plain_refl ι h1
  | global g => cases hv
  | func f =>
    simp only [arg] at hv
    simp at hv; subst hv
    exact .func _ _ _ _ _ .nil .nil
theorem wanted_of {o : Oper} {fi : Frame} {ran : Bool} (hg : Pend.guardIs ops o.guard fi ran) (h : ∀ t ∈ readsOf ops o, ∀ v, getF fi t = some v → ∃ v', a.tmps[t]? = some v' ∧ VR ι v v') : Region.wanted o (yielded ops a.tmps) = ran := by
  cases hq : o.guard with
  | none => rw [hq] at hg; simp only [Pend.guardIs] at hg; simp [Region.wanted, hq, hg]
  | some q =>
    obtain ⟨j, want⟩ := q
    rw [hq] at hg
    obtain ⟨u, hu, hr⟩ := hg
    rw [getL_eq] at hu
    obtain ⟨y, hy, hu⟩ := Option.bind_eq_some_iff.1 hu
    obtain ⟨d, hd, hu⟩ := Option.bind_eq_some_iff.1 hu
    have hy' : ops[j]? = some y := by simpa using hy
    obtain ⟨v', h1, h2⟩ := h d (by simp [readsOf, hq, hy', hd]) u hu
    have : yielded ops a.tmps j = boolOf u := by
      unfold yielded
      simp only [hy', Option.bind_some, hd, h1]
      cases h2 <;> rfl
    simp only [Region.wanted, hq, this, hr]
theorem lst_set {i j : Nat} (hi : i < listed.size) : Lst (listed.setIfInBounds i true) j ↔ j = i ∨ Lst listed j := by
  unfold Lst
  rw [Array.getD_eq_getD_getElem?, Array.getD_eq_getD_getElem?]
  by_cases e : j = i
  · subst e; rw [Array.getElem?_setIfInBounds_self_of_lt hi]; simp
  · rw [Array.getElem?_setIfInBounds_ne (fun q => e q.symm)]; simp [e]
theorem Inv.preds (st : DrawSt E.pol ops b s) (hbits : b = Region.before ops) (h : Inv E orc ops b s B ι0 fr0 H0 w0 k r done l fr H memo nb listed a w ι) {i : Nat} {o : Oper} (ho : ops[i]? = some o)
    (hr : ∀ e ∈ o.after.toList, Region.binds .any e = true → Lst listed e.on) : ∀ j, (b.getD i 0).testBit j = true → Lst listed j := by
  intro j hj
  have hj' := hj
  rw [hbits, before_bits ops i o ho (fun e he hb => st.edge i o ho e he hb)] at hj'
  obtain ⟨e, he, hb, h1⟩ := hj'
  rcases h1 with h1 | h1
  · rw [← h1]; exact hr e he hb
  · exact h.down e.on j (hr e he hb) (by rw [hbits]; exact h1)
theorem put_tmps (d : Option Tmp) (v' : Value) : (a.put d v').tmps.size = a.tmps.size ∧ (a.put d v').defers = a.defers := by
  cases d <;> simp [Act.put]
theorem put_ne {d : Option Tmp} {t : Tmp} (v' : Value) (h : d ≠ some t) : (a.put d v').tmps[t]? = a.tmps[t]? := by
  cases d with
  | none => rfl
  | some d => simp only [Act.put]; rw [Array.getElem?_setIfInBounds_ne (fun e => h (by rw [e]))]
theorem put_self {t : Tmp} (v' : Value) (h : t < a.tmps.size) : (a.put (some t) v').tmps[t]? = some v' := by
  simp only [Act.put]; rw [Array.getElem?_setIfInBounds_self_of_lt h]
theorem getF_lt {fr : Frame} {t : Tmp} {u : Value} (h : getF fr t = some u) : t < fr.length := by
  rw [getF_eq] at h
  by_cases hl : t < fr.length
  · exact hl
  · rw [List.getElem?_eq_none (Nat.le_of_not_lt hl)] at h; simp at h
theorem Inv.effect (st : DrawSt E.pol ops b s) (hbits : b = Region.before ops) {i : Nat} (h : Inv E orc ops b s B ι0 fr0 H0 w0 k r done (i :: l) fr H memo nb listed a w ι) {o : Oper} (ho : ops[i]? = some o)
    (hr : ∀ e ∈ o.after.toList, Region.binds .any e = true → Lst listed e.on) {v v' : Value} {H' : AH} {w' : World} {ι' : Emb}
    (hev : evDraw E orc ops.toList b l memo (putF fr o.dst v) H' k = some r) (hgr : Grow H H') (hH : ∀ j c, (j, c) ∈ memo → (b.getD i 0).testBit j = false → c < H.len → H'.bs[c]? = H.bs[c]?)
    (hx : Ext H.len ι ι') (hhr : HR B ι' H' w') (hv : VR ι' v v') (hb : Below B w w') :
    Inv E orc ops b s B ι0 fr0 H0 w0 k r (done ++ [i]) l (putF fr o.dst v) H' memo nb (listed.setIfInBounds i true) (a.put o.dst v') w' ι' := by
  obtain ⟨hnd, hnl⟩ := h.unlisted st
  have hp := st.pairs
  rw [h.split, List.pairwise_append] at hp
  have hi : i < listed.size := by rw [h.size]; exact (Array.getElem?_eq_some_iff.1 ho).1
  have hset := fun j => lst_set (j := j) hi
  have hself : ∀ t, o.dst = some t → ∀ j, WR ops t j → j = i := by
    intro t hd j ⟨y, hy, hyd⟩
    by_cases e : j = i
    · exact e
    · exact absurd hd (st.apart i j o y t ho hy hyd (fun q => e q.symm)).2
  have hpre := h.preds st hbits ho hr
  refine ⟨hev, by rw [h.split]; simp, by simp [h.size], fun j hj => ?_, fun j m hj hbm => ?_, fun j hj hr2 => ?_, hhr, h.ext.trans hx h.grow.len, h.bel.trans hb, h.grow.trans hgr, fun t j hj hl u hu => ?_, fun t ht u hu => ?_, fun t ht => ?_, by rw [len_put]; exact h.len, by rw [(put_tmps _ _).1]; exact h.tmps, by rw [(put_tmps _ _).2]; exact h.defers, fun j hj hl => ?_, h.nbi, fun j n hj => ?_⟩
  · rcases (hset j).1 hj with rfl | hj
    · simp
    · simp [h.sub j hj]
  · rw [hset]
    rcases (hset j).1 hj with rfl | hj
    · exact .inr (hpre m hbm)
    · exact .inr (h.down j m hj hbm)
  · rw [hset]
    rcases List.mem_append.1 hj with hj | hj
    · exact .inr (h.eff j hj hr2)
    · simp at hj; exact .inl hj
  · rcases (hset j).1 hl with rfl | hl1
    · obtain ⟨y, hy, hyd⟩ := hj
      rw [ho] at hy; simp at hy; subst hy
      rw [hyd] at hu ⊢
      have hlt := getF_lt hu
      rw [len_put, h.len] at hlt
      rw [getF_put_self hu]
      exact ⟨v', put_self v' (Nat.lt_of_lt_of_le hlt h.tmps), hv⟩
    · have : o.dst ≠ some t := fun hd => by have := hself t hd j hj; subst this; exact hnl hl1
      rw [getF_put_ne this] at hu
      rw [put_ne v' this]
      obtain ⟨u', h1, h2⟩ := h.f1 t j hj hl1 u hu
      exact ⟨u', h1, h2.mono hx.le⟩
  · have : o.dst ≠ some t := fun hd => ht i ⟨o, ho, hd⟩ ((hset i).2 (.inl rfl))
    rw [put_ne v' this]
    obtain ⟨u', h1, h2⟩ := h.f2 t (fun j hj hl => ht j hj ((hset j).2 (.inr hl))) u hu
    exact ⟨u', h1, h2.mono hx.le⟩
  · have : o.dst ≠ some t := fun hd => ht i ⟨o, ho, hd⟩ (by simp)
    rw [getF_put_ne this]
    exact h.f3 t fun j hj hd => ht j hj (by simp [hd])
  · have hl0 : ¬ Lst listed j := fun q => hl ((hset j).2 (.inr q))
    have hji : j ≠ i := fun q => hl ((hset j).2 (.inl q))
    have hjd : j ∈ done := by
      rcases List.mem_append.1 hj with hj | hj
      · exact hj
      · simp at hj; exact absurd hj hji
    have hbef : (b.getD j 0).testBit i = false := (hp.2.2 j hjd i (by simp)).2.1
    have hnb : (b.getD i 0).testBit j = false := by
      cases hq : (b.getD i 0).testBit j with
      | false => rfl
      | true => exact absurd (hpre j hq) hl0
    refine (h.pend j hjd hl0).move (i := i) (fun t hd o' ho' => ⟨fun _ => hbef, fun hd' => ?_⟩) hself (fun c hc hlt => hH j c hc hnb hlt) hgr.len (fun _ hx => hx) (fun n hn => ⟨hn, (h.nbl j n hn).1⟩) hx.old
    exact (st.apart i j o o' t ho ho' hd' (fun q => hji q.symm)).2 hd
  · have := h.nbl j n hj
    exact ⟨Nat.lt_of_lt_of_le this.1 hgr.len, this.2.1, by simp [this.2.2]⟩
theorem Inv.late (st : DrawSt E.pol ops b s) (hbits : b = Region.before ops) {i : Nat} (h : Inv E orc ops b s B ι0 fr0 H0 w0 k r done l fr H memo nb listed a w ι) {o : Oper} (ho : ops[i]? = some o)
    (hr : ∀ e ∈ o.after.toList, Region.binds .any e = true → Lst listed e.on) (hid : i ∈ done) (hnl : ¬ Lst listed i) {v v' : Value} {w' : World} {ι' : Emb}
    (hdst : ∀ t, o.dst = some t → ∀ u, getF fr t = some u → u = v) (hx : ι.le ι') (hx0 : Ext H0.len ι ι') (hold : ∀ j n, j ≠ i → nb j = some n → ι n = none → ι' n = none) (hhr : HR B ι' H w') (hv : VR ι' v v') (hb : Below B w w') :
    Inv E orc ops b s B ι0 fr0 H0 w0 k r done l fr H memo nb (listed.setIfInBounds i true) (a.put o.dst v') w' ι' := by
  have hi : i < listed.size := by rw [h.size]; exact (Array.getElem?_eq_some_iff.1 ho).1
  have hset := fun j => lst_set (j := j) hi
  have hself : ∀ t, o.dst = some t → ∀ j, WR ops t j → j = i := by
    intro t hd j ⟨y, hy, hyd⟩
    by_cases e : j = i
    · exact e
    · exact absurd hd (st.apart i j o y t ho hy hyd (fun q => e q.symm)).2
  have hpre := h.preds st hbits ho hr
  refine ⟨h.ev, h.split, by simp [h.size], fun j hj => ?_, fun j m hj hbm => ?_, fun j hj hr2 => ?_, hhr, h.ext.trans hx0 (Nat.le_refl _), h.bel.trans hb, h.grow, fun t j hj hl u hu => ?_, fun t ht u hu => ?_, h.f3, h.len, by rw [(put_tmps _ _).1]; exact h.tmps, by rw [(put_tmps _ _).2]; exact h.defers, fun j hj hl => ?_, h.nbi, h.nbl⟩
  · rcases (hset j).1 hj with rfl | hj
    · exact hid
    · exact h.sub j hj
  · rw [hset]
    rcases (hset j).1 hj with rfl | hj
    · exact .inr (hpre m hbm)
    · exact .inr (h.down j m hj hbm)
  · rw [hset]; exact .inr (h.eff j hj hr2)
  · rcases (hset j).1 hl with rfl | hl1
    · obtain ⟨y, hy, hyd⟩ := hj
      rw [ho] at hy; simp at hy; subst hy
      rw [hyd]
      have hlt := getF_lt hu
      rw [h.len] at hlt
      rw [hdst t hyd u hu]
      exact ⟨v', put_self v' (Nat.lt_of_lt_of_le hlt h.tmps), hv⟩
    · have : o.dst ≠ some t := fun hd => by have := hself t hd j hj; subst this; exact hnl hl1
      rw [put_ne v' this]
      obtain ⟨u', h1, h2⟩ := h.f1 t j hj hl1 u hu
      exact ⟨u', h1, h2.mono hx⟩
  · have : o.dst ≠ some t := fun hd => ht i ⟨o, ho, hd⟩ ((hset i).2 (.inl rfl))
    rw [put_ne v' this]
    obtain ⟨u', h1, h2⟩ := h.f2 t (fun j hj hl => ht j hj ((hset j).2 (.inr hl))) u hu
    exact ⟨u', h1, h2.mono hx⟩
  · have hl0 : ¬ Lst listed j := fun q => hl ((hset j).2 (.inr q))
    have hji : j ≠ i := fun q => hl ((hset j).2 (.inl q))
    obtain ⟨o', fi, u, q1, q2, q3, q4, q5⟩ := h.pend j hj hl0
    refine ⟨o', fi, u, q1, q2, q3, q4, ?_⟩
    rcases q5 with ⟨g, q5⟩ | q5
    · refine .inl ⟨g, ?_⟩
      rcases q5 with q5 | q5 | q5 | ⟨x, mk, n, r1, r2, r3, r4, r5, r6⟩
      · exact .inl q5
      · exact .inr (.inl q5)
      · exact .inr (.inr (.inl q5))
      · exact .inr (.inr (.inr ⟨x, mk, n, r1, r2, r3, r4, r5, hold j n hji r5 r6⟩))
    · exact .inr q5
theorem countP_lt {p q : Nat → Bool} : ∀ (l : List Nat), (∀ x, q x = true → p x = true) → (∃ x ∈ l, p x = true ∧ q x = false) → l.countP q < l.countP p := by
  intro l
  induction l with
  | nil => intro _ ⟨x, hx, _⟩; cases hx
  | cons y l ih =>
    intro h ⟨x, hx, h1, h2⟩
    have hle : l.countP q ≤ l.countP p := List.countP_mono_left (fun z _ => h z)
    simp only [List.countP_cons]
    rcases List.mem_cons.1 hx with rfl | hx
    · simp [h1, h2]; omega
    · have := ih h ⟨x, hx, h1, h2⟩
      cases hq : q y
      · simp; omega
      · simp [h y hq]; omega
theorem mem_ready {i : Nat} (hs : listed.size = ops.size) (h : i ∈ Region.ready .any ops listed) :
    ∃ o, ops[i]? = some o ∧ ¬ Lst listed i ∧ ∀ e ∈ o.after.toList, Region.binds .any e = true → Lst listed e.on := by
  unfold Region.ready at h
  simp only [List.mem_filter, List.mem_range, Bool.and_eq_true, Bool.not_eq_true'] at h
  obtain ⟨hi, h1, h2⟩ := h
  refine ⟨ops[i], by simp [hi], ?_, ?_⟩
  · unfold Lst
    rw [Array.getD_eq_getD_getElem?] at h1 ⊢
    have : listed[i]? = some listed[i] := by simp [hs, hi]
    rw [this] at h1 ⊢
    simp at h1 ⊢
    exact h1
  · have e1 : ops[i]? = some ops[i] := by simp [hi]
    rw [e1] at h2
    simp only [Option.map_some, Option.getD_some, Array.all_eq_true_iff_forall_mem, Bool.or_eq_true, Bool.not_eq_true'] at h2
    intro e he hb
    rcases h2 e (by simpa using he) with q | q
    · rw [hb] at q; cases q
    · exact q
theorem Inv.finish (st : DrawSt E.pol ops b s) (h : Inv E orc ops b s B ι0 fr0 H0 w0 k r done l fr H memo nb listed a w ι) (hall : ∀ i, i < ops.size → Lst listed i) {Q : Act → World → Prop} (hpost : Post B ι0 H0 w0 k r Q) : Q a w := by
  have hl : l = [] := by
    cases l with
    | nil => rfl
    | cons x l =>
      obtain ⟨h1, h2⟩ := h.unlisted st
      exact absurd (hall x (st.lt x (by rw [h.split]; simp))) h2
  subst hl
  have hev : k fr H = some r := h.ev
  refine hpost fr H ι a w hev h.grow h.ext h.hr ⟨fun t v hv => ?_, by rw [h.len]; exact h.tmps, h.defers⟩ h.bel
  by_cases hw : ∃ j, WR ops t j
  · obtain ⟨j, hj⟩ := hw
    have hj' := hj
    obtain ⟨y, hy, _⟩ := hj'
    exact h.f1 t j hj (hall j (Array.getElem?_eq_some_iff.1 hy).1) v hv
  · rw [h.f3 t (fun j hj => absurd ⟨j, hj⟩ hw)] at hv
    exact h.f2 t (fun j hj => absurd ⟨j, hj⟩ hw) v hv
theorem ready_nil (st : DrawSt E.pol ops b s) (hs : listed.size = ops.size) (h : Region.ready .any ops listed = []) : ∀ i, i < ops.size → Lst listed i := by
  intro i
  induction i using Nat.strongRecOn with
  | _ i ih =>
    intro hi
    have ho : ops[i]? = some ops[i] := by simp [hi]
    cases hl : listed.getD i false with
    | true => exact hl
    | false =>
      exfalso
      have : i ∈ Region.ready .any ops listed := by
        unfold Region.ready
        simp only [List.mem_filter, List.mem_range, Bool.and_eq_true, Bool.not_eq_true']
        refine ⟨hi, ?_, ?_⟩
        · rw [Array.getD_eq_getD_getElem?] at hl ⊢
          have : listed[i]? = some listed[i] := by simp [hs, hi]
          rw [this] at hl ⊢
          simpa using hl
        · rw [ho]
          simp only [Option.map_some, Option.getD_some, Array.all_eq_true_iff_forall_mem, Bool.or_eq_true, Bool.not_eq_true']
          intro e he
          cases hb : Region.binds .any e with
          | false => exact .inl rfl
          | true =>
            have hlt := st.edge i _ ho e (by simpa using he) hb
            exact .inr (ih e.on hlt (by omega))
      rw [h] at this; cases this
theorem draw_main (hE : EnvOk E) (hO : OrcOk E orc) (st : DrawSt E.pol ops b s) (hbits : b = Region.before ops) {Q : Exit → Act → World → Prop} (hpost : Post B ι0 H0 w0 k r (Q .normal)) : ∀ (fuel : Nat)
    {done l : List Nat} {fr : Frame} {H : AH} {memo : List (Nat × Nat)} {nb : Nat → Option Nat} {listed : Array Bool} {a : Act} {w : World} {ι : Emb},
    Inv E orc ops b s B ι0 fr0 H0 w0 k r done l fr H memo nb listed a w ι → (List.range ops.size).countP (fun i => !listed.getD i false) ≤ fuel →
    wpAny E.P .any ops Q fuel listed a w := by
  intro fuel
  induction fuel with
  | zero =>
    intro done l fr H memo nb listed a w ι h hc
    have hall : ∀ i, i < ops.size → Lst listed i := by
      intro i hi
      have := List.countP_eq_zero.1 (Nat.le_zero.1 hc) i (List.mem_range.2 hi)
      simpa [Lst] using this
    refine ⟨?_, h.finish st hall hpost⟩
    rw [List.eq_nil_iff_forall_not_mem]
    intro i hi
    obtain ⟨o, ho, hnl, _⟩ := mem_ready h.size hi
    exact hnl (hall i (Array.getElem?_eq_some_iff.1 ho).1)
  | succ fuel ih =>
    intro done l fr H memo nb listed a w ι h hc
    refine ⟨fun hnil => h.finish st (ready_nil st h.size hnil) hpost, fun i hi => ?_⟩
    obtain ⟨o, ho, hnl, hedge⟩ := mem_ready h.size hi
    obtain ⟨done, l, fr, H, memo, nb, h, hhead⟩ := h.settle hE hO st hbits
    have hin : i < ops.size := (Array.getElem?_eq_some_iff.1 ho).1
    have hil : i < listed.size := by rw [h.size]; exact hin
    have hpre := h.preds st hbits ho hedge
    have hcount : (List.range ops.size).countP (fun j => !(listed.setIfInBounds i true).getD j false) ≤ fuel := by
      have := countP_lt (p := fun j => !listed.getD j false) (q := fun j => !(listed.setIfInBounds i true).getD j false) (List.range ops.size) (fun x hx => by
          have hx' : ¬ Lst (listed.setIfInBounds i true) x := by simpa [Lst] using hx
          have : ¬ Lst listed x := fun q => hx' ((lst_set hil).2 (.inr q))
          simpa [Lst] using this) ⟨i, List.mem_range.2 hin, by simpa [Lst] using hnl, by
          have : Lst (listed.setIfInBounds i true) i := (lst_set hil).2 (.inl rfl)
          unfold Lst at this; rw [this]; rfl⟩
      omega
    have hp := st.pairs
    rw [h.split, List.pairwise_append] at hp
    show wpOp E.P ops Q i (wpAny E.P .any ops Q fuel (listed.setIfInBounds i true)) a w
    unfold wpOp
    rw [ho]
    simp only []
    by_cases hd : i ∈ done
    · -- it was passed
      obtain ⟨o', fi, v, q1, q2, q3, q4, q5⟩ := h.pend i hd hnl
      rw [ho] at q1; simp at q1; subst q1
      have reads : ∀ t ∈ readsOf ops o, ∀ u, getF fi t = some u → ∃ v', a.tmps[t]? = some v' ∧ VR ι u v' := by
        intro t ht u hu
        by_cases hw : ∃ j, WR ops t j ∧ (b.getD i 0).testBit j = true
        · obtain ⟨j, hj, hjb⟩ := hw
          rw [(q3 t ht).1 j hj hjb] at hu
          exact h.f1 t j hj (hpre j hjb) u hu
        · rw [(q3 t ht).2 (fun j hj => by cases hq : (b.getD i 0).testBit j with | false => rfl | true => exact absurd ⟨j, hj, hq⟩ hw)] at hu
          refine h.f2 t (fun j hj hl => ?_) u hu
          rcases st.hang ho ht hj hbits with e | e | e
          · subst e; exact hnl hl
          · exact hw ⟨j, hj, e⟩
          · exact hnl (h.down j i hl e)
      have hars : ARs ι fi a o := ars_of (fun t ht => reads t (tmps_reads ht))
      rcases q5 with ⟨hg, q5⟩ | ⟨hg, rfl⟩
      · rw [wanted_of hg reads, if_pos rfl]
        left
        rcases q5 with q5 | q5 | ⟨H1, r1, r2⟩ | ⟨x, mk, n, r1, r2, r3, r4, r5, r6⟩
        · exact q5 B ι H a w h.hr hars _ _ (fun v' w' s1 s2 s3 => ih (h.late st hbits ho hedge hd hnl q4 (Emb.le_refl _) (Ext.refl _ _) (fun _ _ _ _ hn => hn) s1 s2 s3) hcount)
        · obtain ⟨v', s1, s2⟩ := q5 ι a w hars
          exact wp_value s1 (ih (h.late st hbits ho hedge hd hnl q4 (Emb.le_refl _) (Ext.refl _ _) (fun _ _ _ _ hn => hn) h.hr s2 (Below.refl _ _)) hcount)
        · obtain ⟨v', s1, s2⟩ := r1 B ι H a w h.hr hars (fun c hc => (r2 c hc).1)
          exact wp_value s1 (ih (h.late st hbits ho hedge hd hnl q4 (Emb.le_refl _) (Ext.refl _ _) (fun _ _ _ _ hn => hn) h.hr s2 (Below.refl _ _)) hcount)
        · obtain ⟨o2, v', s1, s2⟩ := r1 ι a w hars
          obtain ⟨s3, s4⟩ := s2 n r6
          subst r2
          have hnlt := h.nbl i n r5
          refine wp_value s1 (ih (h.late st hbits ho hedge hd hnl q4 (Emb.set_le r6) ?_ (fun j m hj hm hn => ?_) (h.hr.bind r3 r6 o2 s3) s4 (below_push w o2 B h.hr.size)) hcount)
          · exact Ext.set hnlt.2.1 r6 _
          · rw [Emb.set_ne (fun e => by subst e; exact hj (h.nbi j i m hm r5))]
            exact hn
      · rw [wanted_of hg reads, if_neg (by simp)]
        exact ih (h.late st hbits ho hedge hd hnl q4 (Emb.le_refl _) (Ext.refl _ _) (fun _ _ _ _ hn => hn) h.hr (undefR ι) (Below.refl _ _)) hcount
    · -- it is the next effect
      have hil2 : i ∈ l := by
        have := st.all i hin
        rw [h.split, List.mem_append] at this
        exact this.resolve_left hd
      cases l with
      | nil => cases hil2
      | cons x l =>
        have hx2 := hhead x rfl
        have hxi : x = i := by
          rcases List.mem_cons.1 hil2 with e | e
          · exact e.symm
          · have := ((List.pairwise_cons.1 hp.2.1).1 i e).2.2
            rcases this with q | q
            · omega
            · exact absurd (h.sub x (hpre x q)) (h.unlisted st).1
        subst hxi
        obtain ⟨o', ho', hg⟩ := h.draw_cons
        rw [ho] at ho'; simp at ho'; subst ho'
        have hrk : 2 ≤ rankP E.pol o.op := by rw [← rankAt_of ho]; exact hx2
        have reads : ∀ t ∈ readsOf ops o, ∀ u, getF fr t = some u → ∃ v', a.tmps[t]? = some v' ∧ VR ι u v' := by
          intro t ht u hu
          by_cases hw : ∃ j, WR ops t j ∧ Lst listed j
          · obtain ⟨j, hj, hl⟩ := hw
            exact h.f1 t j hj hl u hu
          · rw [h.f3 t (fun j hj hjd => ?_)] at hu
            · exact h.f2 t (fun j hj hl => hw ⟨j, hj, hl⟩) u hu
            · rcases st.hang ho ht hj hbits with e | e | e
              · subst e; exact hd hjd
              · exact hw ⟨j, hj, hpre j e⟩
              · have := (hp.2.2 j hjd x (by simp)).2.1
                rw [this] at e; cases e
        have hars : ARs ι fr a o := ars_of (fun t ht => reads t (tmps_reads ht))
        rcases guardK_cases hg with ⟨hgt, hrun⟩ | ⟨hgf, hskip⟩
        · rw [wanted_of hgt reads, if_pos rfl]
          left
          match hr0 : rankP E.pol o.op, hrun with
          | 0, hrun => omega
          | 1, hrun => omega
          | n + 2, hrun =>
            obtain ⟨v, H1, g1, g2, g3⟩ := op_okN hE hO hrun
            refine g3 B ι a w (h.hr.locks _) hars _ Q (fun ι' v' w' x1 x2 x3 x4 => ih (h.effect st hbits ho hedge g1 g2.locked (fun j c hm hb hlt => ?_) x1 (x2.locks _) x3 x4) hcount)
            refine g2.kept c hlt ?_
            simp only [AH.wok, AH.withLock, Bool.and_eq_false_iff, Bool.not_eq_false']
            right
            rw [List.contains_iff_mem, List.mem_append, List.mem_filterMap]
            exact .inl ⟨(j, c), hm, by simp only [hb]; rfl⟩
        · rw [wanted_of hgf reads, if_neg (by simp)]
          exact ih (h.effect st hbits ho hedge hskip (Grow.refl _) (fun _ _ _ _ _ => rfl) (Ext.refl _ _) h.hr (undefR ι) (Below.refl _ _)) hcount
structure LitSt (ops : Array Oper) (b : Array Nat) : Prop where
  edge : ∀ (i : Nat) (o : Oper), ops[i]? = some o → ∀ e ∈ o.after.toList, Region.binds .any e = true → e.on < i
  reads : ∀ (i j : Nat) (x y : Oper) (t : Tmp), ops[i]? = some x → ops[j]? = some y → y.dst = some t → t ∈ tmpsOf x → (b.getD i 0).testBit j = true
  apart : ∀ (i j : Nat) (x y : Oper) (t : Tmp), ops[i]? = some x → ops[j]? = some y → y.dst = some t → i ≠ j → x.dst ≠ some t
theorem litOk_st {ops : Array Oper} (h : litOk ops = true) : LitSt ops (Region.before ops) ∧
    ∃ o0 l t0 m, ops.toList = o0 :: l ∧ o0.guard = none ∧ o0.op = .makeMap t0 none ∧ o0.dst = some m ∧ ∀ o ∈ l, litOp t0 m o = true := by
  simp only [litOk, Bool.and_eq_true] at h
  obtain ⟨h1, h2⟩ := h
  have hall : ∀ (i : Nat) (o : Oper), ops[i]? = some o → edgeOk ops i o = true ∧ ∀ (j : Nat) (y : Oper), ops[j]? = some y → litApart (Region.before ops) i o j y = true := by
    intro i o ho
    have hi := (Array.getElem?_eq_some_iff.1 ho).1
    have := List.all_eq_true.1 h2 i (List.mem_range.2 hi)
    rw [ho] at this
    simp only [Bool.and_eq_true] at this
    refine ⟨this.1, fun j y hy => ?_⟩
    have hj := (Array.getElem?_eq_some_iff.1 hy).1
    have := List.all_eq_true.1 this.2 j (List.mem_range.2 hj)
    rw [hy] at this
    exact this
  refine ⟨⟨fun i o ho e he hb => ?_, fun i j x y t hx hy hd ht => ?_, fun i j x y t hx hy hd hne hxd => ?_⟩, ?_⟩
  · have := (hall i o ho).1
    simp only [edgeOk, Bool.and_eq_true] at this
    have := List.all_eq_true.1 this.1 e he
    rw [hb] at this
    simpa [Nat.blt_eq] using this
  · have := (hall i x hx).2 j y hy
    unfold litApart at this
    rw [hd] at this
    simp only [Bool.and_eq_true, Bool.or_eq_true, Bool.not_eq_true'] at this
    rcases this.1 with q | q
    · rw [List.contains_iff_mem.2 ht] at q; cases q
    · exact q
  · have := (hall i x hx).2 j y hy
    unfold litApart at this
    rw [hd, hxd] at this
    simp only [Bool.and_eq_true, Bool.or_eq_true, Bool.not_eq_true'] at this
    rcases this.2 with q | q
    · exact hne (Nat.eq_of_beq_eq_true q)
    · simp at q
  · generalize hl : ops.toList = l at h1
    cases l with
    | nil => cases h1
    | cons o0 l =>
      simp only [Bool.and_eq_true] at h1
      obtain ⟨g1, g2⟩ := h1
      obtain ⟨dst, op, type, pos, after, guard⟩ := o0
      cases op <;> simp only [] at g2 <;> first | (cases g2; done) | skip
      rename_i t0 re
      simp only [Bool.and_eq_true] at g2
      obtain ⟨g2, g3⟩ := g2
      cases re with
      | some _ => cases g2
      | none =>
        cases dst with
        | none => cases g3
        | some m => exact ⟨_, l, t0, m, rfl, by simpa using g1, rfl, rfl, fun o ho => List.all_eq_true.1 g3 o ho⟩
theorem nodup_of_map {α β : Type} {f : α → β} : ∀ {l : List α}, (l.map f).Nodup → l.Nodup
  | [], _ => List.nodup_nil
  | x :: l, h => by
    rw [List.map_cons, List.nodup_cons] at h
    exact List.nodup_cons.2 ⟨fun hx => h.1 (List.mem_map.2 ⟨x, hx, rfl⟩), nodup_of_map h.2⟩
theorem nodup_inj {α β : Type} {f : α → β} : ∀ {l : List α}, (l.map f).Nodup → ∀ {a b : α}, a ∈ l → b ∈ l → f a = f b → a = b
  | [], _, a, b, ha, _, _ => by cases ha
  | x :: l, h, a, b, ha, hb, e => by
    rw [List.map_cons, List.nodup_cons] at h
    rcases List.mem_cons.1 ha with q1 | ha
    · rcases List.mem_cons.1 hb with q2 | hb
      · rw [q1, q2]
      · exact absurd (List.mem_map.2 ⟨b, hb, by rw [← e, q1]⟩) h.1
    · rcases List.mem_cons.1 hb with q2 | hb
      · exact absurd (List.mem_map.2 ⟨a, ha, by rw [e, q2]⟩) h.1
      · exact nodup_inj h.2 ha hb e
structure LInv (E : Env) (ops : Array Oper) (b : Array Nat) (Ff : Frame) (L : List (Nat × Value × Value)) (B : Nat) (ι0 : Emb) (H0 : AH) (w0 : World) (listed : Array Bool) (a : Act) (w : World) (ι : Emb) : Prop where
  size : listed.size = ops.size
  down : ∀ i j, Lst listed i → (b.getD i 0).testBit j = true → Lst listed j
  ext : Ext H0.len ι0 ι
  bel : Below B w0 w
  f : ∀ t, (∀ j, WR ops t j → Lst listed j) → ∀ v, getF Ff t = some v → ∃ v', a.tmps[t]? = some v' ∧ VR ι v v'
  tmps : Ff.length ≤ a.tmps.size
  defers : a.defers = []
  mem : (¬ Lst listed 0 ∧ HR B ι H0 w) ∨ (Lst listed 0 ∧ ∃ D : List (Nat × Value × Value), (∀ x, x ∈ D ↔ x ∈ L ∧ Lst listed x.1) ∧ (D.map (·.2.1)).Nodup ∧ HR B ι (H0.push (.map (D.map (·.2)))) w)
theorem ready_none {ops : Array Oper} {listed : Array Bool} (hedge : ∀ (i : Nat) (o : Oper), ops[i]? = some o → ∀ e ∈ o.after.toList, Region.binds .any e = true → e.on < i) (hs : listed.size = ops.size) (h : Region.ready .any ops listed = []) : ∀ i, i < ops.size → Lst listed i := by
  intro i
  induction i using Nat.strongRecOn with
  | _ i ih =>
    intro hi
    have ho : ops[i]? = some ops[i] := by simp [hi]
    cases hl : listed.getD i false with
    | true => exact hl
    | false =>
      exfalso
      have : i ∈ Region.ready .any ops listed := by
        unfold Region.ready
        simp only [List.mem_filter, List.mem_range, Bool.and_eq_true, Bool.not_eq_true']
        refine ⟨hi, ?_, ?_⟩
        · rw [Array.getD_eq_getD_getElem?] at hl ⊢
          have : listed[i]? = some listed[i] := by simp [hs, hi]
          rw [this] at hl ⊢
          simpa using hl
        · rw [ho]
          simp only [Option.map_some, Option.getD_some, Array.all_eq_true_iff_forall_mem, Bool.or_eq_true, Bool.not_eq_true']
          intro e he
          cases hb : Region.binds .any e with
          | false => exact .inl rfl
          | true =>
            have hlt := hedge i _ ho e (by simpa using he) hb
            exact .inr (ih e.on hlt (by omega))
      rw [h] at this; cases this
theorem bit_lt' {ops : Array Oper} (hedge : ∀ (i : Nat) (o : Oper), ops[i]? = some o → ∀ e ∈ o.after.toList, Region.binds .any e = true → e.on < i) : ∀ i, i < ops.size → ∀ j, ((Region.before ops).getD i 0).testBit j = true → j < i := by
  intro i
  induction i using Nat.strongRecOn with
  | _ i ih =>
    intro hi j hj
    have ho : ops[i]? = some ops[i] := by simp [hi]
    rw [before_bits ops i _ ho (fun e he hb => hedge i _ ho e he hb)] at hj
    obtain ⟨e, he, hb, h⟩ := hj
    have hlt := hedge i _ ho e he hb
    rcases h with h | h
    · omega
    · have := ih e.on hlt (by omega) j h; omega
structure LitAll (E : Env) (ops : Array Oper) (t0 m kt : Nat) (H0 : AH) (Ff : Frame) (L : List (Nat × Value × Value)) : Prop where
  und : ∃ et, E.P.underlying t0 = some (.map kt et)
  first : ∃ o0, ops[0]? = some o0 ∧ o0.guard = none ∧ o0.op = .makeMap t0 none ∧ o0.dst = some m
  slot : ∀ u, getF Ff m = some u → u = .map (some H0.len)
  fact : ∀ i o, i ≠ 0 → ops[i]? = some o → o.guard = none ∧ ∃ fi : Frame, (∀ t ∈ tmpsOf o, getF fi t = getF Ff t) ∧
    ((isIns o = false ∧ ∃ v, Pures E o fi v ∧ ∀ t, o.dst = some t → ∀ u, getF Ff t = some u → u = v) ∨
     (isIns o = true ∧ o.dst = none ∧ ∃ kx vx key v, o.op = .insert t0 (.tmp m) kx vx ∧ arg fi kx = some key ∧ arg fi vx = some v ∧ keyFit E.T kt key = true ∧ getF fi m = some (.map (some H0.len)) ∧ H0.floor ≤ H0.len ∧ (i, key, v) ∈ L))
  fit : ∀ x ∈ L, keyFit E.T kt x.2.1 = true
  idx : ∀ x ∈ L, x.1 ≠ 0 ∧ ∃ o kx vx, ops[x.1]? = some o ∧ o.op = .insert t0 (.tmp m) kx vx
  uniq : (L.map (·.1)).Nodup
  keys : (L.map (·.2.1)).Nodup
theorem lit_main (hE : EnvOk E) {ops : Array Oper} {t0 m kt : Nat} {H0 : AH} {Ff : Frame} {L : List (Nat × Value × Value)} (st : LitSt ops (Region.before ops)) (al : LitAll E ops t0 m kt H0 Ff L) {B : Nat} {ι0 : Emb} {w0 : World} {Q : Exit → Act → World → Prop}
    (hpost : ∀ ι a w, Ext H0.len ι0 ι → HR B ι (H0.push (.map (L.map (·.2)))) w → FR ι Ff a → Below B w0 w → Q .normal a w) : ∀ (fuel : Nat) {listed : Array Bool} {a : Act} {w : World} {ι : Emb},
    LInv E ops (Region.before ops) Ff L B ι0 H0 w0 listed a w ι → (List.range ops.size).countP (fun i => !listed.getD i false) ≤ fuel → wpAny E.P .any ops Q fuel listed a w := by
  obtain ⟨et, hund⟩ := al.und
  obtain ⟨o0, ho0, hg0, hop0, hd0⟩ := al.first
  have h0lt : 0 < ops.size := (Array.getElem?_eq_some_iff.1 ho0).1
  have finish : ∀ {listed : Array Bool} {a : Act} {w : World} {ι : Emb}, LInv E ops (Region.before ops) Ff L B ι0 H0 w0 listed a w ι → (∀ i, i < ops.size → Lst listed i) → Q .normal a w := by
    intro listed a w ι h hall
    rcases h.mem with ⟨q, _⟩ | ⟨_, D, d1, d2, d3⟩
    · exact absurd (hall 0 h0lt) q
    · refine hpost ι a w h.ext (d3.perm ?_) ⟨fun t v hv => h.f t (fun j hj => hall j ?_) v hv, h.tmps, h.defers⟩ h.bel
      · refine List.Perm.map _ ?_
        have nd : D.Nodup := by
          have := d2
          exact nodup_of_map this
        have nl : L.Nodup := nodup_of_map al.keys
        refine (List.perm_ext_iff_of_nodup nd nl).2 fun x => ?_
        rw [d1]
        refine ⟨fun q => q.1, fun q => ⟨q, hall _ ?_⟩⟩
        obtain ⟨_, o, _, _, ho, _⟩ := al.idx x q
        exact (Array.getElem?_eq_some_iff.1 ho).1
      · obtain ⟨y, hy, _⟩ := hj
        exact (Array.getElem?_eq_some_iff.1 hy).1
  intro fuel
  induction fuel with
  | zero =>
    intro listed a w ι h hc
    have hall : ∀ i, i < ops.size → Lst listed i := by
      intro i hi
      have := List.countP_eq_zero.1 (Nat.le_zero.1 hc) i (List.mem_range.2 hi)
      simpa [Lst] using this
    refine ⟨?_, finish h hall⟩
    rw [List.eq_nil_iff_forall_not_mem]
    intro i hi
    obtain ⟨o, ho, hnl, _⟩ := mem_ready h.size hi
    exact hnl (hall i (Array.getElem?_eq_some_iff.1 ho).1)
  | succ fuel ih =>
    intro listed a w ι h hc
    refine ⟨fun hnil => finish h (ready_none st.edge h.size hnil), fun i hi => ?_⟩
    obtain ⟨o, ho, hnl, hedge⟩ := mem_ready h.size hi
    have hin : i < ops.size := (Array.getElem?_eq_some_iff.1 ho).1
    have hil : i < listed.size := by rw [h.size]; exact hin
    have hpre : ∀ j, ((Region.before ops).getD i 0).testBit j = true → Lst listed j := by
      intro j hj
      have hj' := hj
      rw [before_bits ops i o ho (fun e he hb => st.edge i o ho e he hb)] at hj'
      obtain ⟨e, he, hb, h1⟩ := hj'
      rcases h1 with h1 | h1
      · rw [← h1]; exact hedge e he hb
      · exact h.down e.on j (hedge e he hb) h1
    have hcount : (List.range ops.size).countP (fun j => !(listed.setIfInBounds i true).getD j false) ≤ fuel := by
      have := countP_lt (p := fun j => !listed.getD j false) (q := fun j => !(listed.setIfInBounds i true).getD j false) (List.range ops.size) (fun x hx => by
          have hx' : ¬ Lst (listed.setIfInBounds i true) x := by simpa [Lst] using hx
          have : ¬ Lst listed x := fun q => hx' ((lst_set hil).2 (.inr q))
          simpa [Lst] using this) ⟨i, List.mem_range.2 hin, by simpa [Lst] using hnl, by
          have : Lst (listed.setIfInBounds i true) i := (lst_set hil).2 (.inl rfl)
          unfold Lst at this; rw [this]; rfl⟩
      omega
    have hdown : ∀ x j, Lst (listed.setIfInBounds i true) x → ((Region.before ops).getD x 0).testBit j = true → Lst (listed.setIfInBounds i true) j := by
      intro x j hx hj
      rcases (lst_set hil).1 hx with rfl | hx
      · exact (lst_set hil).2 (.inr (hpre j hj))
      · exact (lst_set hil).2 (.inr (h.down x j hx hj))
    have hsize : (listed.setIfInBounds i true).size = ops.size := by simp [h.size]
    -- the slots behind the operation
    have slots : ∀ (ι' : Emb) (v' : Value), ι.le ι' → (∀ t, o.dst = some t → ∀ u, getF Ff t = some u → VR ι' u v') →
        ∀ t, (∀ j, WR ops t j → Lst (listed.setIfInBounds i true) j) → ∀ v, getF Ff t = some v → ∃ v'', (a.put o.dst v').tmps[t]? = some v'' ∧ VR ι' v v'' := by
      intro ι' v' hle hv t ht v hgv
      by_cases hd : o.dst = some t
      · refine ⟨v', ?_, hv t hd v hgv⟩
        rw [hd]
        exact put_self v' (Nat.lt_of_lt_of_le (getF_lt hgv) h.tmps)
      · obtain ⟨v'', q1, q2⟩ := h.f t (fun j hj => by
          rcases (lst_set hil).1 (ht j hj) with rfl | q
          · obtain ⟨y, hy, hyd⟩ := hj
            rw [ho] at hy
            obtain rfl := Option.some.inj hy
            exact absurd hyd hd
          · exact q) v hgv
        exact ⟨v'', by rw [put_ne v' hd]; exact q1, q2.mono hle⟩
    have tmps' : ∀ v', Ff.length ≤ (a.put o.dst v').tmps.size := fun v' => by rw [(put_tmps o.dst v').1]; exact h.tmps
    have defers' : ∀ v', (a.put o.dst v').defers = [] := fun v' => by rw [(put_tmps o.dst v').2]; exact h.defers
    -- what an operation names has been carried out
    have names : ∀ t ∈ tmpsOf o, ∀ u, getF Ff t = some u → ∃ v', a.tmps[t]? = some v' ∧ VR ι u v' := by
      intro t ht u hu
      refine h.f t (fun j hj => ?_) u hu
      obtain ⟨y, hy, hyd⟩ := hj
      exact hpre j (st.reads i j o y t ho hy hyd ht)
    show wpOp E.P ops Q i (wpAny E.P .any ops Q fuel (listed.setIfInBounds i true)) a w
    unfold wpOp
    rw [ho]
    simp only []
    by_cases hi0 : i = 0
    · subst hi0
      rw [ho0] at ho
      obtain rfl := Option.some.inj ho
      have hw : Region.wanted o0 (yielded ops a.tmps) = true := by simp [Region.wanted, hg0]
      rw [if_pos hw]
      left
      rcases h.mem with ⟨_, hr⟩ | ⟨q, _⟩
      · have hnone : ι H0.len = none := by
          cases hq : ι H0.len with
          | none => rfl
          | some j => have := hr.dom hq; simp [AH.len] at this
        have hmk : Makes E o0 Ff (.map []) (fun b => .map (some b)) := by
          intro ι a w ha
          refine ⟨.map #[] 0, .map (some w.heap.size), ?_, fun b hb => ⟨⟨#[], 0, by simp, MRp.nil _, .nil⟩, ?_⟩⟩
          · unfold execOp; rw [hop0]; simp [Instr.makeMap]
          · exact VR.map (ι := ι.set b ⟨w.heap.size, 0, 0⟩) b ⟨w.heap.size, 0, 0⟩ (Emb.set_same _ _ _)
        obtain ⟨o2, v', s1, s2⟩ := hmk ι a w (fun x hx => by rw [hop0] at hx; simp [Op.operands] at hx)
        obtain ⟨s3, s4⟩ := s2 H0.len hnone
        have hle := Emb.set_le (j := ⟨w.heap.size, 0, 0⟩) hnone
        refine wp_value s1 (ih ⟨hsize, hdown, h.ext.trans (Ext.set (Nat.le_refl _) hnone _) (Nat.le_refl _), h.bel.trans (below_push w o2 B hr.size), slots _ v' hle (fun t ht u hu => ?_), tmps' v', defers' v', ?_⟩ hcount)
        · rw [hd0] at ht
          obtain rfl := Option.some.inj ht
          rw [al.slot u hu]; exact s4
        · refine .inr ⟨(lst_set hil).2 (.inl rfl), [], fun x => ?_, List.nodup_nil, ?_⟩
          · constructor
            · intro q; cases q
            · rintro ⟨q1, q2⟩
              obtain ⟨r1, ox, kx, vx, r2, r3⟩ := al.idx x q1
              rcases (lst_set hil).1 q2 with q | q
              · exact absurd q r1
              · have : Lst listed 0 := h.down x.1 0 q (st.reads x.1 0 ox o0 m r2 ho0 hd0 (by simp [tmpsOf, r3, Op.operands]))
                exact absurd this hnl
          · exact (hr.push (.map [])).bind (b := H0.len) (x := .map []) (by rw [push_last, if_pos rfl]) hnone o2 s3
      · exact absurd q hnl
    · obtain ⟨hg, fi, f1, f2⟩ := al.fact i o hi0 ho
      have hw : Region.wanted o (yielded ops a.tmps) = true := by simp [Region.wanted, hg]
      rw [if_pos hw]
      left
      have hars : ARs ι fi a o := ars_of (fun t ht u hu => names t ht u (by rw [← f1 t ht]; exact hu))
      rcases f2 with ⟨hins, v, p1, p2⟩ | ⟨hins, hdn, kx, vx, key, v, p1, p2, p3, p4, p5, p6, p7⟩
      · obtain ⟨v', s1, s2⟩ := p1 ι a w hars
        refine wp_value s1 (ih ⟨hsize, hdown, h.ext, h.bel, slots ι v' (Emb.le_refl _) (fun t ht u hu => by rw [p2 t ht u hu]; exact s2), tmps' v', defers' v', ?_⟩ hcount)
        rcases h.mem with ⟨q1, q2⟩ | ⟨q1, D, d1, d2, d3⟩
        · refine .inl ⟨fun q => ?_, q2⟩
          rcases (lst_set hil).1 q with q | q
          · exact hi0 q.symm
          · exact q1 q
        · refine .inr ⟨(lst_set hil).2 (.inr q1), D, fun x => ?_, d2, d3⟩
          rw [d1]
          constructor
          · rintro ⟨r1, r2⟩; exact ⟨r1, (lst_set hil).2 (.inr r2)⟩
          · rintro ⟨r1, r2⟩
            refine ⟨r1, ?_⟩
            rcases (lst_set hil).1 r2 with q | q
            · obtain ⟨_, ox, kx, vx, r3, r4⟩ := al.idx x r1
              rw [q, ho] at r3
              obtain rfl := Option.some.inj r3
              unfold isIns at hins
              rw [r4] at hins
              cases hins
            · exact q
      · have hm0 : m ∈ tmpsOf o := by simp [tmpsOf, p1, Op.operands]
        have hl0 : Lst listed 0 := hpre 0 (st.reads i 0 o o0 m ho ho0 hd0 hm0)
        rcases h.mem with ⟨q1, _⟩ | ⟨_, D, d1, d2, d3⟩
        · exact absurd hl0 q1
        · have hops : o.op.operands = #[.tmp m, kx, vx] := by rw [p1]; rfl
          have e1 : VR ι (.map (some H0.len)) (a.eval (.tmp m)) := hars (.tmp m) (by rw [hops]; simp) _ p5
          have e2 : VR ι key (a.eval kx) := hars kx (by rw [hops]; simp) _ p2
          have e3 : VR ι v (a.eval vx) := hars vx (by rw [hops]; simp) _ p3
          obtain ⟨w', r1, r2, r3⟩ := lay_new hE.fits hund (b := H0.len) (H := H0.push (.map (D.map (·.2)))) (es := D.map (·.2)) (key := key) (v := v) (by rw [push_last, if_pos rfl]) p6 p4
            (by
              rw [List.all_eq_true]
              intro y hy
              obtain ⟨x, hx, rfl⟩ := List.mem_map.1 hy
              exact al.fit x ((d1 x).1 hx).1)
            (fun y hy e => by
              obtain ⟨x, hx, rfl⟩ := List.mem_map.1 hy
              obtain ⟨x1, x2⟩ := (d1 x).1 hx
              have := nodup_inj al.keys x1 p7 e
              rw [this] at x2
              exact hnl x2) d3 e1 e2 e3
          rw [push_put] at r2
          refine wp_skip' (w' := w') ?_ (ih ⟨hsize, hdown, h.ext, h.bel.trans r3, slots ι undef (Emb.le_refl _) (fun t ht => by rw [hdn] at ht; cases ht), tmps' _, defers' _, ?_⟩ hcount)
          · unfold execOp; rw [p1]; simp [r1]
          · refine .inr ⟨(lst_set hil).2 (.inr hl0), D ++ [(i, key, v)], fun x => ?_, ?_, by rw [List.map_append]; exact r2⟩
            · rw [List.mem_append, List.mem_singleton, d1]
              constructor
              · rintro (⟨x1, x2⟩ | rfl)
                · exact ⟨x1, (lst_set hil).2 (.inr x2)⟩
                · exact ⟨p7, (lst_set hil).2 (.inl rfl)⟩
              · rintro ⟨x1, x2⟩
                rcases (lst_set hil).1 x2 with q | q
                · exact .inr (nodup_inj al.uniq x1 p7 q)
                · exact .inl ⟨x1, q⟩
            · rw [List.map_append, List.nodup_append]
              refine ⟨d2, by simp, fun y hy z hz e => ?_⟩
              simp at hz
              obtain ⟨x, hx, rfl⟩ := List.mem_map.1 hy
              obtain ⟨x1, x2⟩ := (d1 x).1 hx
              have := nodup_inj al.keys x1 p7 (e.trans hz)
              rw [this] at x2
              exact hnl x2
theorem lit_ok (hE : EnvOk E) (hO : OrcOk E orc) {ops : Array Oper} (hl : litOk ops = true) {fr : Frame} {H : AH} {k : Frame → AH → Res} {r : Value × AH} (h : evLit E orc ops fr H k = some r)
    {B : Nat} {ι : Emb} {a : Act} {w : World} {Q : Exit → Act → World → Prop} (id : Nat) (hH : HR B ι H w) (hF : FR ι fr a) (hp : Post B ι H w k r (Q .normal)) : (Code.region id ops true).wp E.P Q a w := by
  obtain ⟨st, o0, l, t0, m, hops, hg0, hop0, hd0, hlit⟩ := litOk_st hl
  have hget : ∀ i, ops[i]? = (o0 :: l)[i]? := fun i => by rw [← hops]; exact Array.getElem?_toList.symm
  have ho0 : ops[0]? = some o0 := by rw [hget]; rfl
  unfold evLit at h
  rw [hops] at h
  obtain ⟨hpre, h⟩ := cond_some h
  simp only [litPre, hop0, hd0, Bool.and_eq_true] at hpre
  obtain ⟨hu, hmlt⟩ := hpre
  obtain ⟨kt, et, hu⟩ : ∃ kt et, E.T.und t0 = some (.map kt et) := by
    cases hq : E.T.und t0 with
    | none => rw [hq] at hu; cases hu
    | some d =>
      rw [hq] at hu
      cases d <;> simp only [] at hu <;> first | (cases hu; done) | exact ⟨_, _, rfl⟩
  have hmlt : m < fr.length := by simpa [Nat.blt_eq] using hmlt
  have h1 : guardR (o0 :: l) o0.guard fr (fun fr => sureK E.pol o0.op fr fun fr => evOpN E orc o0 fr H fun v H' => evOps E orc (o0 :: l) l (putF fr o0.dst v) H' fun fr' H' => cond (litDone H.len (o0 :: l) H') (k fr' H') none) (fun fr => evOps E orc (o0 :: l) l (putF fr o0.dst undef) H fun fr' H' => cond (litDone H.len (o0 :: l) H') (k fr' H') none) = some r := h
  rw [hg0] at h1
  have h2 : evOpN E orc o0 fr H (fun v H' => evOps E orc (o0 :: l) l (putF fr o0.dst v) H' fun fr' H' => cond (litDone H.len (o0 :: l) H') (k fr' H') none) = some r := sureK_ok h1
  have h3 : evOps E orc (o0 :: l) l (putF fr (some m) (.map (some H.len))) (H.push (.map [])) (fun fr' H' => cond (litDone H.len (o0 :: l) H') (k fr' H') none) = some r := by
    rw [hd0] at h2
    clear h h1 hops hget ho0 hlit hg0 hd0
    obtain ⟨dst, op, type, pos, after, guard⟩ := o0
    dsimp only at hop0
    subst hop0
    unfold evOpN at h2
    cases hdp : E.pol.deep with
    | true => rw [hdp, cond_true] at h2; exact h2
    | false =>
      rw [hdp, cond_false] at h2
      cases hn : E.pol.nrm with
      | true => rw [hn, cond_true] at h2; exact h2
      | false => rw [hn, cond_false] at h2; exact h2
  have hins0 : isIns o0 = false := by unfold isIns; rw [hop0]
  have hdst : ∀ o ∈ l, o.dst ≠ some m := fun o ho => (litOp_some (hlit o ho)).2.1
  have hgm : getF (putF fr (some m) (.map (some H.len))) m = some (.map (some H.len)) := by
    simp only [putF, setF_eq]
    rw [getF_eq, List.getElem?_set_self hmlt]
    rfl
  obtain ⟨Ff, es', b1, b2, b3, b4, b5⟩ := lit_trace hE (o0 :: l) (fl := H.floor) hu l 1 _ (H.push (.map [])) _ [] hlit h3 (by rw [push_last, if_pos rfl]) rfl hgm List.nodup_nil
  rw [push_put] at b1
  obtain ⟨hdone, b1⟩ := cond_some b1
  unfold litDone at hdone
  rw [getL_eq, push_last, if_pos rfl] at hdone
  have hlen : es'.length = ([] : List (Value × Value)).length + l.countP isIns := by
    have := Nat.eq_of_beq_eq_true hdone
    rw [List.countP_cons, hins0] at this
    simpa using this
  obtain ⟨L, c1, c2, c3, c4, c5⟩ := b5 hlen
  rw [List.nil_append] at c1
  subst c1
  have hl1 : ∀ j, ops[j + 1]? = l[j]? := fun j => by rw [hget]; simp
  have al : LitAll E ops t0 m kt H Ff L := by
    refine ⟨⟨et, hE.fits.und hu⟩, ⟨o0, ho0, hg0, hop0, hd0⟩, fun u hu' => ?_, fun i o hi ho => ?_, fun x hx => (c3 x hx).2.1, fun x hx => ?_, c4, by rw [List.map_map] at c2; exact c2⟩
    · rw [← b4 m hdst, hgm] at hu'
      exact (Option.some.inj hu').symm
    · obtain ⟨j, rfl⟩ : ∃ j, i = j + 1 := ⟨i - 1, by omega⟩
      have ho' : l[j]? = some o := by rw [← hl1]; exact ho
      have hin : j + 1 < ops.size := (Array.getElem?_eq_some_iff.1 ho).1
      obtain ⟨fi, f1, f2⟩ := c5 j o ho'
      refine ⟨(litOp_some (hlit o (List.mem_of_getElem? ho'))).1, fi, fun t ht => f1 t fun o' ho'' e => ?_, ?_⟩
      · obtain ⟨q, hq⟩ := List.getElem?_of_mem ho''
        rw [List.getElem?_drop] at hq
        have hb := st.reads (j + 1) (j + q + 1) o o' t ho (by rw [hl1]; exact hq) e ht
        have := bit_lt' st.edge (j + 1) hin _ hb
        omega
      · rcases f2 with ⟨e1, v, e2, e3⟩ | ⟨e1, e2, kx, vx, key, v, e3, e4, e5, e6, e7, e8, e9⟩
        · refine .inl ⟨e1, v, e2, fun t ht u hu' => e3 t ht (fun o' ho'' e => ?_) u hu'⟩
          obtain ⟨q, hq⟩ := List.getElem?_of_mem ho''
          rw [List.getElem?_drop] at hq
          exact st.apart (j + 1) (j + 1 + q + 1) o o' t ho (by rw [hl1]; exact hq) e (by omega) ht
        · exact .inr ⟨e1, e2, kx, vx, key, v, e3, e4, e5, e6, e7, e8, by rw [Nat.add_comm]; exact e9⟩
    · obtain ⟨d1, d2, o, d3, d4⟩ := c3 x hx
      refine ⟨by omega, o, ?_⟩
      rcases (litOp_some (hlit o (List.mem_of_getElem? d3))).2.2 with ⟨kx, vx, e1, _, _⟩ | ⟨e1, _⟩
      · exact ⟨kx, vx, by rw [← d3, ← hl1]; congr 1; omega, e1⟩
      · rw [d4] at e1; cases e1
  refine wp_region_any hE.mixed ?_
  have hgetD : ∀ i, (Array.replicate ops.size false).getD i false = false := by intro i; simp [Array.getElem?_replicate]; split <;> rfl
  have hnl : ∀ i, ¬ Lst (Array.replicate ops.size false) i := fun i hi => by unfold Lst at hi; rw [hgetD] at hi; cases hi
  have hbel : Below B w { w with drawn := w.drawn + 1 } := ⟨rfl, rfl, rfl, Nat.le_refl _, fun _ _ => rfl⟩
  have hH' : HR B ι H { w with drawn := w.drawn + 1 } := ⟨fun b j hj => by obtain ⟨x, h1, h2⟩ := hH.blk b j hj; exact ⟨x, h1, h2.world (fun _ => rfl)⟩, hH.base, hH.inj, hH.size, fun r i d hd => ⟨hH.fz_world (fun _ _ _ _ _ => rfl) hd, (hH.fz r i d hd).2⟩⟩
  refine lit_main hE st al (ι0 := ι) (w0 := w) (B := B) (fun ι' a' w' x1 x2 x3 x4 => hp Ff _ ι' a' w' b1 (Grow.push _ _) x1 x2 x3 x4) ops.size (ι := ι)
    ⟨by simp, fun i j hi => absurd hi (hnl i), Ext.refl _ _, hbel, fun t ht v hv => ?_, by rw [b3, len_put']; exact hF.len, hF.defers, .inl ⟨hnl 0, hH'⟩⟩ (Nat.le_trans List.countP_le_length (by simp))
  have hno : ∀ j, ¬ WR ops t j := fun j hj => hnl j (ht j hj)
  have hmt : (some m : Option Tmp) ≠ some t := fun e => hno 0 ⟨o0, ho0, by rw [hd0, e]⟩
  rw [← b4 t (fun o ho e => by
    obtain ⟨q, hq⟩ := List.getElem?_of_mem ho
    exact hno (q + 1) ⟨o, by rw [hl1]; exact hq, e⟩), getF_put_ne' hmt] at hv
  exact hF.slot t v hv
theorem draw_ok (hE : EnvOk E) (hO : OrcOk E orc) : DrawOk E orc := by
  intro ops fr H k r h0 B ι a w Q id hH hF hp
  unfold evDrawn at h0
  cases hd : drawOk E.pol ops with
  | false =>
    rw [hd, cond_false] at h0
    obtain ⟨hl, h0⟩ := cond_some h0
    exact lit_ok hE hO hl h0 id hH hF hp
  | true =>
  rw [hd, cond_true] at h0
  have h := h0
  have st := drawOk_st hd
  refine wp_region_any hE.mixed ?_
  have hgetD : ∀ i, (Array.replicate ops.size false).getD i false = false := by intro i; simp [Array.getElem?_replicate]; split <;> rfl
  have hbel : Below B w { w with drawn := w.drawn + 1 } := ⟨rfl, rfl, rfl, Nat.le_refl _, fun _ _ => rfl⟩
  have hH' : HR B ι H { w with drawn := w.drawn + 1 } := ⟨fun b j hj => by obtain ⟨x, h1, h2⟩ := hH.blk b j hj; exact ⟨x, h1, h2.world (fun _ => rfl)⟩, hH.base, hH.inj, hH.size, fun r i d hd => ⟨hH.fz_world (fun _ _ _ _ _ => rfl) hd, (hH.fz r i d hd).2⟩⟩
  refine draw_main hE hO st rfl (ι0 := ι) (fr0 := fr) (H0 := H) (w0 := w) (B := B) (r := r) (k := k) hp ops.size (done := []) (l := sigma E.pol ops (Region.before ops) ops.size 0) (fr := fr) (H := H) (memo := []) (nb := fun _ => none) (ι := ι)
    ⟨h, rfl, by simp, fun i hi => absurd hi (by unfold Lst; rw [hgetD]; simp), fun i _ hi => absurd hi (by unfold Lst; rw [hgetD]; simp), fun i hi => (by cases hi), hH', Ext.refl _ _, hbel, Grow.refl _, fun t j _ hi => absurd hi (by unfold Lst; rw [hgetD]; simp), fun t _ v hv => hF.slot t v hv, fun _ _ => rfl, rfl, hF.len, hF.defers, fun i hi => (by cases hi), fun _ _ _ hn => (by cases hn), fun _ _ hn => (by cases hn)⟩ ?_
  exact Nat.le_trans List.countP_le_length (by simp)
theorem soundness (hE : EnvOk E) (n : Nat) : OrcOk E (evFun E n) := sound hE (fun _ hO => draw_ok hE hO) n
end
end Go.Proofs.Yteljeekapcenlaa.Ev
