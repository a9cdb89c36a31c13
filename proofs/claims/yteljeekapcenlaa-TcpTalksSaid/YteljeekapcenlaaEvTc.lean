/-
  Ev, part Tc: deep values: storing and appending. No conditions.
-/
import Derived.Test.YteljeekapcenlaaEvTb
namespace Go.Proofs.Yteljeekapcenlaa.Ev
open Go Go.RowKit
set_option linter.unusedSimpArgs false
set_option linter.unusedVariables false
theorem setN_ok : ∀ (c vs : List Value) (o : Nat), o + vs.length ≤ c.length → setN c vs o = some (c.take o ++ vs ++ c.drop (o + vs.length)) := by
  intro c
  induction c with
  | nil =>
    intro vs o h
    have h1 : vs = [] := by cases vs with | nil => rfl | cons _ _ => simp at h
    have h2 : o = 0 := by simp at h; omega
    subst h1; subst h2; rfl
  | cons x xs ih =>
    intro vs o h
    cases o with
    | zero =>
      cases vs with
      | nil => simp; rfl
      | cons v vs =>
        have e := ih vs 0 (by simp at h ⊢; omega)
        show (setN xs vs 0).bind (fun l => some (v :: l)) = _
        rw [e]; simp
    | succ o =>
      have e := ih vs o (by simp at h ⊢; omega)
      show (setN xs vs o).bind (fun l => some (x :: l)) = _
      rw [e]
      simp [Nat.succ_add]
theorem okD_one {ks : List (Kd × Nat)} {cs : List Value} (h : okD ks cs 0 = true) (hl : cs.length = ks.length) : ∀ d ∈ cs, cellOk d = true := by
  have key : ∀ (ks : List (Kd × Nat)) (off : Nat), okD ks cs off = true → ∀ i, i < ks.length → ∃ v, cs[off + i]? = some v ∧ cellOk v = true := by
    intro ks
    induction ks with
    | nil => intro off _ i hi; simp at hi
    | cons k ks ih =>
      intro off h i hi
      have h : cond (okZ k (nthC cs off)) (okD ks cs (off + 1)) false = true := h
      cases hk : okZ k (nthC cs off) with
      | false => rw [hk] at h; cases h
      | true =>
        rw [hk, cond_true] at h
        cases i with
        | zero =>
          obtain ⟨v, h1, h2, h3⟩ := okZ_nth hk
          exact ⟨v, h1, okZ_one h3⟩
        | succ i =>
          obtain ⟨v, h1, h2⟩ := ih (off + 1) h i (by simpa using hi)
          exact ⟨v, by rw [← h1]; congr 1; omega, h2⟩
  intro d hd
  obtain ⟨i, hi⟩ := List.getElem?_of_mem hd
  obtain ⟨v, h1, h2⟩ := key ks 0 h i (by rw [← hl]; exact (List.getElem?_eq_some_iff.1 hi).1)
  rw [Nat.zero_add, hi] at h1
  rw [Option.some.inj h1]; exact h2
theorem put_put (H : AH) (b : Nat) (x y : Blk) : (H.put b x).put b y = H.put b y := by simp [AH.put]
theorem push_put (H : AH) (x y : Blk) : (H.push x).put H.len y = H.push y := by
  unfold AH.push AH.put AH.len
  simp
section
variable {E : Env} {orc : Orc} {o : Oper} {fr : Frame} {H : AH} {k : K} {r : Value × AH}
theorem storeD_ok (hE : EnvOk E) {dst : Option Tmp} {type : TypeId} {pos : String} {after : Array Edge} {guard : Option (Nat × Bool)} {t : TypeId} {x y : Operand} {u v : Value} (hu : arg fr x = some u) (hv : arg fr y = some v)
    (h : storeD E.T t u v H (fun H => k undef H) = some r) : ∃ v H', k v H' = some r ∧ Grow H H' ∧ Sim E ⟨dst, .store t x y, type, pos, after, guard⟩ fr H v H' := by
  unfold storeD at h
  obtain ⟨ad, hq, h⟩ := asPtr_ok h
  subst hq
  rcases bldAt_some h with ⟨cs, hb, g⟩ | ⟨_, g⟩
  · obtain ⟨i, hi, g⟩ := Option.bind_eq_some_iff.1 g
    obtain ⟨hc, g⟩ := cond_some g
    simp only [Bool.and_eq_true] at hc
    obtain ⟨⟨⟨⟨⟨c1, c2⟩, c3⟩, c4⟩, c5⟩, c6⟩ := hc
    have c1 := Nat.eq_of_beq_eq_true c1
    have c3 := Nat.eq_of_beq_eq_true c3
    have c5 := Nat.le_of_ble_eq_true c5
    have hone := okD_one c4 (by rw [c1, c3])
    refine ⟨undef, _, g, Grow.put _ _ c6, fun B ι a w hH ha next Q hn => ?_⟩
    have e1 : VR ι _ (a.eval x) := ha x (by simp [Op.operands]) _ hu
    have e2 : VR ι _ (a.eval y) := ha y (by simp [Op.operands]) _ hv
    generalize hg : a.eval x = cc at e1
    cases e1 with | ptr b o' j hj => ?_
    simp only at hb c5 c6
    have hlt := (List.getElem?_eq_some_iff.1 hb).1
    have h0 := hH.recast hb (.inr rfl) (.inl rfl) (fun q => by cases q)
    have hst : storeN (H.put b (.cells cs)) ⟨b, o', none⟩ (cellsOf v) (fun H => some (undef, H)) = some (undef, (H.put b (.cells cs)).put b (.cells (cs.take o' ++ cellsOf v ++ cs.drop (o' + (cellsOf v).length)))) := by
      unfold storeN
      have hrow : (H.put b (.cells cs)).row b = some cs := by
        unfold AH.row
        rw [getL_eq, put_get hlt, if_pos rfl]
      have hw : (H.put b (.cells cs)).wok b = true := c6
      have ho : (cellsOf v).all oneCell = true := List.all_eq_true.2 fun d hd => cellOk_one (hone d hd)
      simp only [hrow, Option.bind_some, hw, ho, Bool.and_self, cond_true, setN_ok cs (cellsOf v) o' (by rw [c1]; exact c5)]
    obtain ⟨c', s1, s2, s3, s4⟩ := storeN_ok hst
    simp only at s1
    rw [put_get hlt, if_pos rfl] at s1
    obtain rfl : cs = c' := by simpa using s1
    obtain ⟨w', q1, q2, q3⟩ := s4 (P := E.P) B ι w j (a.eval y).cells.toList h0 hj (cells_of e2)
    have hnew : ∀ d ∈ cs.take o' ++ cellsOf v ++ cs.drop (o' + (cellsOf v).length), cellOk d = true := by
      intro d hd
      rcases List.mem_append.1 hd with hd | hd
      · rcases List.mem_append.1 hd with hd | hd
        · exact hH.one hj hb d (List.mem_of_mem_take hd)
        · exact hone d hd
      · exact hH.one hj hb d (List.mem_of_mem_drop hd)
    simp only at q2
    have q4 := q2.recast (b0 := b) (x := .cells (cs.take o' ++ cellsOf v ++ cs.drop (o' + (cellsOf v).length))) (y := .bld (cs.take o' ++ cellsOf v ++ cs.drop (o' + (cellsOf v).length))) (by
      rw [put_get (by simp [AH.put]; exact hlt), if_pos rfl]) (.inl rfl) (.inr rfl) (fun _ => hnew)
    rw [put_put, put_put] at q4
    rw [c1] at q4
    refine wp_skip' (w' := w') ?_ (hn ι undef w' (Ext.refl _ _) q4 (undefR ι) q3)
    obtain ⟨inf, z, i1, i2, _⟩ := (hE.fits.get hi).info
    have hs : ¬ (a.eval y).cells.size ≠ i.size := by rw [cells_len e2, c1]; simp
    have hsz := run_sizeOf (P := E.P) (w := w) i1
    rw [i2] at hsz
    simp only [execOp, Instr.storeAt, hg, Instr.sureAddr, storeVar, Sem.run_bind, Sem.run_pure, Result.andThen_ok, hsz, if_neg hs, q1]
  · have h' : oStore E.T fr H k t x y = some r := by
      unfold oStore
      rw [hu, hv]
      exact g
    exact store_ok hE rfl h'
end
theorem allD_ok {T : Ty} {e : TypeId} {s b n : Nat} {H : AH} {k : List Value → AH → Res} {r : Value × AH} (h : allD T e s b n H k = some r) :
    ∃ cs H1 X c0, k cs H1 = some r ∧ Grow H H1 ∧ Less H H1 ∧ H.bs[b]? = some X ∧ rowX X c0 ∧ n * s = c0.length ∧ cs.length = n * s ∧
      ∀ B ι w vs', HR B ι H w → VRs ι c0 vs' → ∃ ι', Ext H.len ι ι' ∧ HR B ι' H1 w ∧ VRs ι' cs vs' ∧ (∀ b, ι' b = ι b) ∧ ((∃ j, ι b = some j) ∨ c0 = [] → ∀ d ∈ cs, cellOk d = true) := by
  unfold allD at h
  rw [getL_eq] at h
  cases hb : H.bs[b]? with
  | none => rw [hb] at h; cases h
  | some X =>
    rw [hb] at h
    cases X with
    | bld cs =>
      obtain ⟨hc, h⟩ := cond_some h
      have hc := Nat.eq_of_beq_eq_true hc
      exact ⟨cs, H, _, cs, h, Grow.refl _, Less.refl _, rfl, .inr rfl, hc, hc.symm, fun B ι w vs' hH hv => ⟨ι, Ext.refl _ _, hH, hv, fun _ => rfl, fun hh => by
        rcases hh with ⟨j, hj⟩ | rfl
        · exact hH.one hj hb
        · intro d hd; cases hd⟩⟩
    | cells c =>
      obtain ⟨hc, h⟩ := cond_some h
      have hc := Nat.eq_of_beq_eq_true hc
      obtain ⟨l, H1, h1, g1, l1, n1, o1, s1⟩ := keepD_ok h
      refine ⟨l, H1, _, c, h1, g1, l1, rfl, .inl rfl, hc, by rw [n1, hc], fun B ι w vs' hH hv => ?_⟩
      obtain ⟨ι', q1, q2, q3, q4⟩ := s1 B ι w vs' hH hv
      exact ⟨ι', q1, q2, q3, q4, fun _ => o1⟩
    | _ => cases h
def Src (P : Program) (ι : Emb) (w : World) (s : Nat) (x' : Value) (new : List Value) (m : Nat) : Prop :=
  (∀ w, (Builtin.lenOf x').run P w = .ok m w) ∧ new.length = m * s ∧ (∀ d ∈ new, cellOk d = true) ∧ ∃ new', VRs ι new new' ∧ ∀ w', w'.heap = w.heap → (Builtin.firstCells s m x').run P w' = .ok ⟨new'⟩ w'
theorem src_of {P : Program} {ι : Emb} {w : World} {s m cap g q : Nat} {new : List Value} (h : Holds ι w g q new) (hl : new.length = m * s) (ho : ∀ d ∈ new, cellOk d = true) : Src P ι w s (.slice (some ⟨g, q, none⟩) m cap) new m := by
  refine ⟨fun w => by simp [Builtin.lenOf], hl, ho, ?_⟩
  obtain ⟨l', h1, h2⟩ := h.list
  refine ⟨l', h1, fun w' hw => ?_⟩
  have := run_loadCells_heap (P := P) hw ⟨g, q, none⟩ l' (fun i v hv => by rw [addE]; exact h2 i v hv)
  rw [h1.length, hl] at this
  simpa [Builtin.firstCells] using this
theorem src_nil {P : Program} {ι : Emb} {w : World} {s : Nat} (oa : Option Addr) : Src P ι w s (.slice oa 0 0) [] 0 :=
  ⟨fun w => by simp [Builtin.lenOf], by simp, by simp, [], .nil, fun w' _ => by cases oa <;> simp [Builtin.firstCells, loadCells, loadCellsFrom]⟩
theorem Src.mono {P : Program} {ι ι' : Emb} {w : World} {s m : Nat} {x' : Value} {new : List Value} (h : Src P ι w s x' new m) (hi : ι.le ι') : Src P ι' w s x' new m := by
  obtain ⟨h1, h2, h3, new', h4, h5⟩ := h
  exact ⟨h1, h2, h3, new', h4.mono hi, h5⟩
theorem srcD_ok {T : Ty} {e : TypeId} {s : Nat} {x : Value} {H : AH} {k : List Value → Nat → AH → Res} {r : Value × AH} (h : srcD T e s x H k = some r) :
    ∃ new m H1, k new m H1 = some r ∧ Grow H H1 ∧ Less H H1 ∧
      ∀ (P : Program) B ι w x', HR B ι H w → VR ι x x' → ∃ ι', Ext H.len ι ι' ∧ HR B ι' H1 w ∧ (∀ b, ι' b = ι b) ∧ Src P ι' w s x' new m := by
  have deep : ∀ u, x = u → deepC u (fun t cs => cond (Nat.beq t s) (k cs (dlen s cs) H) none) (fun _ _ => none)
    (fun t b n => cond (Nat.beq t s) (allD T e s b n H fun cs H => k cs n H) none) (fun t => cond (Nat.beq t s) (k [] 0 H) none) none = some r → ∃ new m H1, k new m H1 = some r ∧ Grow H H1 ∧ Less H H1 ∧
      ∀ (P : Program) B ι w x', HR B ι H w → VR ι x x' → ∃ ι', Ext H.len ι ι' ∧ HR B ι' H1 w ∧ (∀ b, ι' b = ι b) ∧ Src P ι' w s x' new m := by
    intro u hu h
    subst hu
    rcases deepC_some h with ⟨t, cs, rfl, g⟩ | ⟨_, _, _, g⟩ | ⟨t, b, n, rfl, g⟩ | ⟨t, rfl, g⟩ | g
    · obtain ⟨ht, g1⟩ := cond_some g
      obtain rfl := Nat.eq_of_beq_eq_true ht
      refine ⟨_, _, _, g1, Grow.refl _, Less.refl _, fun P B ι w x' hH hx => ⟨ι, Ext.refl _ _, hH, fun _ => rfl, ?_⟩⟩
      obtain ⟨hz, hx⟩ := hx.dS_inv
      rcases hx with ⟨⟨oa, rfl⟩, rfl⟩ | ⟨n, cap, r', o, rfl, hl, hcap, hf⟩
      · rw [dlen_nil]; exact src_nil oa
      · rw [dlen_of hz hl]
        refine src_of (hH.holdsF hf) hl (fun d hd => ?_)
        obtain ⟨i, hi⟩ := List.getElem?_of_mem hd
        exact (hH.fz _ _ _ (hf i d hi)).2.2.2
    · cases g
    · obtain ⟨ht, g1⟩ := cond_some g
      obtain rfl := Nat.eq_of_beq_eq_true ht
      obtain ⟨cs, H1, X, c0, h1, g1, l1, hb, hX, hn, hl, s1⟩ := allD_ok g1
      refine ⟨_, _, _, h1, g1, l1, fun P B ι w x' hH hx => ?_⟩
      obtain ⟨hz, hx⟩ := hx.dB_inv
      rcases hx with ⟨rfl, oa, rfl, _⟩ | ⟨k', j, hj, rfl, hk, hex⟩
      · have hc0 : c0 = [] := by simpa using hn.symm
        subst hc0
        obtain ⟨ι', q1, q2, q3, q4, _⟩ := s1 B ι w [] hH .nil
        have : cs = [] := by simpa using hl
        subst this
        exact ⟨ι', q1, q2, q4, src_nil oa⟩
      · obtain ⟨pre, mid, post, e', fz, r1, r2, r3, r4⟩ := hH.rowX hj hb hX
        obtain ⟨ι', q1, q2, q3, q4, q5⟩ := s1 B ι w mid hH r3
        refine ⟨ι', q1, q2, q4, src_of (fun p d hd => ?_) hl (q5 (.inl ⟨j, hj⟩))⟩
        obtain ⟨v', p1, p2⟩ := q3.get hd
        have := cell_mid r1 p p1
        rw [r2] at this
        exact ⟨v', this, p2⟩
    · obtain ⟨ht, g1⟩ := cond_some g
      obtain rfl := Nat.eq_of_beq_eq_true ht
      refine ⟨_, _, _, g1, Grow.refl _, Less.refl _, fun P B ι w x' hH hx => ⟨ι, Ext.refl _ _, hH, fun _ => rfl, ?_⟩⟩
      obtain ⟨hz, oa, rfl, _⟩ := hx.dE_inv
      exact src_nil oa
    · cases g
  unfold srcD at h
  cases x with
  | slice a l c =>
    simp only [] at h
    obtain ⟨hc, h1⟩ := cond_some h
    simp only [Bool.and_eq_true] at hc
    obtain ⟨⟨c1, c2⟩, c3⟩ := hc
    have c2 := Nat.eq_of_beq_eq_true c2
    have c3 := Nat.eq_of_beq_eq_true c3
    subst c2 c3
    cases a with
    | some _ => cases c1
    | none =>
      refine ⟨_, _, _, h1, Grow.refl _, Less.refl _, fun P B ι w x' hH hx => ⟨ι, Ext.refl _ _, hH, fun _ => rfl, ?_⟩⟩
      cases hx
      exact src_nil none
  | _ => exact deep _ rfl h
def Bas (B : Nat) (ι : Emb) (H1 H2 : AH) (w : World) (s : Nat) (s' : Value) (old : List Value) (n : Nat) : Prop :=
  (∃ oa, s' = .slice oa 0 0 ∧ (oa = none ∨ ∃ a', oa = some a') ∧ n = 0 ∧ old = [] ∧ HR B ι H2 w ∧ H2.len = H1.len) ∨
  (∃ b j X c k' pre mid post e, HR B ι H1 w ∧ H2 = H1.put b .dead ∧ H1.bs[b]? = some X ∧ rowX X c ∧ ι b = some j ∧ H1.floor ≤ b ∧ s' = .slice (some ⟨j.blk, j.sh, none⟩) n k' ∧ n ≤ k' ∧ (k' - n) * s = j.ex ∧
    w.heap[j.blk]? = some (.cells ⟨pre ++ mid ++ post⟩ e (0, 0)) ∧ pre.length = j.sh ∧ post.length = j.ex ∧ VRs ι old mid ∧ old.length = n * s ∧ (∀ d ∈ old, cellOk d = true) ∧ (∀ d ∈ c, cellOk d = true ∨ X = .cells c))
theorem isBuilt_some {H : AH} {b : Nat} (h : isBuilt H b = true) : ∃ X c, H.bs[b]? = some X ∧ rowX X c := by
  unfold isBuilt at h
  rw [getL_eq] at h
  cases hb : H.bs[b]? with
  | none => rw [hb] at h; cases h
  | some X =>
    rw [hb] at h
    cases X with
    | bld c => exact ⟨_, c, rfl, .inr rfl⟩
    | cells c => exact ⟨_, c, rfl, .inl rfl⟩
    | _ => cases h
theorem baseD_ok {T : Ty} {e : TypeId} {s : Nat} {x : Value} {H : AH} {k : List Value → Nat → AH → Res} {r : Value × AH} (h : baseD T e s x H k = some r) :
    ∃ old n H1 H2, k old n H2 = some r ∧ Grow H H2 ∧ Less H H2 ∧
      ∀ B ι w x', HR B ι H w → VR ι x x' → ∃ ι', Ext H.len ι ι' ∧ (∀ b, ι' b = ι b) ∧ Bas B ι' H1 H2 w s x' old n := by
  have deep : ∀ u, x = u → deepC u (fun _ _ => none) (fun _ _ => none)
    (fun t b n => cond (Nat.beq t s) (allD T e s b n H fun cs H => cond (H.wok b && isBuilt H b) (k cs n (H.put b .dead)) none) none) (fun t => cond (Nat.beq t s) (k [] 0 H) none) none = some r → ∃ old n H1 H2, k old n H2 = some r ∧ Grow H H2 ∧ Less H H2 ∧
      ∀ B ι w x', HR B ι H w → VR ι x x' → ∃ ι', Ext H.len ι ι' ∧ (∀ b, ι' b = ι b) ∧ Bas B ι' H1 H2 w s x' old n := by
    intro u hu h
    subst hu
    rcases deepC_some h with ⟨_, _, _, g⟩ | ⟨_, _, _, g⟩ | ⟨t, b, n, rfl, g⟩ | ⟨t, rfl, g⟩ | g
    · cases g
    · cases g
    · obtain ⟨ht, g1⟩ := cond_some g
      obtain rfl := Nat.eq_of_beq_eq_true ht
      obtain ⟨cs, H1, X, c0, h1, g1, l1, hb, hX, hn, hl, s1⟩ := allD_ok g1
      obtain ⟨hc, h2⟩ := cond_some h1
      simp only [Bool.and_eq_true] at hc
      obtain ⟨X1, c1, hb1, hX1⟩ := isBuilt_some hc.2
      have hXX : H.bs[b]? = some X1 := l1.2 b X1 hb1 (by rcases hX1 with rfl | rfl <;> simp)
      rw [hb] at hXX
      obtain rfl := Option.some.inj hXX
      refine ⟨cs, n, H1, _, h2, g1.trans (Grow.kill hc.1), l1.trans Less.kill, fun B ι w x' hH hx => ?_⟩
      obtain ⟨hz, hx⟩ := hx.dB_inv
      rcases hx with ⟨rfl, oa, rfl, hoa⟩ | ⟨k', j, hj, rfl, hk, hex⟩
      · have hc0 : c0 = [] := by simpa using hn.symm
        subst hc0
        obtain ⟨ι', q1, q2, q3, q4, _⟩ := s1 B ι w [] hH .nil
        have : cs = [] := by simpa using hl
        subst this
        exact ⟨ι', q1, q4, .inl ⟨oa, rfl, hoa, rfl, rfl, q2.kill b, by simp [AH.put, AH.len]⟩⟩
      · have hf : H.floor ≤ b := by have := wok_floor hc.1; rwa [g1.floor] at this
        obtain ⟨pre, mid, post, e', fz, r1, r2, r3, r4⟩ := hH.rowX hj hb hX
        obtain ⟨r5, rfl⟩ := r4 hf
        obtain ⟨ι', q1, q2, q3, q4, q5⟩ := s1 B ι w mid hH r3
        refine ⟨ι', q1, q4, .inr ⟨b, j, X, c1, k', pre, mid, post, e', q2, rfl, hb1, hX1, by rw [q4, hj], wok_floor hc.1, rfl, hk, hex, r1, r2, r5, q3, hl, q5 (.inl ⟨j, hj⟩), fun d hd => ?_⟩⟩
        rcases hX1 with rfl | rfl
        · exact .inr rfl
        · exact .inl (hH.one hj hb d hd)
    · obtain ⟨ht, g1⟩ := cond_some g
      obtain rfl := Nat.eq_of_beq_eq_true ht
      refine ⟨_, _, H, _, g1, Grow.refl _, Less.refl _, fun B ι w x' hH hx => ⟨ι, Ext.refl _ _, fun _ => rfl, ?_⟩⟩
      obtain ⟨hz, oa, rfl, hoa⟩ := hx.dE_inv
      exact .inl ⟨oa, rfl, hoa, rfl, rfl, hH, rfl⟩
    · cases g
  unfold baseD at h
  cases x with
  | slice a l c =>
    simp only [] at h
    obtain ⟨hc, h1⟩ := cond_some h
    simp only [Bool.and_eq_true] at hc
    obtain ⟨⟨c1, c2⟩, c3⟩ := hc
    have c2 := Nat.eq_of_beq_eq_true c2
    have c3 := Nat.eq_of_beq_eq_true c3
    subst c2 c3
    cases a with
    | some _ => cases c1
    | none =>
      refine ⟨_, _, H, _, h1, Grow.refl _, Less.refl _, fun B ι w x' hH hx => ⟨ι, Ext.refl _ _, fun _ => rfl, ?_⟩⟩
      cases hx
      exact .inl ⟨none, rfl, .inl rfl, rfl, rfl, hH, rfl⟩
  | _ => exact deep _ rfl h
end Go.Proofs.Yteljeekapcenlaa.Ev
