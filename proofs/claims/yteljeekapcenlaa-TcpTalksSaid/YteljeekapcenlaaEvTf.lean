/-
  Ev, part Tf: calls that answer deep values. No conditions.
-/
import Derived.Test.YteljeekapcenlaaEvTe
namespace Go.Proofs.Yteljeekapcenlaa.Ev
open Go Go.RowKit
set_option linter.unusedSimpArgs false
set_option linter.unusedVariables false
def Fzy (d : Value) : Prop := ∀ ι ι' v', (∀ r i x, ι.fz r i x → ι'.fz r i x) → VR ι d v' → VR ι' d v'
theorem fzy_cell {d : Value} (h : cellOk d = true) : Fzy d := by
  intro ι ι' v' hi e
  rcases cellOk_some h with ⟨b, rfl⟩ | ⟨k, m, rfl⟩ | ⟨s, rfl⟩ | ⟨t, cs, rfl⟩
  · cases e; exact .bool _
  · cases e; exact .int _ _
  · cases e; exact .string _
  · obtain ⟨hz, e⟩ := e.dS_inv
    rcases e with ⟨⟨oa, rfl⟩, rfl⟩ | ⟨n, cap, r, o, rfl, hl, hc, hf⟩
    · cases oa with
      | none => exact .dNil _ hz
      | some a => exact .dSe _ _ hz
    · exact .dSl _ _ _ _ _ _ hz hl hc (fun i d hd => hi _ _ _ (hf i d hd))
theorem fzy_list {l : List Value} (h : ∀ d ∈ l, Fzy d) : ∀ {ι ι' : Emb} {l' : List Value}, (∀ r i x, ι.fz r i x → ι'.fz r i x) → VRs ι l l' → VRs ι' l l' := by
  induction l with
  | nil => intro ι ι' l' _ e; cases e; exact .nil
  | cons x l ih =>
    intro ι ι' l' hi e
    cases e with | cons _ v' _ l' e es => ?_
    exact .cons _ _ _ _ (h x List.mem_cons_self ι ι' v' hi e) (ih (fun d hd => h d (List.mem_cons_of_mem _ hd)) hi es)
theorem keepC_ok {kd : Kd × Nat} {v : Value} {H : AH} {k : Value → AH → Res} {r : Value × AH} (h : keepC kd v H k = some r) :
    ∃ d H', k d H' = some r ∧ Grow H H' ∧ Less H H' ∧ cellOk d = true ∧ ∀ B ι w v', HR B ι H w → VR ι v v' → ∃ ι', Ext H.len ι ι' ∧ HR B ι' H' w ∧ VR ι' d v' ∧ (∀ b, ι' b = ι b) := by
  have other : cond (okZ kd v) (k v H) none = some r → ∃ d H', k d H' = some r ∧ Grow H H' ∧ Less H H' ∧ cellOk d = true ∧ ∀ B ι w v', HR B ι H w → VR ι v v' → ∃ ι', Ext H.len ι ι' ∧ HR B ι' H' w ∧ VR ι' d v' ∧ (∀ b, ι' b = ι b) := by
    intro h
    obtain ⟨h1, h2⟩ := cond_some h
    exact ⟨v, H, h2, Grow.refl _, Less.refl _, okZ_one h1, fun B ι w v' hH e => ⟨ι, Ext.refl _ _, hH, e, fun _ => rfl⟩⟩
  unfold keepC at h
  obtain ⟨k1, z⟩ := kd
  cases k1 with
  | slice =>
    obtain ⟨d, H1, h1, h2, h3, ⟨cs, rfl⟩, h5⟩ := keep1_ok h
    exact ⟨_, H1, h1, h2, h3, rfl, h5⟩
  | _ => exact other h
theorem keepV_ok {T : Ty} {t : TypeId} {v : Value} {H : AH} {k : Value → AH → Res} {r : Value × AH} (h : keepV T t v H k = some r) :
    ∃ d H', k d H' = some r ∧ Grow H H' ∧ Less H H' ∧ Fzy d ∧ ∀ B ι w v', HR B ι H w → VR ι v v' → ∃ ι', Ext H.len ι ι' ∧ HR B ι' H' w ∧ VR ι' d v' ∧ (∀ b, ι' b = ι b) := by
  have one : ∀ u, v = u → (match kz T 8 t with
    | kd :: ks => (match ks with
      | [] => keepC kd u H k
      | _ => none)
    | [] => none) = some r → ∃ d H', k d H' = some r ∧ Grow H H' ∧ Less H H' ∧ Fzy d ∧ ∀ B ι w v', HR B ι H w → VR ι v v' → ∃ ι', Ext H.len ι ι' ∧ HR B ι' H' w ∧ VR ι' d v' ∧ (∀ b, ι' b = ι b) := by
    intro u hu h
    subst hu
    cases hk : kz T 8 t with
    | nil => rw [hk] at h; cases h
    | cons kd ks =>
      rw [hk] at h
      cases ks with
      | nil =>
        obtain ⟨d, H1, h1, h2, h3, h4, h5⟩ := keepC_ok h
        exact ⟨d, H1, h1, h2, h3, fzy_cell h4, h5⟩
      | cons _ _ => cases h
  unfold keepV at h
  cases v with
  | func fn f c =>
    obtain ⟨f⟩ := f
    obtain ⟨c⟩ := c
    obtain ⟨hc, h⟩ := cond_some h
    simp only [Bool.and_eq_true, List.isEmpty_iff] at hc
    obtain ⟨rfl, rfl⟩ := hc
    refine ⟨_, H, h, Grow.refl _, Less.refl _, fun ι ι' v' _ e => ?_, fun B ι w v' hH e => ⟨ι, Ext.refl _ _, hH, e, fun _ => rfl⟩⟩
    cases e with | func _ _ f' _ c' hf hc => ?_
    cases hf; cases hc
    exact .func _ _ _ _ _ .nil .nil
  | agg cs =>
    obtain ⟨cs⟩ := cs
    obtain ⟨l, H1, h1, g1, l1, n1, o1, s1⟩ := keepD_ok h
    refine ⟨_, H1, h1, g1, l1, fun ι ι' v' hi e => ?_, fun B ι w v' hH e => ?_⟩
    · cases e with | agg _ c' hc => ?_
      exact .agg _ _ (fzy_list (fun d hd => fzy_cell (o1 d hd)) hi hc)
    · cases e with | agg _ c' hc => ?_
      obtain ⟨ι', q1, q2, q3, q4⟩ := s1 B ι w c' hH hc
      exact ⟨ι', q1, q2, .agg _ _ q3, q4⟩
  | _ => exact one _ rfl h
theorem keepVs_ok {T : Ty} : ∀ {ts : List TypeId} {vs : List Value} {H : AH} {k : List Value → AH → Res} {r : Value × AH}, keepVs T ts vs H k = some r →
    ∃ l H', k l H' = some r ∧ Grow H H' ∧ Less H H' ∧ (∀ d ∈ l, Fzy d) ∧ ∀ B ι w vs', HR B ι H w → VRs ι vs vs' → ∃ ι', Ext H.len ι ι' ∧ HR B ι' H' w ∧ VRs ι' l vs' ∧ (∀ b, ι' b = ι b) := by
  intro ts
  induction ts with
  | nil =>
    intro vs H k r h
    cases vs with
    | nil => exact ⟨[], H, h, Grow.refl _, Less.refl _, by simp, fun B ι w vs' hH hv => ⟨ι, Ext.refl _ _, hH, hv, fun _ => rfl⟩⟩
    | cons v vs => exact absurd (show none = some r from h) (by simp)
  | cons t ts ih =>
    intro vs H k r h
    cases vs with
    | nil => exact absurd (show none = some r from h) (by simp)
    | cons v vs =>
      have h : keepV T t v H (fun d H => keepVs T ts vs H fun l H => k (d :: l) H) = some r := h
      obtain ⟨d, H1, h1, g1, l1, o1, s1⟩ := keepV_ok h
      obtain ⟨l, H2, h2, g2, l2, o2, s2⟩ := ih h1
      refine ⟨d :: l, H2, h2, g1.trans g2, l1.trans l2, fun x hx => ?_, fun B ι w vs' hH hv => ?_⟩
      · rcases List.mem_cons.1 hx with rfl | hx
        · exact o1
        · exact o2 x hx
      · cases hv with | cons _ v' _ vs' e hv => ?_
        obtain ⟨ι1, q1, q2, q3, q4⟩ := s1 B ι w v' hH e
        obtain ⟨ι2, p1, p2, p3, p4⟩ := s2 B ι1 w vs' q2 (hv.mono q1.le)
        refine ⟨ι2, ?_, p2, .cons _ _ _ _ (q3.mono p1.le) p3, fun b => (p4 b).trans (q4 b)⟩
        rw [l1.1] at p1
        exact q1.trans p1 (Nat.le_refl _)
noncomputable def AH.onto (H H' : AH) : AH := ⟨H.bs ++ H'.bs.map onlyBld, H.floor, H.lock⟩
def Emb.onto (ι ι' : Emb) (n : Nat) (H' : AH) : Emb := ⟨fun b => if b < n then ι b else (match H'.bs[b - n]? with | some (.bld _) => ι' (b - n) | _ => none), ι'.fz, ι.S⟩
theorem onto_get {H H' : AH} {b : Nat} (h : H.len ≤ b) : (H.onto H').bs[b]? = (H'.bs[b - H.len]?).map onlyBld := by
  unfold AH.onto AH.len at *
  simp only
  rw [List.getElem?_append_right h, List.getElem?_map]
theorem onto_old {H H' : AH} {b : Nat} (h : b < H.len) : (H.onto H').bs[b]? = H.bs[b]? := by
  unfold AH.onto AH.len at *
  simp only
  rw [List.getElem?_append_left h]
theorem HR.onto {B : Nat} {ι ι' : Emb} {H H' : AH} {w w' : World} (hH : HR B ι H w) (hH' : HR w.heap.size ι' H' w') (hb : Below w.heap.size w w') (hf : ∀ r i x, ι.fz r i x → ι'.fz r i x) (hS : ι'.S = ι.fz) (hfl : H'.floor = 0) :
    HR B (ι.onto ι' H.len H') (H.onto H') w' := by
  have old : ∀ b j, (ι.onto ι' H.len H') b = some j → b < H.len → ι b = some j := fun b j h hl => by
    have h : (if b < H.len then ι b else _) = some j := h
    rw [if_pos hl] at h; exact h
  have new : ∀ b j, (ι.onto ι' H.len H') b = some j → H.len ≤ b → ∃ c, H'.bs[b - H.len]? = some (.bld c) ∧ ι' (b - H.len) = some j := fun b j h hl => by
    have h : (if b < H.len then ι b else (match H'.bs[b - H.len]? with | some (.bld _) => ι' (b - H.len) | _ => Option.none)) = some j := h
    rw [if_neg (by omega)] at h
    cases hb : H'.bs[b - H.len]? with
    | none => rw [hb] at h; cases h
    | some x =>
      rw [hb] at h
      cases x with
      | bld c => exact ⟨c, rfl, h⟩
      | _ => cases h
  have hle : ι.le (ι.onto ι' H.len H') := by
    refine ⟨fun b j hj => ?_, hf, rfl⟩
    have hlt : b < H.len := hH.dom hj
    show (if b < H.len then ι b else _) = some j
    rw [if_pos hlt]; exact hj
  have fresh : ∀ b j, (ι.onto ι' H.len H') b = some j → H.len ≤ b → w.heap.size ≤ j.blk := fun b j h hl => by
    obtain ⟨c, h1, h2⟩ := new b j h hl
    exact hH'.base _ j h2 (by rw [hfl]; omega) (by unfold live; rw [h1]; simp)
  have lvo : ∀ b, b < H.len → live (H.onto H') b → live H b := fun b hl h => by unfold live at *; rwa [onto_old hl] at h
  have hB : B ≤ w.heap.size := hH.size
  refine ⟨fun b j hj => ?_, fun b j hj hff hl => ?_, fun b1 b2 j1 j2 h1 h2 hne hff hl1 hl2 => ?_, Nat.le_trans hB hb.size, fun r i d hd => ?_⟩
  · by_cases hl : b < H.len
    · have ho := old b j hj hl
      obtain ⟨x, hx, hbr⟩ := hH.blk b j ho
      refine ⟨x, by rw [onto_old hl, hx], (hbr.world fun hd => hb.block _ (hbr.lt hd)).emb hle⟩
    · obtain ⟨c, h1, h2⟩ := new b j hj (by omega)
      obtain ⟨x, hx, hbr⟩ := hH'.blk _ j h2
      rw [h1] at hx
      obtain rfl := Option.some.inj hx
      refine ⟨.bld c, by rw [onto_get (by omega), h1]; rfl, ?_⟩
      have hbr : BR ι' w' (decide (H'.floor ≤ b - H.len)) j (.bld c) := hbr
      rw [show decide (H'.floor ≤ b - H.len) = true from by rw [hfl]; simp] at hbr
      obtain ⟨⟨pre, mid, post, e, fz, g1, g2, g3, g4⟩, g5⟩ := hbr
      exact ⟨⟨pre, mid, post, e, fz, g1, g2, fzy_list (fun d hd => fzy_cell (g5 d hd)) (ι := ι') (fun _ _ _ h => h) g3, fun _ => g4 rfl⟩, g5⟩
  · by_cases hlt : b < H.len
    · exact hH.base b j (old b j hj hlt) hff (lvo b hlt hl)
    · exact Nat.le_trans hB (fresh b j hj (by omega))
  · by_cases l1 : b1 < H.len
    · have o1 := old b1 j1 h1 l1
      by_cases l2 : b2 < H.len
      · exact hH.inj b1 b2 j1 j2 o1 (old b2 j2 h2 l2) hne hff (lvo b1 l1 hl1) (lvo b2 l2 hl2)
      · have q1 := hH.lt o1 (lvo b1 l1 hl1)
        have q2 := fresh b2 j2 h2 (by omega)
        omega
    · have q1 := fresh b1 j1 h1 (by omega)
      by_cases l2 : b2 < H.len
      · have q2 := hH.lt (old b2 j2 h2 l2) (lvo b2 l2 hl2)
        omega
      · obtain ⟨c1, a1, a2⟩ := new b1 j1 h1 (by omega)
        obtain ⟨c2, d1, d2⟩ := new b2 j2 h2 (by omega)
        exact hH'.inj _ _ j1 j2 a2 d2 (by omega) (by rw [hfl]; omega) (by unfold live; rw [a1]; simp) (by unfold live; rw [d1]; simp)
  · obtain ⟨⟨v', q1, q2⟩, q3, q4, q5⟩ := hH'.fz r i d hd
    refine ⟨⟨v', q1, fzy_cell q5 ι' _ v' (fun _ _ _ h => h) q2⟩, fun b j hj hff hl => ?_, ?_, q5⟩
    · by_cases hlt : b < H.len
      · have ho := old b j hj hlt
        have hlv := lvo b hlt hl
        rw [hS] at q4
        rcases q4 with q4 | q4
        · exact (hH.fz r i d q4).2.1 b j ho hff hlv
        · have := hH.lt ho hlv
          omega
      · obtain ⟨c, h1, h2⟩ := new b j hj (by omega)
        exact q3 _ j h2 (by rw [hfl]; omega) (by unfold live; rw [h1]; simp)
    · rw [hS] at q4
      rcases q4 with q4 | q4
      · exact (hH.fz r i d q4).2.2.1
      · exact .inr (Nat.le_trans hB q4)
theorem shiftC_ok {ι ι' : Emb} {n : Nat} {H' : AH} {v v' : Value} (ho : resOkC H' v = true) (h : VR ι' v v') : VR (ι.onto ι' n H') (shiftC n v) v' := by
  have deep : ∀ u, v = u → shiftC n u = deepC u (fun t cs => dS t cs) (fun off cs => dP off cs) (fun t b m => dB t (n + b) m) (fun t => dE t) u → deepC u (fun _ _ => true) (fun _ _ => false) (fun _ b _ => match getL H'.bs b with | some x => (match x with | .bld _ => true | _ => false) | none => false) (fun _ => false) false = true → VR (ι.onto ι' n H') (shiftC n v) v' := by
    intro u hu _ ho
    subst hu
    rcases deepC_some ho with ⟨t, cs, rfl, _⟩ | ⟨_, _, _, g⟩ | ⟨t, b, m, rfl, g⟩ | ⟨_, _, g⟩ | g
    · exact fzy_cell rfl ι' (ι.onto ι' n H') v' (fun _ _ _ h => h) h
    · cases g
    · rw [getL_eq] at g
      obtain ⟨hz, h⟩ := h.dB_inv
      rcases h with ⟨rfl, oa, rfl, hoa⟩ | ⟨k', j, hj, rfl, hk, hex⟩
      · rcases hoa with rfl | ⟨a', rfl⟩
        · exact .dBn _ _ hz
        · exact .dBe _ _ _ hz
      · refine .dBl _ _ _ _ j ?_ hz hk hex
        show (if n + b < n then ι (n + b) else (match H'.bs[n + b - n]? with | some (.bld _) => ι' (n + b - n) | _ => Option.none)) = some j
        rw [if_neg (by omega), Nat.add_sub_cancel_left]
        cases hb : H'.bs[b]? with
        | none => rw [hb] at g; cases g
        | some x =>
          rw [hb] at g
          cases x with
          | bld c => exact hj
          | _ => cases g
    · cases g
    · cases g
  unfold resOkC at ho
  cases v with
  | bool b => cases h; exact .bool _
  | int k m => cases h; exact .int _ _
  | string s => cases h; exact .string _
  | _ => exact deep _ rfl rfl ho
theorem shiftL_ok {ι ι' : Emb} {n : Nat} {H' : AH} : ∀ {l l' : List Value}, l.all (resOkC H') = true → VRs ι' l l' → VRs (ι.onto ι' n H') (l.map (shiftC n)) l' := by
  intro l
  induction l with
  | nil => intro l' _ h; cases h; exact .nil
  | cons x l ih =>
    intro l' ho h
    cases h with | cons _ v' _ l' h hs => ?_
    simp only [List.all_cons, Bool.and_eq_true] at ho
    exact .cons _ _ _ _ (shiftC_ok ho.1 h) (ih ho.2 hs)
theorem shiftV_ok {ι ι' : Emb} {n : Nat} {H' : AH} {v v' : Value} (ho : resOkV H' v = true) (h : VR ι' v v') : VR (ι.onto ι' n H') (shiftV n v) v' := by
  unfold resOkV at ho
  cases v with
  | agg cs =>
    obtain ⟨cs⟩ := cs
    cases h with | agg _ c' hc => ?_
    exact .agg _ _ (shiftL_ok ho hc)
  | _ => exact shiftC_ok ho h
theorem shiftVs_ok {ι ι' : Emb} {n : Nat} {H' : AH} : ∀ {l l' : List Value}, l.all (resOkV H') = true → VRs ι' l l' → VRs (ι.onto ι' n H') (l.map (shiftV n)) l' := by
  intro l
  induction l with
  | nil => intro l' _ h; cases h; exact .nil
  | cons x l ih =>
    intro l' ho h
    cases h with | cons _ v' _ l' h hs => ?_
    simp only [List.all_cons, Bool.and_eq_true] at ho
    exact .cons _ _ _ _ (shiftV_ok ho.1 h) (ih ho.2 hs)
theorem shiftR_ok {ι ι' : Emb} {n : Nat} {H' : AH} {v v' : Value} (ho : resOk H' v = true) (h : VR ι' v v') : VR (ι.onto ι' n H') (shiftR n v) v' := by
  unfold resOk at ho
  cases v with
  | tuple cs =>
    obtain ⟨cs⟩ := cs
    cases h with | tuple _ c' hc => ?_
    exact .tuple _ _ (shiftVs_ok ho hc)
  | _ => exact shiftV_ok ho h
theorem HR.callee {B : Nat} {ι : Emb} {H : AH} {w : World} (h : HR B ι H w) : HR w.heap.size ⟨fun _ => Option.none, ι.fz, ι.fz⟩ ⟨[], 0, []⟩ w :=
  ⟨fun _ _ h => (by cases h), fun _ _ h => (by cases h), fun _ _ _ _ h => (by cases h), Nat.le_refl _, fun r i d hd => by
    obtain ⟨⟨v', q1, q2⟩, q3, q4, q5⟩ := h.fz r i d hd
    exact ⟨⟨v', q1, fzy_cell q5 ι _ v' (fun _ _ _ h => h) q2⟩, fun _ _ q => (by cases q), .inl hd, q5⟩⟩
theorem shiftC_nil {n : Nat} {v : Value} (h : resOkC ⟨[], 0, []⟩ v = true) : shiftC n v = v := by
  have deep : ∀ u, v = u → deepC u (fun _ _ => true) (fun _ _ => false) (fun _ b _ => match getL (⟨[], 0, []⟩ : AH).bs b with | some x => (match x with | .bld _ => true | _ => false) | none => false) (fun _ => false) false = true → shiftC n v = v := by
    intro u hu h
    subst hu
    rcases deepC_some h with ⟨t, cs, rfl, _⟩ | ⟨_, _, _, g⟩ | ⟨t, b, m, rfl, g⟩ | ⟨_, _, g⟩ | g
    · rfl
    · cases g
    · cases g
    · cases g
    · cases g
  unfold resOkC at h
  cases v with
  | bool b => rfl
  | int k m => rfl
  | string s => rfl
  | _ => exact deep _ rfl h
theorem shiftL_nil {n : Nat} : ∀ {l : List Value}, l.all (resOkC ⟨[], 0, []⟩) = true → l.map (shiftC n) = l := by
  intro l
  induction l with
  | nil => intro _; rfl
  | cons x l ih =>
    intro h
    simp only [List.all_cons, Bool.and_eq_true] at h
    rw [List.map_cons, shiftC_nil h.1, ih h.2]
theorem shiftV_nil {n : Nat} {v : Value} (h : resOkV ⟨[], 0, []⟩ v = true) : shiftV n v = v := by
  unfold resOkV at h
  cases v with
  | agg cs =>
    obtain ⟨cs⟩ := cs
    show Value.agg ⟨cs.map (shiftC n)⟩ = _
    rw [shiftL_nil h]
  | _ => exact shiftC_nil h
theorem shiftVs_nil {n : Nat} : ∀ {l : List Value}, l.all (resOkV ⟨[], 0, []⟩) = true → l.map (shiftV n) = l := by
  intro l
  induction l with
  | nil => intro _; rfl
  | cons x l ih =>
    intro h
    simp only [List.all_cons, Bool.and_eq_true] at h
    rw [List.map_cons, shiftV_nil h.1, ih h.2]
theorem shiftR_nil {n : Nat} {v : Value} (h : resOk ⟨[], 0, []⟩ v = true) : shiftR n v = v := by
  unfold resOk at h
  cases v with
  | tuple cs =>
    obtain ⟨cs⟩ := cs
    show Value.tuple ⟨cs.map (shiftV n)⟩ = _
    rw [shiftVs_nil h]
  | _ => exact shiftV_nil h
section
variable {E : Env} {orc : Orc} {o : Oper} {fr : Frame} {H : AH} {k : K} {r : Value × AH}
theorem callQ_ok (hE : EnvOk E) (hO : OrcOk E orc) {c : Call} (ho : o.op = .call c) {f : Operand} (hcal : c.callee = .value f)
    {g : FuncId} {first captured : Array Value} {vs : List Value} (hf : arg fr f = some (.func (.func g) first captured)) (hv : args fr c.args.toList = some vs)
    (h : callQ E orc g (first.toList ++ vs ++ captured.toList) H k = some r) :
    ∃ v H', k v H' = some r ∧ Grow H H' ∧ Sim E o fr H v H' := by
  unfold callQ at h
  obtain ⟨fnc, hfn, h⟩ := Option.bind_eq_some_iff.1 h
  obtain ⟨hc, h⟩ := cond_some h
  obtain ⟨dvs, H1, h, g1, l1, o1, s1⟩ := keepVs_ok h
  have main : ∀ q : Value × AH, Good E.P g dvs ⟨[], 0, []⟩ q → resOk q.2 q.1 = true → k (shiftR H1.len q.1) (H1.onto q.2) = some r → ∃ v H', k v H' = some r ∧ Grow H H' ∧ Sim E o fr H v H' := by
    intro q hq hok h
    obtain ⟨hG, hcall⟩ := hq
    have hfl : q.2.floor = 0 := hG.floor
    have gr : Grow H1 (H1.onto q.2) := ⟨rfl, rfl, by unfold AH.onto AH.len; simp, fun b hb _ => onto_old hb⟩
    refine ⟨_, _, h, g1.trans gr, fun B ι a w hH ha next Q hn => ?_⟩
    obtain ⟨vs', hrun, hvr⟩ := call_enter hE ho hcal hf hv hfn hc ι a w ha
    obtain ⟨ι1, q1, q2, q3, q4⟩ := s1 B ι w vs' hH hvr
    refine wp_enter hrun (hcall _ ⟨fun _ => Option.none, ι1.fz, ι1.fz⟩ w _ q2.callee (fzy_list o1 (ι := ι1) (fun _ _ _ h => h) q3)) (fun e w' he => ?_)
    obtain ⟨ι', v', rfl, x1, x2, x3, x4⟩ := he
    have h5 := q2.onto x2 x4 x1.le.fz x1.le.S hfl
    refine ⟨_, rfl, hn (ι1.onto ι' H1.len q.2) _ w' ?_ h5 (shiftR_ok hok x3) (x4.mono hH.size)⟩
    refine q1.trans ⟨⟨fun b j hj => ?_, x1.le.fz, rfl⟩, fun b hb hn => ?_⟩ (Nat.le_refl H.len)
    · have hlt : b < H1.len := q2.dom hj
      show (if b < H1.len then ι1 b else _) = some j
      rw [if_pos hlt]; exact hj
    · show (if b < H1.len then ι1 b else _) = Option.none
      rw [if_pos (by rw [l1.1]; exact hb)]; exact hn
  have onto0 : H1.onto ⟨[], 0, []⟩ = H1 := by unfold AH.onto; simp
  cases hs : E.pol.spec g with
  | some s =>
    rw [hs] at h
    obtain ⟨v, h1, h2⟩ := hE.spec g s hs _ _ _ h
    by_cases hm : E.pol.mode g = 5
    · rw [if_pos hm] at h2
      obtain ⟨z, cs, rfl, h2⟩ := h2
      rw [hm] at h1
      refine main (ownR z cs) h2 rfl ?_
      have e : H1.onto (ownR z cs).2 = H1.push (.bld cs) := rfl
      rw [e]
      exact h1
    · rw [if_neg hm] at h2
      have h1 : cond (resOk ⟨[], 0, []⟩ v) (k v H1) none = some r := by
        have h1 : (match E.pol.mode g with
          | 5 => deepC v (fun z cs => k (dB z H1.len (dlen z cs)) (H1.push (.bld cs))) (fun _ _ => none) (fun _ _ _ => none) (fun _ => none) none
          | _ => cond (resOk ⟨[], 0, []⟩ v) (k v H1) none) = some r := h1
        split at h1
        · rename_i e; exact absurd e hm
        · exact h1
      obtain ⟨hok, h1⟩ := cond_some h1
      refine main (v, ⟨[], 0, []⟩) h2 hok ?_
      have hsh : shiftR H1.len v = v := shiftR_nil hok
      rw [onto0, hsh]; exact h1
  | none =>
    rw [hs] at h
    obtain ⟨q, hq, h⟩ := Option.bind_eq_some_iff.1 h
    obtain ⟨hok, h⟩ := cond_some h
    exact main q (hO g dvs ⟨[], 0, []⟩ q hq) hok h
theorem callM_ok (hE : EnvOk E) {c : Call} (ho : o.op = .call c) {f : Operand} (hcal : c.callee = .value f)
    {g : FuncId} {first captured : Array Value} {vs : List Value} (hf : arg fr f = some (.func (.func g) first captured)) (hv : args fr c.args.toList = some vs) (hm : E.pol.mode g = 6)
    (h : callM E g (first.toList ++ vs ++ captured.toList) H k = some r) :
    ∃ v H', k v H' = some r ∧ Grow H H' ∧ Sim E o fr H v H' := by
  unfold callM at h
  obtain ⟨fnc, hfn, h⟩ := Option.bind_eq_some_iff.1 h
  obtain ⟨hbody, h⟩ := cond_some h
  cases hs : E.pol.specM g with
  | none => rw [hs] at h; cases h
  | some s =>
    rw [hs] at h
    obtain ⟨v, H', h1, h2⟩ := hE.specM g s hs _ _ _ _ h
    classical
    let orc' : Orc := fun f' vs' H0 => if f' = g ∧ vs' = first.toList ++ vs ++ captured.toList ∧ H0 = H then some (v, H') else none
    have hO' : OrcOk E orc' := by
      intro f' vs' H0 r' hr
      by_cases hc : f' = g ∧ vs' = first.toList ++ vs ++ captured.toList ∧ H0 = H
      · obtain ⟨rfl, rfl, rfl⟩ := hc
        have e : orc' f' (first.toList ++ vs ++ captured.toList) H0 = some (v, H') := if_pos ⟨rfl, rfl, rfl⟩
        rw [e] at hr
        obtain rfl := Option.some.inj hr
        exact h2
      · have e : orc' f' vs' H0 = none := if_neg hc
        rw [e] at hr; cases hr
    refine call_ok hE hO' ho hcal hf hv ?_
    unfold callF
    rw [hfn]
    simp only [Option.bind_some, hbody, cond_true, hm]
    have e : orc' g (first.toList ++ vs ++ captured.toList) H = some (v, H') := if_pos ⟨rfl, rfl, rfl⟩
    rw [e]
    exact h1
theorem callD_ok (hE : EnvOk E) (hO : OrcOk E orc) {dst : Option Tmp} {type : TypeId} {pos : String} {after : Array Edge} {guard : Option (Nat × Bool)} {f : Operand} {as_ : Array Operand} {ats : Array TypeId}
    (h : oCallD E orc ⟨dst, .call ⟨.value f, as_, ats⟩, type, pos, after, guard⟩ fr H k ⟨.value f, as_, ats⟩ = some r) : ∃ v H', k v H' = some r ∧ Grow H H' ∧ Sim E ⟨dst, .call ⟨.value f, as_, ats⟩, type, pos, after, guard⟩ fr H v H' := by
  have h' : (arg fr f).bind (fun f => (args fr as_.toList).bind fun vs => match f with
    | .func fn first captured => (match fn with
      | .func g => (match E.pol.mode g with
        | 3 => callP E orc g (first.toList ++ vs ++ captured.toList) H fun v => k v H
        | 4 => callQ E orc g (first.toList ++ vs ++ captured.toList) H k
        | 5 => callQ E orc g (first.toList ++ vs ++ captured.toList) H k
        | 6 => callM E g (first.toList ++ vs ++ captured.toList) H k
        | _ => callF E orc g (first.toList ++ vs ++ captured.toList) H k)
      | _ => none)
    | _ => none) = some r := h
  obtain ⟨fv, hf, h1⟩ := Option.bind_eq_some_iff.1 h'
  obtain ⟨vs, hv, h2⟩ := Option.bind_eq_some_iff.1 h1
  cases fv with
  | func fn first captured =>
    cases fn with
    | func g =>
      simp only [] at h2
      split at h2
      · rename_i em; exact callP_ok hE hO (c := ⟨.value f, as_, ats⟩) rfl rfl hf hv (by rw [em]; decide) h2
      · exact callQ_ok hE hO (c := ⟨.value f, as_, ats⟩) rfl rfl hf hv h2
      · exact callQ_ok hE hO (c := ⟨.value f, as_, ats⟩) rfl rfl hf hv h2
      · rename_i em; exact callM_ok hE (c := ⟨.value f, as_, ats⟩) rfl rfl hf hv em h2
      · exact call_ok hE hO (c := ⟨.value f, as_, ats⟩) rfl rfl hf hv h2
    | _ => cases h2
  | _ => cases h2
end
end Go.Proofs.Yteljeekapcenlaa.Ev
