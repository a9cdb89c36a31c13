/-
  Ev, part X: maps: looking up, laying in. No conditions.
-/
import Derived.Test.YteljeekapcenlaaEvV
import Derived.Test.YteljeekapcenlaaEvJ
namespace Go.Proofs.Yteljeekapcenlaa.Ev
open Go Go.RowKit
section
variable {P : Program} {T : Ty} {H : AH} {r : Value × AH}
theorem entriesK_ok {t : TypeId} {x key : Value} {k : Nat → List (Value × Value) → Res} (h : entriesK T t H x key k = some r) :
    ∃ b es, x = .map (some b) ∧ H.bs[b]? = some (.map es) ∧ keyFit T t key = true ∧ es.all (fun e => keyFit T t e.1) = true ∧ k b es = some r ∧ ∀ k2 : Nat → List (Value × Value) → Res, entriesK T t H x key k2 = k2 b es := by
  unfold entriesK at h ⊢
  cases x <;> simp only [] at h <;> first | (cases h; done) | skip
  rename_i rr
  cases rr with
  | none => cases h
  | some b =>
    simp only [] at h ⊢
    obtain ⟨es, h1, h2⟩ := Option.bind_eq_some_iff.1 h
    obtain ⟨h3, h4⟩ := cond_some h2
    have h5 := h3
    simp only [Bool.and_eq_true] at h5
    refine ⟨b, es, rfl, mapAt_some h1, h5.1, h5.2, h4, fun k2 => ?_⟩
    rw [h1]
    simp only [Option.bind_some]
    rw [h3, cond_true]
theorem eqCells_any {ks : List Kd} : ∀ {xs ys : List Value} {c : Bool → Res} {r : Value × AH}, eqCells ks xs ys c = some r → ∃ b, c b = some r ∧ ∀ c2 : Bool → Res, eqCells ks xs ys c2 = c2 b := by
  intro xs ys c r h
  obtain ⟨b, hb, h1⟩ := eqCells_rows h
  refine ⟨b, h1, fun c2 => ?_⟩
  have key : ∀ (ks : List Kd) (xs ys : List Value) (b : Bool) (c2 : Bool → Res), eqRows ks xs ys = some b → eqCells ks xs ys c2 = c2 b := by
    intro ks
    induction ks with
    | nil =>
      intro xs ys b c2 h
      cases xs <;> cases ys <;> simp [eqRows] at h
      subst h; rfl
    | cons k ks ih =>
      intro xs ys b c2 h
      cases xs with
      | nil => simp [eqRows] at h
      | cons x xs =>
        cases ys with
        | nil => simp [eqRows] at h
        | cons y ys =>
          simp only [eqRows] at h
          obtain ⟨a, ha, h⟩ := Option.bind_eq_some_iff.1 h
          obtain ⟨b', hb', h⟩ := Option.bind_eq_some_iff.1 h
          simp at h; subst h
          show eqCell k x y (fun a => eqCells ks xs ys fun b => c2 (a && b)) = _
          have e1 : ∀ c3 : Bool → Res, eqCell k x y c3 = c3 a := by
            intro c3
            cases k <;> cases x <;> simp only [cellEq] at ha <;> first | (cases ha; done) | skip
            all_goals cases y <;> simp only [] at ha <;> first | (cases ha; done) | skip
            · simp at ha; subst ha; rfl
            · obtain ⟨hk, ha⟩ := cond_some ha
              simp at ha; subst ha
              show cond _ _ none = _
              rw [hk, cond_true]
            · simp at ha; subst ha; rfl
          rw [e1, ih _ _ _ _ hb']
  exact key ks xs ys b c2 hb
theorem findK_any {ks : List Kd} {key : Value} : ∀ {es : List (Value × Value)} {k : Option Value → Res}, findK ks key es k = some r → ∃ v, k v = some r ∧ ∀ k2 : Option Value → Res, findK ks key es k2 = k2 v := by
  intro es
  induction es with
  | nil => intro k h; exact ⟨none, h, fun _ => rfl⟩
  | cons e es ih =>
    intro k h
    have h' : eqCells ks (cellsOf key) (cellsOf e.1) (fun b => cond b (k (some e.2)) (findK ks key es k)) = some r := h
    obtain ⟨b, h1, h2⟩ := eqCells_any h'
    cases b with
    | true => exact ⟨some e.2, h1, fun k2 => by show eqCells ks (cellsOf key) (cellsOf e.1) (fun b => cond b (k2 (some e.2)) (findK ks key es k2)) = _; rw [h2]; rfl⟩
    | false =>
      obtain ⟨v, h3, h4⟩ := ih h1
      exact ⟨v, h3, fun k2 => by show eqCells ks (cellsOf key) (cellsOf e.1) (fun b => cond b (k2 (some e.2)) (findK ks key es k2)) = _; rw [h2]; exact h4 k2⟩
theorem updK_any {ks : List Kd} {key v : Value} : ∀ {es : List (Value × Value)} {k : List (Value × Value) → Res}, updK ks key v es k = some r → ∃ l, k l = some r ∧ ∀ k2 : List (Value × Value) → Res, updK ks key v es k2 = k2 l := by
  intro es
  induction es with
  | nil => intro k h; exact ⟨[(key, v)], h, fun _ => rfl⟩
  | cons e es ih =>
    intro k h
    have h' : eqCells ks (cellsOf key) (cellsOf e.1) (fun b => cond b (k ((e.1, v) :: es)) (updK ks key v es fun l => k (e :: l))) = some r := h
    obtain ⟨b, h1, h2⟩ := eqCells_any h'
    cases b with
    | true => exact ⟨(e.1, v) :: es, h1, fun k2 => by show eqCells ks (cellsOf key) (cellsOf e.1) (fun b => cond b (k2 ((e.1, v) :: es)) (updK ks key v es fun l => k2 (e :: l))) = _; rw [h2]; rfl⟩
    | false =>
      obtain ⟨l, h3, h4⟩ := ih h1
      exact ⟨e :: l, h3, fun k2 => by show eqCells ks (cellsOf key) (cellsOf e.1) (fun b => cond b (k2 ((e.1, v) :: es)) (updK ks key v es fun l => k2 (e :: l))) = _; rw [h2]; exact h4 _⟩
theorem opUpdate_any {t : TypeId} {m key v : Value} {k : AH → Res} (h : opUpdate T t m key v H k = some r) : ∃ H', k H' = some r ∧ ∀ k2 : AH → Res, opUpdate T t m key v H k2 = k2 H' := by
  unfold opUpdate at h ⊢
  cases hd : T.und t with
  | none => rw [hd] at h; cases h
  | some d =>
    rw [hd] at h
    cases d <;> simp only [] at h ⊢ <;> first | (cases h; done) | skip
    obtain ⟨h1, h2⟩ := cond_some h
    obtain ⟨b, es, _, _, _, _, h3, h4⟩ := entriesK_ok h2
    obtain ⟨h5, h6⟩ := cond_some h3
    obtain ⟨l, h7, h8⟩ := updK_any h6
    refine ⟨_, h7, fun k2 => ?_⟩
    rw [h1, cond_true, h4, h5, cond_true, h8]
theorem opLookup_any {t : TypeId} {x key : Value} {ok : Bool} {k : Value → Res} (h : opLookup T t x key ok H k = some r) : ∃ v, k v = some r ∧ ∀ k2 : Value → Res, opLookup T t x key ok H k2 = k2 v := by
  unfold opLookup at h ⊢
  cases hd : T.und t with
  | none => rw [hd] at h; cases h
  | some d =>
    rw [hd] at h
    cases d <;> simp only [] at h ⊢ <;> first | (cases h; done) | skip
    rename_i kt e
    obtain ⟨b, es, _, _, _, _, h3, h4⟩ := entriesK_ok h
    obtain ⟨v, h5, h6⟩ := findK_any h3
    cases v with
    | some v => exact ⟨_, h5, fun k2 => by rw [h4, h6]⟩
    | none =>
      simp only [] at h5
      unfold zeroOf at h5 
      obtain ⟨i, h7, h8⟩ := Option.bind_eq_some_iff.1 h5
      cases ha : isAggT T e with
      | true => simp only [ha, cond_true] at h8; exact ⟨_, h8, fun k2 => by rw [h4, h6]; simp only [zeroOf, h7, Option.bind_some, ha, cond_true]⟩
      | false => simp only [ha, cond_false] at h8; exact ⟨_, h8, fun k2 => by rw [h4, h6]; simp only [zeroOf, h7, Option.bind_some, ha, cond_false]⟩
variable (hT : Fits P T)
include hT
theorem run_checkKey_fit {t : TypeId} {key : Value} (h : keyFit T t key = true) (em : Bool) (w : World) : (Instr.checkKey em 10000 t key).run P w = .ok () w := by
  simp only [keyFit, Bool.and_eq_true] at h
  obtain ⟨p1, n, hf, hl, _⟩ := partV_key hT h.1
  have := checkKey_flat (em := em) 8 t n hf 10000 (by omega) w _ hl
  rw [p1] at this
  exact this
theorem opLookup_ok {t : TypeId} {x key : Value} {ok : Bool} {k : Value → Res} (h : opLookup T t x key ok H k = some r) :
    ∃ v, k v = some r ∧ ∀ B ι w x' key', HR B ι H w → VR ι x x' → VR ι key key' → ∃ v', (Instr.lookup t x' key' ok).run P w = .ok v' w ∧ VR ι v v' := by
  unfold opLookup at h
  cases hd : T.und t with
  | none => rw [hd] at h; cases h
  | some d =>
    rw [hd] at h
    have hu := hT.und hd
    cases d <;> simp only [] at h <;> first | (cases h; done) | skip
    rename_i kt e
    obtain ⟨b, es, rfl, hb, hk, ha, h3, _⟩ := entriesK_ok h
    have hkd : ∃ d, P.underlying kt = some d := by
      simp only [keyFit, keyOk, Bool.and_eq_true] at hk
      obtain ⟨i, hg, _⟩ := flatEq_of hT hk.1.1.2
      exact ⟨_, (hT.get hg).und⟩
    obtain ⟨kd, hkd⟩ := hkd
    have real : ∀ B ι w x' key', HR B ι H w → VR ι (.map (some b)) x' → VR ι key key' → ∃ (j : Inj) (es' : Array MapEntry) (cl : Nat), ι b = some j ∧ x' = .map (some j.blk) ∧ key' = key ∧ w.heap[j.blk]? = some (.map es' cl) ∧ MRp ι es es'.toList ∧ (es.map (·.1)).Nodup := by
      intro B ι w x' key' hH hx hkk
      have e1 := plain_eq (keyFit_plain hk) hkk
      cases hx with | map _ j hj => ?_
      obtain ⟨y, hy, hbr⟩ := hH.blk b j hj
      rw [hb] at hy
      simp at hy; subst hy
      obtain ⟨es', cl, q1, q2, q3⟩ := hbr
      exact ⟨j, es', cl, hj, rfl, e1, q1, q2, q3⟩
    rcases findK_ok hT hk ha h3 with ⟨a, ha1, ha2, h4⟩ | ⟨hno, h4⟩
    · refine ⟨_, h4, fun B ι w x' key' hH hx hkk => ?_⟩
      obtain ⟨j, es', cl, _, rfl, rfl, q1, q2, q3⟩ := real B ι w x' key' hH hx hkk
      obtain ⟨jj, v', r1, r2, _⟩ := (map_find (w := w) hT hkd hk ha q2 q3).1 a ha1 ha2
      refine ⟨if ok then .tuple #[v', .bool true] else v', ?_, ?_⟩
      · simp [Instr.lookup, run_underlying hu, MapKept.run_getObj_map q1, run_checkKey_fit hT hk, r2]
      · cases ok
        · exact r1
        · exact .tuple _ _ (.cons _ _ _ _ r1 (.cons _ _ _ _ (.bool _) .nil))
    · unfold zeroOf at h4
      obtain ⟨i, hi, h5⟩ := Option.bind_eq_some_iff.1 h4
      obtain ⟨inf, z, i1, i2, i3, i4, i5, i6, i7, i8, i9⟩ := (hT.get hi).info
      have run : ∀ B ι w x' key', HR B ι H w → VR ι (.map (some b)) x' → VR ι key key' → (Instr.lookup t x' key' ok).run P w = .ok (if ok then .tuple #[z, .bool false] else z) w := by
        intro B ι w x' key' hH hx hkk
        obtain ⟨j, es', cl, _, rfl, rfl, q1, q2, q3⟩ := real B ι w x' key' hH hx hkk
        have r2 := (map_find (w := w) hT hkd hk ha q2 q3).2 hno
        simp [Instr.lookup, run_underlying hu, MapKept.run_getObj_map q1, run_checkKey_fit hT hk, r2, run_zeroValue i1 i4]
      have hagi : isAggT T e = i.agg := by unfold isAggT; rw [hi]
      have hz : ∀ ι, VR ι (cond (isAggT T e) (.agg i.zero.toArray) (i.zero.headD undef)) z := by
        intro ι
        have hzz := plain_refl ι i5
        cases hag : isAggT T e with
        | true =>
          obtain ⟨c, rfl⟩ := i8 (by rw [← hagi, hag])
          have : c = i.zero.toArray := by rw [← i7]; simp [cellsOf]
          rw [cond_true, ← this]; exact hzz
        | false =>
          have h1 := i9 (by rw [← hagi, hag])
          have : z = i.zero.headD undef := by
            rw [← i7]
            cases z <;> first | rfl | (simp [oneCell] at h1; done)
          rw [cond_false, ← this]; exact hzz
      refine ⟨cond ok (.tuple #[cond (isAggT T e) (.agg i.zero.toArray) (i.zero.headD undef), .bool false]) (cond (isAggT T e) (.agg i.zero.toArray) (i.zero.headD undef)), ?_, fun B ι w x' key' hH hx hkk => ⟨_, run B ι w x' key' hH hx hkk, ?_⟩⟩
      · rw [← h5]; cases isAggT T e <;> rfl
      · cases ok
        · exact hz ι
        · exact .tuple _ _ (.cons _ _ _ _ (hz ι) (.cons _ _ _ _ (.bool _) .nil))
omit hT in
theorem MRs.split {ι : Emb} : ∀ {es1 : List (Value × Value)} {a : Value × Value} {es2 : List (Value × Value)} {l : List MapEntry}, MRs ι (es1 ++ a :: es2) l → ∃ l1 e l2, l = l1 ++ e :: l2 ∧ MRs ι es1 l1 ∧ VR ι a.1 e.key ∧ VR ι a.2 e.val ∧ MRs ι es2 l2 := by
  intro es1
  induction es1 with
  | nil =>
    intro a es2 l h
    cases l with
    | nil => cases h
    | cons e l => exact ⟨[], e, l, rfl, trivial, h.1, h.2.1, h.2.2⟩
  | cons x es1 ih =>
    intro a es2 l h
    cases l with
    | nil => cases h
    | cons y l =>
      obtain ⟨l1, e, l2, h1, h2, h3, h4, h5⟩ := ih h.2.2
      exact ⟨y :: l1, e, l2, by rw [h1]; rfl, ⟨h.1, h.2.1, h2⟩, h3, h4, h5⟩
omit hT in
theorem MRs.join {ι : Emb} : ∀ {es1 : List (Value × Value)} {a : Value × Value} {es2 : List (Value × Value)} {l1 l2 : List MapEntry} {e : MapEntry}, MRs ι es1 l1 → VR ι a.1 e.key → VR ι a.2 e.val → MRs ι es2 l2 → MRs ι (es1 ++ a :: es2) (l1 ++ e :: l2) := by
  intro es1
  induction es1 with
  | nil =>
    intro a es2 l1 l2 e h1 h2 h3 h4
    cases l1 with
    | nil => exact ⟨h2, h3, h4⟩
    | cons _ _ => cases h1
  | cons x es1 ih =>
    intro a es2 l1 l2 e h1 h2 h3 h4
    cases l1 with
    | nil => cases h1
    | cons y l1 => exact ⟨h1.1, h1.2.1, ih h1.2.2 h2 h3 h4⟩
theorem updK_ok {t : TypeId} {key v : Value} (hk : keyFit T t key = true) : ∀ {es : List (Value × Value)} {k : List (Value × Value) → Res}, es.all (fun e => keyFit T t e.1) = true → updK (kinds T t) key v es k = some r →
    (∃ es1 a es2, es = es1 ++ a :: es2 ∧ a.1 = key ∧ k (es1 ++ (a.1, v) :: es2) = some r) ∨ ((∀ a ∈ es, a.1 ≠ key) ∧ k (es ++ [(key, v)]) = some r) := by
  intro es
  induction es with
  | nil => intro k _ h; exact .inr ⟨fun a ha => (by cases ha), h⟩
  | cons e es ih =>
    intro k ha h
    simp only [List.all_cons, Bool.and_eq_true] at ha
    have h' : eqCells (kinds T t) (cellsOf key) (cellsOf e.1) (fun b => cond b (k ((e.1, v) :: es)) (updK (kinds T t) key v es fun l => k (e :: l))) = some r := h
    obtain ⟨b, hb, h2⟩ := eqCells_rows h'
    obtain ⟨b2, hb2, hi, _⟩ := key_equal hT hk ha.1
    rw [hb] at hb2
    obtain rfl := Option.some.inj hb2
    cases b with
    | true => exact .inl ⟨[], e, es, rfl, (hi.1 rfl).symm, h2⟩
    | false =>
      have hne : ¬ key = e.1 := fun q => by have := hi.2 q; cases this
      rcases ih ha.2 h2 with ⟨es1, a, es2, q1, q2, q3⟩ | ⟨q1, q2⟩
      · exact .inl ⟨e :: es1, a, es2, by rw [q1]; rfl, q2, q3⟩
      · refine .inr ⟨fun a ha => ?_, q2⟩
        rcases List.mem_cons.1 ha with rfl | ha
        · exact fun q => hne q.symm
        · exact q1 a ha
omit hT in
theorem okCells_same {ks : List Kd} : ∀ {vs : List Value}, okCells ks vs = true → ∀ n, (vs.zip vs).all (fun (x, y) => Instr.sameBits n x y) = true := by
  induction ks with
  | nil => intro vs h; rw [okCells_nil h]; intro n; rfl
  | cons k ks ih =>
    intro vs h n
    obtain ⟨v, l, rfl, h1, h2⟩ := okCells_cons h
    simp only [List.zip_cons_cons, List.all_cons, ih h2 n, Bool.and_true]
    cases k <;> simp only [Kd.holds] at h1 <;> first | (cases h1; done) | skip
    all_goals cases v <;> simp only [] at h1 <;> first | (cases h1; done) | (cases n <;> simp [Instr.sameBits])
omit hT in
theorem key_stays {t : TypeId} {key : Value} (hk : keyFit T t key = true) (w : World) : (Instr.keyThatStays key key).run P w = .ok key w := by
  have : Instr.sameBits 10000 key key = true := by
    simp only [keyFit, Bool.and_eq_true] at hk
    have h2 := hk.2
    cases key with
    | agg cs =>
      have h3 := okCells_same h2 9999
      simp only [cellsOf] at h3
      show (cs.size == cs.size && (cs.toList.zip cs.toList).all fun (x, y) => Instr.sameBits 9999 x y) = true
      rw [h3]; simp
    | _ =>
      simp only [cellsOf] at h2
      generalize kinds T t = ks at h2
      cases ks with
      | nil => exact absurd (okCells_nil h2) (by simp)
      | cons k ks =>
        obtain ⟨v, l, e1, e2, _⟩ := okCells_cons h2
        simp at e1
        obtain ⟨rfl, rfl⟩ := e1
        cases k <;> simp only [Kd.holds] at e2 <;> first | (cases e2; done) | simp [Instr.sameBits]
  unfold Instr.keyThatStays
  rw [if_pos this]
  rfl
omit hT in
theorem HR.putMap {B : Nat} {ι : Emb} {H : AH} {w w' : World} (hr : HR B ι H w) {b0 : Nat} {j : Inj} (hj : ι b0 = some j) {es es2 : List (Value × Value)} (hc : H.bs[b0]? = some (.map es)) (hfl : H.floor ≤ b0) {o : Obj}
    (hw : w'.heap = w.heap.setIfInBounds j.blk o) (hs : w'.os = w.os ∧ w'.tape = w.tape ∧ w'.output = w.output) (hb : BR ι w' true j (.map es2)) : HR B ι (H.put b0 (.map es2)) w' ∧ Below B w w' := by
  have hlive : live H b0 := by unfold live; rw [hc]; simp
  have hB := hr.base _ _ hj hfl hlive
  have hdom := hr.dom hj
  have hput : ∀ b, (H.put b0 (.map es2)).bs[b]? = if b = b0 then some (.map es2) else H.bs[b]? := by
    intro b
    simp only [AH.put]
    split
    · rename_i e; subst e; simp [hdom]
    · rename_i e; rw [List.getElem?_set_ne (fun q => e q.symm)]
  have hlv : ∀ b, live (H.put b0 (.map es2)) b → live H b := by
    intro b hb
    unfold live at *
    rw [hput] at hb
    split at hb
    · rename_i e; subst e; rw [hc]; simp
    · exact hb
  have hblk : ∀ k, k ≠ j.blk → w'.heap[k]? = w.heap[k]? := fun k hk => by rw [hw, Array.getElem?_setIfInBounds_ne (fun e => hk e.symm)]
  refine ⟨⟨fun b j' hj' => ?_, fun b j' hj' hf hl => hr.base b j' hj' hf (hlv b hl), fun b b' j1 j2 q1 q2 hne hf l1 l2 => hr.inj b b' j1 j2 q1 q2 hne hf (hlv b l1) (hlv b' l2), by rw [hw]; simpa using hr.size, fun r i d hd => ⟨hr.fz_world (fun r i d hd _ => hblk _ fun q => (hr.fz r i d hd).2.1 b0 j hj hfl hlive q.symm) hd, fun b j' hj' hf hl => (hr.fz r i d hd).2.1 b j' hj' hf (hlv b hl), (hr.fz r i d hd).2.2⟩⟩, ?_⟩
  · rw [hput]
    split
    · rename_i e0
      subst e0
      rw [hj] at hj'
      simp at hj'
      subst hj'
      exact ⟨_, rfl, hb.wr (fun _ => rfl)⟩
    · rename_i e0
      obtain ⟨y, hy, hbr⟩ := hr.blk b j' hj'
      refine ⟨y, hy, hbr.world fun hd => hblk _ ?_⟩
      have := hr.inj b0 b j j' hj hj' (fun q => e0 q.symm) hfl hlive (by unfold live; rw [hy]; simpa using hd)
      exact fun q => this q.symm
  · exact ⟨hs.1, hs.2.1, hs.2.2, by rw [hw]; simp, fun k hk => hblk k (by omega)⟩
theorem opUpdate_ok {t : TypeId} {m key v : Value} {k : AH → Res} (h : opUpdate T t m key v H k = some r) :
    ∃ H', k H' = some r ∧ Grow H H' ∧ ∀ B ι w m' key' v', HR B ι H w → VR ι m m' → VR ι key key' → VR ι v v' → ∃ w', (Instr.mapUpdate t m' key' v').run P w = .ok () w' ∧ HR B ι H' w' ∧ Below B w w' := by
  unfold opUpdate at h
  cases hd : T.und t with
  | none => rw [hd] at h; cases h
  | some d =>
    rw [hd] at h
    have hu := hT.und hd
    cases d <;> simp only [] at h <;> first | (cases h; done) | skip
    rename_i kt e
    obtain ⟨_, h⟩ := cond_some h
    obtain ⟨b, es, rfl, hb, hk, ha, h3, _⟩ := entriesK_ok h
    obtain ⟨hw, h3⟩ := cond_some h3
    have hfl : H.floor ≤ b := by
      simp only [AH.wok, Bool.and_eq_true] at hw; exact Nat.le_of_ble_eq_true hw.1
    have hkd : ∃ d, P.underlying kt = some d := by
      simp only [keyFit, keyOk, Bool.and_eq_true] at hk
      obtain ⟨i, hg, _⟩ := flatEq_of hT hk.1.1.2
      exact ⟨_, (hT.get hg).und⟩
    obtain ⟨kd, hkd⟩ := hkd
    have real : ∀ B ι w m' key', HR B ι H w → VR ι (.map (some b)) m' → VR ι key key' → ∃ (j : Inj) (es' : Array MapEntry) (cl : Nat), ι b = some j ∧ m' = .map (some j.blk) ∧ key' = key ∧ w.heap[j.blk]? = some (.map es' cl) ∧ MRp ι es es'.toList ∧ (es.map (·.1)).Nodup := by
      intro B ι w m' key' hH hx hkk
      have e1 := plain_eq (keyFit_plain hk) hkk
      cases hx with | map _ j hj => ?_
      obtain ⟨y, hy, hbr⟩ := hH.blk b j hj
      rw [hb] at hy
      simp at hy; subst hy
      obtain ⟨es', cl, q1, q2, q3⟩ := hbr
      exact ⟨j, es', cl, hj, rfl, e1, q1, q2, q3⟩
    rcases updK_ok hT hk ha h3 with ⟨es1, a, es2, rfl, hak, h4⟩ | ⟨hno, h4⟩
    · refine ⟨_, h4, Grow.put _ _ hw, fun B ι w m' key' v' hH hm hkk hv => ?_⟩
      obtain ⟨j, es', cl, hj, rfl, rfl, q1, q2, q3⟩ := real B ι w m' key' hH hm hkk
      obtain ⟨jj, v0, r1, r2, e0, r3, r4⟩ := (map_find (w := w) hT hkd hk ha q2 q3).1 a (by simp) hak
      have hjl : jj < es'.size := by
        have := (List.getElem?_eq_some_iff.1 r3).1; simpa using this
      have hold : ((es'[jj]?).map (·.key)).getD key' = key' := by
        have : es'[jj]? = some e0 := by simpa using r3
        rw [this]; simpa using r4
      have hrun : (Instr.mapUpdate t (.map (some j.blk)) key' v').run P w = .ok () { w with heap := w.heap.setIfInBounds j.blk (.map (es'.modify jj fun e => { e with key := key', val := v' }) cl) } := by
        simp [Instr.mapUpdate, run_underlying hu, MapKept.run_getObj_map q1, run_checkKey_fit hT hk, r2, hold, key_stays hk, MapKept.run_setObj_map _ q1]
      refine ⟨_, hrun, hH.putMap hj hb hfl rfl ⟨rfl, rfl, rfl⟩ ⟨es'.modify jj fun e => { e with key := key', val := v' }, cl, ?_, ?_, ?_⟩⟩
      · have hlt := (Array.getElem?_eq_some_iff.1 q1).1
        simp [hlt]
      · -- the entries
        obtain ⟨l, p1, p2⟩ := q2
        obtain ⟨l1, e1, l2, s1, s2, s3, s4, s5⟩ := p2.split
        have he1k : e1.key = key' := by
          have := plain_eq (keyFit_plain (List.all_eq_true.1 ha a (by simp))) s3
          rw [this, hak]
        have hml : (es'.modify jj fun e => { e with key := key', val := v' }).toList = es'.toList.modify jj fun e => { e with key := key', val := v' } := by simp
        rw [hml]
        refine ⟨l1 ++ { e1 with key := key', val := v' } :: l2, ?_, MRs.join s2 (by rw [hak]; exact plain_refl ι (keyFit_plain hk)) hv s5⟩
        -- the entry that was found is the one
        have uniq : ∀ x ∈ es'.toList, x.key = key' → x = e1 := by
          intro x hx hxk
          have hx' : x ∈ l1 ++ e1 :: l2 := by rw [← s1]; exact p1.mem_iff.2 hx
          have nk : ((l1 ++ e1 :: l2).map (·.key)).Nodup := by
            have hmap : (l1 ++ e1 :: l2).map (·.key) = (es1 ++ a :: es2).map (·.1) := by
              rw [← s1]
              have key : ∀ (es : List (Value × Value)) (l : List MapEntry), es.all (fun e => keyFit T kt e.1) = true → MRs ι es l → l.map (·.key) = es.map (·.1) := by
                intro es
                induction es with
                | nil => intro l _ h; cases l with | nil => rfl | cons _ _ => cases h
                | cons a es ih =>
                  intro l ha h
                  simp only [List.all_cons, Bool.and_eq_true] at ha
                  cases l with
                  | nil => cases h
                  | cons e l => simp only [List.map_cons, ih l ha.2 h.2.2, plain_eq (keyFit_plain ha.1) h.1]
              exact key _ _ ha p2
            rw [hmap]; exact q3
          rcases List.mem_append.1 hx' with h1 | h1
          · rw [List.map_append, List.nodup_append] at nk
            exact absurd (by rw [hxk, he1k]) (nk.2.2 x.key (List.mem_map.2 ⟨x, h1, rfl⟩) e1.key (by simp))
          · rcases List.mem_cons.1 h1 with h1 | h1
            · exact h1
            · rw [List.map_append, List.nodup_append] at nk
              have := nk.2.1
              simp only [List.map_cons, List.nodup_cons] at this
              exact absurd (List.mem_map.2 ⟨x, h1, by rw [hxk, he1k]⟩) this.1
        have he0 : e0 = e1 := uniq e0 (List.mem_of_getElem? r3) r4
        subst he0
        have hsp : es'.toList = es'.toList.take jj ++ e0 :: es'.toList.drop (jj + 1) := by
          have hlt := (List.getElem?_eq_some_iff.1 r3).1
          have e2 := (List.getElem?_eq_some_iff.1 r3).2
          rw [← e2, List.getElem_cons_drop, List.take_append_drop]
        have hmod : es'.toList.modify jj (fun e => { e with key := key', val := v' }) = es'.toList.take jj ++ { e0 with key := key', val := v' } :: es'.toList.drop (jj + 1) := by
          have hlt := (List.getElem?_eq_some_iff.1 r3).1
          have e2 := (List.getElem?_eq_some_iff.1 r3).2
          rw [List.modify_eq_take_cons_drop hlt, e2]
        rw [hmod]
        rw [s1, hsp] at p1
        have p3 : (l1 ++ l2).Perm (es'.toList.take jj ++ es'.toList.drop (jj + 1)) := by
          have a1 : (e0 :: (l1 ++ l2)).Perm (l1 ++ e0 :: l2) := List.perm_middle.symm
          have a2 : (e0 :: (es'.toList.take jj ++ es'.toList.drop (jj + 1))).Perm (es'.toList.take jj ++ e0 :: es'.toList.drop (jj + 1)) := List.perm_middle.symm
          exact List.Perm.cons_inv (a1.trans (p1.trans a2.symm))
        exact List.perm_middle.trans ((p3.cons _).trans List.perm_middle.symm)
      · simpa using q3
    · refine ⟨_, h4, Grow.put _ _ hw, fun B ι w m' key' v' hH hm hkk hv => ?_⟩
      obtain ⟨j, es', cl, hj, rfl, rfl, q1, q2, q3⟩ := real B ι w m' key' hH hm hkk
      have r2 := (map_find (w := w) hT hkd hk ha q2 q3).2 hno
      have hrun : (Instr.mapUpdate t (.map (some j.blk)) key' v').run P w = .ok () { w with heap := w.heap.setIfInBounds j.blk (.map (es'.push ⟨key', v', cl⟩) (cl + 1)) } := by
        simp [Instr.mapUpdate, run_underlying hu, MapKept.run_getObj_map q1, run_checkKey_fit hT hk, r2, MapKept.run_setObj_map _ q1]
      refine ⟨_, hrun, hH.putMap hj hb hfl rfl ⟨rfl, rfl, rfl⟩ ⟨es'.push ⟨key', v', cl⟩, cl + 1, ?_, ?_, ?_⟩⟩
      · have hlt := (Array.getElem?_eq_some_iff.1 q1).1
        simp [hlt]
      · obtain ⟨l, p1, p2⟩ := q2
        refine ⟨l ++ [⟨key', v', cl⟩], by rw [Array.toList_push]; exact p1.append_right _, MRs.snoc (a := (key', v)) (plain_refl ι (keyFit_plain hk)) hv p2⟩
      · rw [List.map_append, List.nodup_append]
        refine ⟨q3, by simp, fun x hx y hy e => ?_⟩
        simp at hy
        obtain ⟨a, ha1, ha2⟩ := List.mem_map.1 hx
        exact hno a ha1 (by rw [ha2, e, hy])
end
end Go.Proofs.Yteljeekapcenlaa.Ev
