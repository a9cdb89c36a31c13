/-
  Ev, part Ga: functions whose slices are deep values: loops at whose heads the memory is laid anew; what a function answers. Definitions and proofs. No conditions.
-/
import Derived.Test.YteljeekapcenlaaEvM
namespace Go.Proofs.Yteljeekapcenlaa.Ev
open Go Go.RowKit
set_option linter.unusedSimpArgs false
set_option linter.unusedVariables false
noncomputable def refsV (n : Nat) : Value → List Nat :=
  Nat.rec (motive := fun _ => Value → List Nat) (fun _ => []) (fun _ ih v => match v with
    | .pointer a => (match a with | some a => [a.block] | none => [])
    | .func _ f c => f.toList.flatMap ih ++ c.toList.flatMap ih
    | .agg cs => cs.toList.flatMap ih
    | v => deepC v (fun _ _ => []) (fun _ _ => []) (fun _ b _ => [b]) (fun _ => []) []) n
noncomputable def mapO {α β : Type} (f : α → Option β) (l : List α) : Option (List β) :=
  List.rec (motive := fun _ => Option (List β)) (some []) (fun x _ ih => (f x).bind fun y => ih.bind fun ys => some (y :: ys)) l
noncomputable def renV (σ : Nat → Option Nat) (n : Nat) : Value → Option Value :=
  Nat.rec (motive := fun _ => Value → Option Value) (fun _ => none) (fun _ ih v => match v with
    | .bool b => some (.bool b)
    | .int k m => some (.int k m)
    | .string s => some (.string s)
    | .pointer a => (match a with | some a => (match a.spot with | none => (σ a.block).bind fun b => some (.pointer (some ⟨b, a.off, none⟩)) | some _ => none) | none => some (.pointer none))
    | .slice a l c => cond (a.isNone && Nat.beq l 0 && Nat.beq c 0) (some (.slice none 0 0)) none
    | .func fn f c => (mapO ih f.toList).bind fun f => (mapO ih c.toList).bind fun c => some (.func fn ⟨f⟩ ⟨c⟩)
    | .nilFunc => some .nilFunc
    | .agg cs => (mapO ih cs.toList).bind fun l => some (.agg ⟨l⟩)
    | v => deepC v (fun t cs => some (dS t cs)) (fun off cs => some (dP off cs)) (fun t b m => (σ b).bind fun b => some (dB t b m)) (fun t => some (dE t)) none) n
noncomputable def renB (σ : Nat → Option Nat) (x : Blk) : Blk :=
  match x with
  | .cells c => (match mapO (renV σ 6) c with | some c => .cells c | none => .dead)
  | .bld c => .bld c
  | _ => .dead
noncomputable def reach (H : AH) (n : Nat) : List Nat → List Nat → List Nat :=
  Nat.rec (motive := fun _ => List Nat → List Nat → List Nat) (fun _ acc => acc) (fun _ ih todo acc => match todo with
    | [] => acc
    | b :: rest => cond (acc.any (Nat.beq b)) (ih rest acc)
        (match getL H.bs b with
         | some x => (match x with
           | .cells c => ih (rest ++ c.flatMap (refsV 6)) (acc ++ [b])
           | .bld _ => ih rest (acc ++ [b])
           | _ => ih rest acc)
         | none => ih rest acc)) n
noncomputable def idxN (acc : List Nat) (b : Nat) : Option Nat :=
  List.rec (motive := fun _ => Option Nat) none (fun x _ ih => cond (Nat.beq x b) (some 0) (ih.bind fun i => some (i + 1))) acc
noncomputable def nodupN (l : List Nat) : Bool := List.rec (motive := fun _ => Bool) true (fun x xs ih => !(xs.any (Nat.beq x)) && ih) l
noncomputable def rootsF (fr : Frame) : List Nat := fr.flatMap fun o => match o with | some v => refsV 6 v | none => []
noncomputable def newB (H : AH) (acc : List Nat) (b : Nat) : Blk := match getL H.bs b with | some x => renB (idxN acc) x | none => .dead
noncomputable def layG (fr : Frame) (H : AH) (k : Frame → AH → Res) : Res :=
  cond (Nat.beq H.floor 0 && H.lock.isEmpty)
    ((fun acc => cond (nodupN acc) (k (fr.map fun o => o.bind (renV (idxN acc) 6)) ⟨acc.map (newB H acc), 0, []⟩) none) (reach H 60 (rootsF fr) [])) none
noncomputable def matB (v : Value) (z : Nat) (H : AH) (k : Value → AH → Res) : Res :=
  match v with
  | .slice a l c => cond (a.isNone && Nat.beq l 0 && Nat.beq c 0 && Nat.blt 0 z) (k (dB z H.len 0) (H.push (.bld []))) none
  | v => deepC v (fun _ _ => k v H) (fun _ _ => k v H)
      (fun t b n => match getL H.bs b with
        | some x => (match x with | .cells c => cond (c.all cellOk) (k v (H.put b (.bld c))) (k v H) | _ => k v H)
        | none => k v H) (fun _ => cond (Nat.blt 0 z) (k (dB z H.len 0) (H.push (.bld []))) none) (k v H)
noncomputable def matF (l : List (Nat × Nat)) : Frame → AH → (Frame → AH → Res) → Res :=
  List.rec (motive := fun _ => Frame → AH → (Frame → AH → Res) → Res) (fun fr H k => k fr H)
    (fun x _ ih fr H k => match getF fr x.1 with
      | some v => matB v x.2 H fun v H => ih (setF fr x.1 (some v)) H k
      | none => ih fr H k) l
noncomputable def matC (l : List (Nat × Nat × Nat)) (fr : Frame) : AH → (AH → Res) → Res :=
  List.rec (motive := fun _ => AH → (AH → Res) → Res) (fun H k => k H)
    (fun x _ ih H k => match getF fr x.1 with
      | some v => (match v with
        | .pointer a => (match a with
          | some a => (H.row a.block).bind fun c => (getL c x.2.1).bind fun u => matB u x.2.2 H fun u H => cond (H.wok a.block) (ih (H.put a.block (.cells (c.set x.2.1 u))) k) none
          | none => ih H k)
        | _ => ih H k)
      | none => ih H k) l
structure Mats where
  slots : FuncId → Nat → List (Nat × Nat) := fun _ _ => []
  cells : FuncId → Nat → List (Nat × Nat × Nat) := fun _ _ => []
  own : FuncId → Bool := fun _ => false
noncomputable def headG (M : Mats) (f id : Nat) (fr : Frame) (H : AH) (k : Frame → AH → Res) : Res :=
  matF (M.slots f id) fr H fun fr H => matC (M.cells f id) fr H fun H => layG fr H k
noncomputable def loopG (g : Frame → AH → (Frame → AH → Res) → Res) (step : Frame → AH → KC → Res) (n : Nat) : Frame → AH → KC → Res :=
  Nat.rec (motive := fun _ => Frame → AH → KC → Res) (fun _ _ _ => none) (fun _ ih fr H k => step fr H (seqK (fun fr H k => g fr H fun fr H => ih fr H k) k)) n
noncomputable def idOf (c : Code) : Nat := match headId c with | some i => i | none => 999
noncomputable def evCodeD (E : Env) (M : Mats) (orc : Orc) (m : Nat) (f : FuncId) (c : Code) : Frame → AH → KC → Res :=
  Code.rec (motive := fun _ => Frame → AH → KC → Res)
    (fun fr H k => k .normal fr H)
    (fun id ops draw fr H k => evRegion E orc f id ops draw fr H k)
    (fun _ _ iha ihb fr H k => iha fr H (seqK ihb k))
    (fun c _ _ iha ihb fr H k => condR fr c (fun fr => iha fr H k) (fun fr => ihb fr H k))
    (fun id _ ih fr H k => ih fr H (blockK id k))
    (fun c ih fr H k => headG M f (idOf c) (clearF fr (headClear E.pol f c)) H fun fr H => loopG (headG M f (idOf c)) (fun fr H k => ih fr H (clrK (headClear E.pol f c) k)) m fr H k)
    (fun _ _ _ _ _ _ _ _ _ => none)
    (fun id fr H k => k (.exit id) fr H)
    (fun _ _ _ _ _ => none)
    (fun _ fr H k => k .normal fr H)
    (fun _ _ _ _ => none)
    (fun fr H k => k .ret fr H)
    (fun _ _ _ _ => none) c
noncomputable def endK (E : Env) (fn : Func) (vs : List Value) (H : AH) : Res :=
  keepVs E.T fn.resultTypes.toList vs H fun ds _ => match ds with | [d] => ret d | ds => ret (.tuple ⟨ds⟩)
noncomputable def ownK (vs : List Value) (H : AH) (z : Nat) : Res :=
  match vs with
  | [v] => matB v z H fun v H => deepC v (fun _ _ => none) (fun _ _ => none) (fun t b n => cond (Nat.beq H.floor 0) (H.bldAt b (fun cs => cond (Nat.blt 0 t && Nat.beq (n * t) cs.length) (some (ownR t cs)) none) none) none) (fun _ => none) none
  | _ => none
noncomputable def endR (E : Env) (M : Mats) (f : FuncId) (fn : Func) (fr : Frame) (H : AH) : Res :=
  resK E.T fr H fn.results.toList fun vs => cond (M.own f) (match fn.resultTypes.toList with | t :: _ => (match E.T.und t with | some (.slice e) => ownK vs H (sizeN E.T e) | _ => none) | [] => none) (endK E fn vs H)
noncomputable def evEndD (E : Env) (M : Mats) (f : FuncId) (fn : Func) : KC
  | .exit _, _, _ => none
  | .normal, fr, H => endR E M f fn fr H
  | .ret, fr, H => endR E M f fn fr H
noncomputable def evBodyD (E : Env) (M : Mats) (orc : Orc) (m : Nat) (f : FuncId) (as : List Value) : Res :=
  (E.P.funcs[f]?).bind fun fn => fn.body.bind fun c => evCodeD E M orc m f c (initF fn.ntmps as) ⟨[], 0, []⟩ (evEndD E M f fn)
noncomputable def isEmptyH (H : AH) : Bool := H.bs.isEmpty && Nat.beq H.floor 0 && H.lock.isEmpty
noncomputable def evTabD (E : Env) (M : Mats) (tab : Tab) (m : Nat) (n : Nat) : Orc :=
  Nat.rec (motive := fun _ => Orc)
    (fun f vs H => match findT tab f with | some s => s vs H | none => none)
    (fun _ ih f vs H => match findT tab f with | some s => s vs H | none => cond (isEmptyH H) (evBodyD E M ih m f vs) (evBody E ih (fun s => loopN s m) f vs H)) n
theorem mapO_get {α β : Type} {f : α → Option β} : ∀ {l : List α} {m : List β}, mapO f l = some m → m.length = l.length ∧ ∀ (i : Nat) (y : β), m[i]? = some y → ∃ x, l[i]? = some x ∧ f x = some y := by
  intro l
  induction l with
  | nil => intro m h; obtain rfl := Option.some.inj (show some [] = some m from h); exact ⟨rfl, fun i y h => by simp at h⟩
  | cons x xs ih =>
    intro m h
    have h : (f x).bind (fun y => (mapO f xs).bind fun ys => some (y :: ys)) = some m := h
    obtain ⟨y, h1, h⟩ := Option.bind_eq_some_iff.1 h
    obtain ⟨ys, h2, h⟩ := Option.bind_eq_some_iff.1 h
    obtain rfl := Option.some.inj h
    obtain ⟨h3, h4⟩ := ih h2
    refine ⟨by simp [h3], fun i z hz => ?_⟩
    cases i with
    | zero => simp at hz; subst hz; exact ⟨x, by simp, h1⟩
    | succ i => simp at hz; obtain ⟨u, h5, h6⟩ := h4 i z hz; exact ⟨u, by simpa using h5, h6⟩
theorem mapO_vrs {f : Value → Option Value} {ι ι' : Emb} : ∀ {l m l' : List Value}, mapO f l = some m → (∀ x ∈ l, ∀ y v', f x = some y → VR ι x v' → VR ι' y v') → VRs ι l l' → VRs ι' m l' := by
  intro l
  induction l with
  | nil => intro m l' h _ hv; obtain rfl := Option.some.inj (show some [] = some m from h); cases hv; exact .nil
  | cons x xs ih =>
    intro m l' h hf hv
    have h : (f x).bind (fun y => (mapO f xs).bind fun ys => some (y :: ys)) = some m := h
    obtain ⟨y, h1, h⟩ := Option.bind_eq_some_iff.1 h
    obtain ⟨ys, h2, h⟩ := Option.bind_eq_some_iff.1 h
    obtain rfl := Option.some.inj h
    cases hv with | cons _ v' _ l' e hv => ?_
    exact .cons _ _ _ _ (hf x List.mem_cons_self y v' h1 e) (ih h2 (fun x hx => hf x (List.mem_cons_of_mem _ hx)) hv)
theorem renV_ok {σ : Nat → Option Nat} {ι ι' : Emb} (hσ : ∀ b b' j, σ b = some b' → ι b = some j → ι' b' = some j) (hfz : ι'.fz = ι.fz) : ∀ (n : Nat) (v u v' : Value), renV σ n v = some u → VR ι v v' → VR ι' u v' := by
  intro n
  induction n with
  | zero => intro v u v' h; cases h
  | succ n ih =>
    intro v u v' h e
    have deep : ∀ q, v = q → deepC q (fun t cs => some (dS t cs)) (fun off cs => some (dP off cs)) (fun t b m => (σ b).bind fun b => some (dB t b m)) (fun t => some (dE t)) none = some u → VR ι' u v' := by
      intro q hq h
      subst hq
      rcases deepC_some h with ⟨t, cs, rfl, g⟩ | ⟨off, cs, rfl, g⟩ | ⟨t, b, m, rfl, g⟩ | ⟨t, rfl, g⟩ | g
      · obtain rfl := Option.some.inj g
        exact fzy_cell rfl ι ι' v' (fun r i x h => by rw [hfz]; exact h) e
      · obtain rfl := Option.some.inj g
        obtain ⟨r', o, rfl, hf⟩ := e.dP_inv
        exact .dPt _ _ _ _ (fun i d hd => by rw [hfz]; exact hf i d hd)
      · obtain ⟨b', hb, g⟩ := Option.bind_eq_some_iff.1 g
        obtain rfl := Option.some.inj g
        obtain ⟨hz, e⟩ := e.dB_inv
        rcases e with ⟨rfl, oa, rfl, hoa⟩ | ⟨k', j, hj, rfl, hk, hex⟩
        · rcases hoa with rfl | ⟨a', rfl⟩
          · exact .dBn _ _ hz
          · exact .dBe _ _ _ hz
        · exact .dBl _ _ _ _ j (hσ _ _ _ hb hj) hz hk hex
      · obtain rfl := Option.some.inj g
        obtain ⟨hz, oa, rfl, hoa⟩ := e.dE_inv
        rcases hoa with rfl | ⟨a', rfl⟩
        · exact .dEn _ hz
        · exact .dEe _ _ hz
      · cases g
    cases v with
    | bool b => obtain rfl := Option.some.inj (show some _ = some u from h); cases e; exact .bool _
    | int k m => obtain rfl := Option.some.inj (show some _ = some u from h); cases e; exact .int _ _
    | string s => obtain rfl := Option.some.inj (show some _ = some u from h); cases e; exact .string _
    | nilFunc => obtain rfl := Option.some.inj (show some _ = some u from h); cases e; exact .nilFunc
    | pointer oa =>
      cases oa with
      | none => obtain rfl := Option.some.inj (show some _ = some u from h); cases e; exact .ptrNil
      | some a =>
        obtain ⟨b, o, sp⟩ := a
        cases sp with
        | some _ => exact absurd (show none = some u from h) (by simp)
        | none =>
          have h : (σ b).bind (fun b => some (Value.pointer (some ⟨b, o, none⟩))) = some u := h
          obtain ⟨b', hb, h⟩ := Option.bind_eq_some_iff.1 h
          obtain rfl := Option.some.inj h
          cases e with | ptr _ _ j hj => ?_
          exact .ptr _ _ j (hσ _ _ _ hb hj)
    | slice a l c =>
      obtain ⟨hc, h⟩ := cond_some (show cond (a.isNone && Nat.beq l 0 && Nat.beq c 0) (some (Value.slice none 0 0)) none = some u from h)
      obtain rfl := Option.some.inj h
      simp only [Bool.and_eq_true] at hc
      obtain ⟨⟨c1, c2⟩, c3⟩ := hc
      have c2 := Nat.eq_of_beq_eq_true c2
      have c3 := Nat.eq_of_beq_eq_true c3
      subst c2 c3
      cases a with
      | some _ => cases c1
      | none => cases e; exact .sliceNil
    | func fn f c =>
      obtain ⟨f⟩ := f
      obtain ⟨c⟩ := c
      have h : (mapO (renV σ n) f).bind (fun f => (mapO (renV σ n) c).bind fun c => some (Value.func fn ⟨f⟩ ⟨c⟩)) = some u := h
      obtain ⟨f1, h1, h⟩ := Option.bind_eq_some_iff.1 h
      obtain ⟨c1, h2, h⟩ := Option.bind_eq_some_iff.1 h
      obtain rfl := Option.some.inj h
      cases e with | func _ _ f' _ c' hf hc => ?_
      exact .func _ _ _ _ _ (mapO_vrs h1 (fun x _ y v' hy hv => ih x y v' hy hv) hf) (mapO_vrs h2 (fun x _ y v' hy hv => ih x y v' hy hv) hc)
    | agg cs =>
      obtain ⟨cs⟩ := cs
      have h : (mapO (renV σ n) cs).bind (fun l => some (Value.agg ⟨l⟩)) = some u := h
      obtain ⟨l, h1, h⟩ := Option.bind_eq_some_iff.1 h
      obtain rfl := Option.some.inj h
      cases e with | agg _ c' hc => ?_
      exact .agg _ _ (mapO_vrs h1 (fun x _ y v' hy hv => ih x y v' hy hv) hc)
    | _ => exact deep _ rfl h
theorem idxN_get {acc : List Nat} {b i : Nat} (h : idxN acc b = some i) : acc[i]? = some b := by
  induction acc generalizing i with
  | nil => cases h
  | cons x xs ih =>
    have h : cond (Nat.beq x b) (some 0) ((idxN xs b).bind fun i => some (i + 1)) = some i := h
    cases hb : Nat.beq x b with
    | true =>
      rw [hb, cond_true] at h
      obtain rfl := Option.some.inj h
      rw [Nat.eq_of_beq_eq_true hb]; rfl
    | false =>
      rw [hb, cond_false] at h
      obtain ⟨q, h1, h2⟩ := Option.bind_eq_some_iff.1 h
      obtain rfl := Option.some.inj h2
      simpa using ih h1
theorem nodupN_ok : ∀ {l : List Nat}, nodupN l = true → l.Nodup := by
  intro l
  induction l with
  | nil => intro _; exact .nil
  | cons x xs ih =>
    intro h
    have h : (!(xs.any (Nat.beq x)) && nodupN xs) = true := h
    simp only [Bool.and_eq_true, Bool.not_eq_true'] at h
    refine List.nodup_cons.2 ⟨fun hm => ?_, ih h.2⟩
    have : xs.any (Nat.beq x) = true := List.any_eq_true.2 ⟨x, hm, Nat.beq_refl x⟩
    rw [this] at h; cases h.1
def Lays (fr : Frame) (H : AH) (fr' : Frame) (H' : AH) : Prop := ∀ B ι a w, HR B ι H w → FR ι fr a → ∃ ι', (∀ r i x, ι.fz r i x → ι'.fz r i x) ∧ ι'.S = ι.S ∧ HR B ι' H' w ∧ FR ι' fr' a
theorem Lays.refl (fr : Frame) (H : AH) : Lays fr H fr H := fun B ι a w h1 h2 => ⟨ι, fun _ _ _ h => h, rfl, h1, h2⟩
theorem Lays.trans {f1 f2 f3 : Frame} {H1 H2 H3 : AH} (h : Lays f1 H1 f2 H2) (k : Lays f2 H2 f3 H3) : Lays f1 H1 f3 H3 := fun B ι a w h1 h2 => by
  obtain ⟨ι1, q1, q2, q3, q4⟩ := h B ι a w h1 h2
  obtain ⟨ι2, p1, p2, p3, p4⟩ := k B ι1 a w q3 q4
  exact ⟨ι2, fun r i x hx => p1 r i x (q1 r i x hx), p2.trans q2, p3, p4⟩
theorem getF_map {fr : Frame} (f : Value → Option Value) (d : Nat) : getF (fr.map fun o => o.bind f) d = (getF fr d).bind f := by
  rw [getF_eq, getF_eq, List.getElem?_map]
  cases fr[d]? with
  | none => rfl
  | some o => cases o <;> rfl
theorem layG_ok {fr : Frame} {H : AH} {k : Frame → AH → Res} {r : Value × AH} (h : layG fr H k = some r) : ∃ fr' H', k fr' H' = some r ∧ Lays fr H fr' H' := by
  unfold layG at h
  obtain ⟨hc, h⟩ := cond_some h
  simp only [Bool.and_eq_true] at hc
  have hfl := Nat.eq_of_beq_eq_true hc.1
  generalize reach H 60 (rootsF fr) [] = acc at h
  obtain ⟨hnd, h⟩ := cond_some h
  have hnd := nodupN_ok hnd
  refine ⟨_, _, h, fun B ι a w hH hF => ?_⟩
  let ι' : Emb := ⟨fun i => (acc[i]?).bind ι.m, ι.fz, ι.S⟩
  have hσ : ∀ b b' j, idxN acc b = some b' → ι b = some j → ι' b' = some j := fun b b' j hb hj => by
    show (acc[b']?).bind ι.m = some j
    rw [idxN_get hb]; exact hj
  have hren := renV_ok (σ := idxN acc) (ι := ι) (ι' := ι') hσ rfl
  have hget : ∀ i j, ι' i = some j → ∃ b, acc[i]? = some b ∧ ι b = some j := fun i j hj => Option.bind_eq_some_iff.1 hj
  have hnew : ∀ b x, H.bs[b]? = some x → newB H acc b = renB (idxN acc) x := fun b x hx => by
    unfold newB
    rw [getL_eq, hx]
  have hbs : ∀ i b, acc[i]? = some b → (acc.map (newB H acc))[i]? = some (newB H acc b) := fun i b hb => by
    rw [List.getElem?_map, hb]; rfl
  have hlive : ∀ i b, acc[i]? = some b → live ⟨acc.map (newB H acc), 0, []⟩ i → live H b := fun i b hb hl => by
    unfold live at *
    intro hd
    apply hl
    show (acc.map _)[i]? = _
    rw [hbs i b hb, hnew b _ hd]; rfl
  refine ⟨ι', fun _ _ _ h => h, rfl, ⟨fun i j hj => ?_, fun i j hj hf hl => ?_, fun i1 i2 j1 j2 h1 h2 hne hf hl1 hl2 => ?_, hH.size, fun r i d hd => ?_⟩, ⟨?_, ?_, ?_⟩⟩
  · obtain ⟨b, hb, hbj⟩ := hget i j hj
    obtain ⟨x, hx, hbr⟩ := hH.blk b j hbj
    refine ⟨_, hbs i b hb, ?_⟩
    rw [hnew b x hx]
    have hbr : BR ι w (decide (H.floor ≤ b)) j x := hbr
    rw [hfl] at hbr
    cases x with
    | cells c =>
      show BR ι' w _ j (match mapO (renV (idxN acc) 6) c with | some c => .cells c | none => .dead)
      cases hm : mapO (renV (idxN acc) 6) c with
      | none => trivial
      | some c' =>
        obtain ⟨pre, mid, post, e, fz, g1, g2, g3, g4⟩ := hbr
        exact ⟨pre, mid, post, e, fz, g1, g2, mapO_vrs hm (fun x _ y v' hy hv => hren 6 x y v' hy hv) g3, fun _ => g4 (by simp)⟩
    | bld c =>
      obtain ⟨⟨pre, mid, post, e, fz, g1, g2, g3, g4⟩, g5⟩ := hbr
      exact ⟨⟨pre, mid, post, e, fz, g1, g2, fzy_list (fun d hd => fzy_cell (g5 d hd)) (ι := ι) (fun _ _ _ h => h) g3, fun _ => g4 (by simp)⟩, g5⟩
    | _ => trivial
  · obtain ⟨b, hb, hbj⟩ := hget i j hj
    exact hH.base b j hbj (by rw [hfl]; omega) (hlive i b hb hl)
  · obtain ⟨b1, hb1, hj1⟩ := hget i1 j1 h1
    obtain ⟨b2, hb2, hj2⟩ := hget i2 j2 h2
    refine hH.inj b1 b2 j1 j2 hj1 hj2 (fun e => hne ?_) (by rw [hfl]; omega) (hlive i1 b1 hb1 hl1) (hlive i2 b2 hb2 hl2)
    subst e
    obtain ⟨l1, e1⟩ := List.getElem?_eq_some_iff.1 hb1
    obtain ⟨l2, e2⟩ := List.getElem?_eq_some_iff.1 hb2
    have hpw := List.pairwise_iff_getElem.1 hnd
    rcases Nat.lt_trichotomy i1 i2 with q | q | q
    · exact absurd (e1.trans e2.symm) (hpw i1 i2 l1 l2 q)
    · exact q
    · exact absurd (e2.trans e1.symm) (hpw i2 i1 l2 l1 q)
  · obtain ⟨⟨v', q1, q2⟩, q3, q4, q5⟩ := hH.fz r i d hd
    refine ⟨⟨v', q1, fzy_cell q5 ι ι' v' (fun _ _ _ h => h) q2⟩, fun i' j hj hf hl => ?_, q4, q5⟩
    obtain ⟨b, hb, hbj⟩ := hget i' j hj
    exact q3 b j hbj (by rw [hfl]; omega) (hlive i' b hb hl)
  all_goals first
    | exact hF.defers
    | (rw [List.length_map]; exact hF.len)
    | (intro t v hv
       rw [getF_map] at hv
       obtain ⟨v0, h1, h2⟩ := Option.bind_eq_some_iff.1 hv
       obtain ⟨v', h3, h4⟩ := hF.slot t v0 h1
       exact ⟨v', h3, hren 6 v0 v v' h2 h4⟩)
end Go.Proofs.Yteljeekapcenlaa.Ev
