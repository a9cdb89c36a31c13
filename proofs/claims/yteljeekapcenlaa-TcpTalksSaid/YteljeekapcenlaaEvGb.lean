/-
  Ev, part Gb: functions whose slices are deep values: what the evaluator says is so. No conditions.
-/
import Derived.Test.YteljeekapcenlaaEvGa
namespace Go.Proofs.Yteljeekapcenlaa.Ev
open Go Go.RowKit
set_option linter.unusedSimpArgs false
set_option linter.unusedVariables false
def Calls' (H H1 : AH) : Prop := ∀ (b : Nat) (x : Blk), H.bs[b]? = some x → H1.bs[b]? = some x ∨ ∃ c, x = .cells c ∧ H1.bs[b]? = some (.bld c)
theorem matB_ok {v : Value} {z : Nat} {H : AH} {k : Value → AH → Res} {r : Value × AH} (h : matB v z H k = some r) :
    ∃ v1 H1, k v1 H1 = some r ∧ Calls' H H1 ∧ H1.floor = H.floor ∧ H1.lock = H.lock ∧ ∀ B ι w, HR B ι H w → HR B ι H1 w ∧ ∀ v', VR ι v v' → VR ι v1 v' := by
  have keep : ∀ {kk : Value → AH → Res}, kk v H = some r → ∃ v1 H1, kk v1 H1 = some r ∧ Calls' H H1 ∧ H1.floor = H.floor ∧ H1.lock = H.lock ∧ ∀ B ι w, HR B ι H w → HR B ι H1 w ∧ ∀ v', VR ι v v' → VR ι v1 v' :=
    fun h => ⟨v, H, h, fun b x hx => .inl hx, rfl, rfl, fun B ι w hH => ⟨hH, fun _ h => h⟩⟩
  have pushC : Calls' H (H.push (.bld [])) := fun b x hx => .inl (by
    have := (List.getElem?_eq_some_iff.1 hx).1
    simp only [AH.push]; rw [List.getElem?_append_left this]; exact hx)
  have deep : ∀ u, v = u → deepC u (fun _ _ => k u H) (fun _ _ => k u H)
      (fun t b n => match getL H.bs b with
        | some x => (match x with | .cells c => cond (c.all cellOk) (k u (H.put b (.bld c))) (k u H) | _ => k u H)
        | none => k u H) (fun _ => cond (Nat.blt 0 z) (k (dB z H.len 0) (H.push (.bld []))) none) (k u H) = some r → ∃ v1 H1, k v1 H1 = some r ∧ Calls' H H1 ∧ H1.floor = H.floor ∧ H1.lock = H.lock ∧ ∀ B ι w, HR B ι H w → HR B ι H1 w ∧ ∀ v', VR ι v v' → VR ι v1 v' := by
    intro u hu h
    subst hu
    rcases deepC_some h with ⟨_, _, _, g⟩ | ⟨_, _, _, g⟩ | ⟨t, b, n, rfl, g⟩ | ⟨t, rfl, g⟩ | g
    · exact keep g
    · exact keep g
    · rw [getL_eq] at g
      cases hb : H.bs[b]? with
      | none => rw [hb] at g; exact keep g
      | some x =>
        rw [hb] at g
        cases x with
        | cells c =>
          simp only [] at g
          cases hc : c.all cellOk with
          | false => rw [hc, cond_false] at g; exact keep g
          | true =>
            rw [hc, cond_true] at g
            have hlt := (List.getElem?_eq_some_iff.1 hb).1
            refine ⟨_, _, g, fun b' x hx => ?_, rfl, rfl, fun B ι w hH => ⟨hH.recast hb (.inl rfl) (.inr rfl) (fun _ d hd => List.all_eq_true.1 hc d hd), fun _ h => h⟩⟩
            rw [put_get hlt]
            split
            · rename_i e; subst e
              rw [hb] at hx
              exact .inr ⟨c, (Option.some.inj hx).symm, rfl⟩
            · exact .inl hx
        | _ => exact keep g
    · obtain ⟨hz, g⟩ := cond_some g
      refine ⟨_, _, g, pushC, rfl, rfl, fun B ι w hH => ⟨hH.push _, fun v' h => ?_⟩⟩
      obtain ⟨_, oa, rfl, hoa⟩ := h.dE_inv
      have hz := Nat.le_of_ble_eq_true hz
      rcases hoa with rfl | ⟨a', rfl⟩
      · exact .dBn _ _ hz
      · exact .dBe _ _ _ hz
    · exact keep g
  unfold matB at h
  cases v with
  | slice a l c =>
    simp only [] at h
    obtain ⟨hc, h1⟩ := cond_some h
    simp only [Bool.and_eq_true] at hc
    obtain ⟨⟨⟨c1, c2⟩, c3⟩, c4⟩ := hc
    have c2 := Nat.eq_of_beq_eq_true c2
    have c3 := Nat.eq_of_beq_eq_true c3
    subst c2 c3
    cases a with
    | some _ => cases c1
    | none =>
      exact ⟨_, _, h1, pushC, rfl, rfl, fun B ι w hH => ⟨hH.push _, fun v' h => by cases h; exact .dBn _ _ (Nat.le_of_ble_eq_true c4)⟩⟩
  | _ => exact deep _ rfl h
theorem getF_lt' {fr : Frame} {d : Nat} {v : Value} (h : getF fr d = some v) : d < fr.length := by
  rw [getF_eq] at h
  cases hd : fr[d]? with
  | none => rw [hd] at h; cases h
  | some o => exact (List.getElem?_eq_some_iff.1 hd).1
theorem FR.setv {ι : Emb} {fr : Frame} {a : Act} (h : FR ι fr a) {d : Nat} {v0 v1 : Value} (h0 : getF fr d = some v0) (hv : ∀ v', VR ι v0 v' → VR ι v1 v') : FR ι (setF fr d (some v1)) a := by
  refine ⟨fun t v ht => ?_, by rw [setF_eq, List.length_set]; exact h.len, h.defers⟩
  rw [setF_eq, getF_eq] at ht
  by_cases e : t = d
  · subst e
    rw [List.getElem?_set_self (getF_lt' h0)] at ht
    obtain rfl := Option.some.inj ht
    obtain ⟨v', h1, h2⟩ := h.slot t v0 h0
    exact ⟨v', h1, hv v' h2⟩
  · rw [List.getElem?_set_ne (fun q => e q.symm), ← getF_eq] at ht
    exact h.slot t v ht
theorem matF_ok : ∀ {l : List (Nat × Nat)} {fr : Frame} {H : AH} {k : Frame → AH → Res} {r : Value × AH}, matF l fr H k = some r → ∃ fr' H', k fr' H' = some r ∧ Lays fr H fr' H' := by
  intro l
  induction l with
  | nil => intro fr H k r h; exact ⟨fr, H, h, Lays.refl _ _⟩
  | cons x l ih =>
    intro fr H k r h
    have h : (match getF fr x.1 with
      | some v => matB v x.2 H fun v H => matF l (setF fr x.1 (some v)) H k
      | none => matF l fr H k) = some r := h
    cases hv : getF fr x.1 with
    | none => rw [hv] at h; exact ih h
    | some v =>
      rw [hv] at h
      obtain ⟨v1, H1, h1, _, _, _, h2⟩ := matB_ok h
      obtain ⟨fr', H', h3, h4⟩ := ih h1
      refine ⟨fr', H', h3, Lays.trans (fun B ι a w hH hF => ?_) h4⟩
      obtain ⟨q1, q2⟩ := h2 B ι w hH
      exact ⟨ι, fun _ _ _ h => h, rfl, q1, hF.setv hv q2⟩
theorem HR.setRow {B : Nat} {ι : Emb} {H : AH} {w : World} (h : HR B ι H w) {b0 : Nat} {x : Blk} {c c' : List Value} (hb : H.bs[b0]? = some x) (hx : Ev.rowX x c) (hv : ∀ mid, VRs ι c mid → VRs ι c' mid) : HR B ι (H.put b0 (.cells c')) w := by
  have hlt := (List.getElem?_eq_some_iff.1 hb).1
  have hg := put_get hlt (.cells c')
  have lx : live H b0 := by unfold live; rw [hb]; rcases hx with rfl | rfl <;> simp
  have hlv : ∀ b, live (H.put b0 (.cells c')) b → live H b := by
    intro b hl
    by_cases e : b = b0
    · subst e; exact lx
    · unfold live at *; rw [hg, if_neg e] at hl; exact hl
  refine ⟨fun b j hj => ?_, fun b j hj hf hl => h.base b j hj hf (hlv b hl), fun b b' j1 j2 q1 q2 hne hf l1 l2 => h.inj b b' j1 j2 q1 q2 hne hf (hlv b l1) (hlv b' l2), h.size, fun r i d hd => ⟨(h.fz r i d hd).1, fun b j hj hf hl => (h.fz r i d hd).2.1 b j hj hf (hlv b hl), (h.fz r i d hd).2.2⟩⟩
  rw [hg]
  split
  · rename_i e; subst e
    obtain ⟨z, hz, hbr⟩ := h.blk b j hj
    rw [hb] at hz
    obtain rfl := Option.some.inj hz
    obtain ⟨pre, mid, post, e, fz, g1, g2, g3, g4⟩ := hbr.rowX hx
    exact ⟨_, rfl, pre, mid, post, e, fz, g1, g2, hv mid g3, g4⟩
  · exact h.blk b j hj
theorem VRs.set {ι : Emb} {c mid : List Value} {i : Nat} {v0 v1 : Value} (h0 : c[i]? = some v0) (hv : ∀ v', VR ι v0 v' → VR ι v1 v') (h : VRs ι c mid) : VRs ι (c.set i v1) mid := by
  induction c generalizing i mid with
  | nil => simp at h0
  | cons x c ih =>
    cases h with | cons _ v' _ mid h hs => ?_
    cases i with
    | zero => simp at h0; subst h0; exact .cons _ _ _ _ (hv v' h) hs
    | succ i => simp at h0; exact .cons _ _ _ _ h (ih h0 hs)
theorem matC_ok : ∀ {l : List (Nat × Nat × Nat)} {fr : Frame} {H : AH} {k : AH → Res} {r : Value × AH}, matC l fr H k = some r → ∃ H', k H' = some r ∧ Lays fr H fr H' := by
  intro l
  induction l with
  | nil => intro fr H k r h; exact ⟨H, h, Lays.refl _ _⟩
  | cons x l ih =>
    intro fr H k r h
    have h : (match getF fr x.1 with
      | some v => (match v with
        | .pointer a => (match a with
          | some a => (H.row a.block).bind fun c => (getL c x.2.1).bind fun u => matB u x.2.2 H fun u H => cond (H.wok a.block) (matC l fr (H.put a.block (.cells (c.set x.2.1 u))) k) none
          | none => matC l fr H k)
        | _ => matC l fr H k)
      | none => matC l fr H k) = some r := h
    cases hv : getF fr x.1 with
    | none => rw [hv] at h; exact ih h
    | some v =>
      rw [hv] at h
      cases v with
      | pointer oa =>
        cases oa with
        | none => exact ih h
        | some ad =>
          simp only [] at h
          obtain ⟨c, hc, h⟩ := Option.bind_eq_some_iff.1 h
          have hc := row_some hc
          obtain ⟨u, hu, h⟩ := Option.bind_eq_some_iff.1 h
          rw [getL_eq] at hu
          obtain ⟨u1, H1, h1, hcc, _, _, h2⟩ := matB_ok h
          obtain ⟨_, h1⟩ := cond_some h1
          obtain ⟨H', h3, h4⟩ := ih h1
          refine ⟨H', h3, Lays.trans (fun B ι a w hH hF => ?_) h4⟩
          obtain ⟨q1, q2⟩ := h2 B ι w hH
          have hX : ∃ X, H1.bs[ad.block]? = some X ∧ rowX X c := by
            rcases hcc _ _ hc with e | ⟨c', e1, e2⟩
            · exact ⟨_, e, .inl rfl⟩
            · obtain rfl : c = c' := by simpa using e1
              exact ⟨_, e2, .inr rfl⟩
          obtain ⟨X, hX1, hX2⟩ := hX
          exact ⟨ι, fun _ _ _ h => h, rfl, q1.setRow hX1 hX2 (fun mid hm => hm.set hu q2), hF⟩
      | _ => exact ih h
theorem headG_ok {M : Mats} {f id : Nat} {fr : Frame} {H : AH} {k : Frame → AH → Res} {r : Value × AH} (h : headG M f id fr H k = some r) : ∃ fr' H', k fr' H' = some r ∧ Lays fr H fr' H' := by
  unfold headG at h
  obtain ⟨fr1, H1, h, l1⟩ := matF_ok h
  obtain ⟨H2, h, l2⟩ := matC_ok h
  obtain ⟨fr3, H3, h, l3⟩ := layG_ok h
  exact ⟨fr3, H3, h, (l1.trans l2).trans l3⟩
def PostD (B : Nat) (ι : Emb) (w : World) (k : KC) (r : Value × AH) (Q : Exit → Act → World → Prop) : Prop :=
  ∀ e fr' H' ι' a' w', k e fr' H' = some r → (∀ r i x, ι.fz r i x → ι'.fz r i x) → ι'.S = ι.S → HR B ι' H' w' → FR ι' fr' a' → Below B w w' → Q e.out a' w'
def CodeOkD (E : Env) (c : Code) (x : Frame → AH → KC → Res) : Prop :=
  ∀ fr H k r, x fr H k = some r → ∀ B ι a w Q, HR B ι H w → FR ι fr a → PostD B ι w k r Q → c.wp E.P Q a w
theorem PostD.step {B : Nat} {ι ι1 : Emb} {w w1 : World} {k : KC} {r : Value × AH} {Q : Exit → Act → World → Prop} (h : PostD B ι w k r Q) (g : ∀ r i x, ι.fz r i x → ι1.fz r i x) (s : ι1.S = ι.S) (b : Below B w w1) : PostD B ι1 w1 k r Q :=
  fun e fr' H' ι' a' w' y1 y2 y3 y4 y5 y6 => h e fr' H' ι' a' w' y1 (fun r i x hx => y2 r i x (g r i x hx)) (y3.trans s) y4 y5 (b.trans y6)
section
variable {E : Env} {orc : Orc}
theorem loopG_ok {c : Code} {x : Frame → AH → KC → Res} {g : Frame → AH → (Frame → AH → Res) → Res} (hg : ∀ fr H k r, g fr H k = some r → ∃ fr' H', k fr' H' = some r ∧ Lays fr H fr' H') (hx : CodeOkD E c x) :
    ∀ n fr H k r, loopG g x n fr H k = some r → ∀ B ι a w Q, HR B ι H w → FR ι fr a → PostD B ι w k r Q → LoopWp E.P c Q a w := by
  intro n
  induction n with
  | zero => intro fr H k r h; exact absurd (show none = some r from h) (by simp)
  | succ n ih =>
    intro fr H k r h B ι a w Q hH hF hp
    have h' : x fr H (seqK (fun fr H k => g fr H fun fr H => loopG g x n fr H k) k) = some r := h
    refine LoopWp.of (hx fr H _ r h' B ι a w _ hH hF ?_)
    intro e fr' H' ι' a' w' y1 y2 y3 y4 y5 y6
    cases e with
    | normal =>
      have y1' : g fr' H' (fun fr H => loopG g x n fr H k) = some r := y1
      obtain ⟨fr2, H2, h2, l2⟩ := hg _ _ _ _ y1'
      obtain ⟨ι2, z1, z2, z3, z4⟩ := l2 B ι' a' w' y4 y5
      exact ih fr2 H2 k r h2 B ι2 a' w' Q z3 z4 ((hp.step y2 y3 y6).step z1 z2 (Below.refl _ _))
    | exit i => exact hp (.exit i) fr' H' ι' a' w' y1 y2 y3 y4 y5 y6
    | ret => exact hp .ret fr' H' ι' a' w' y1 y2 y3 y4 y5 y6
theorem code_okD (hE : EnvOk E) (hO : OrcOk E orc) (hD : DrawOk E orc) (M : Mats) (m : Nat) (f : FuncId) : ∀ c, CodeOkD E c (evCodeD E M orc m f c) := by
  intro c
  induction c with
  | skip =>
    intro fr H k r h B ι a w Q hH hF hp
    exact wp_skip (hp .normal fr H ι a w h (fun _ _ _ h => h) rfl hH hF (Below.refl _ _))
  | region id ops draw =>
    intro fr H k r h B ι a w Q hH hF hp
    have h' : evRegion E orc f id ops draw fr H k = some r := h
    unfold evRegion at h'
    have weak : Post B ι H w (k .normal) r (Q .normal) := fun fr' H' ι' a' w' y1 y2 y3 y4 y5 y6 => hp .normal fr' H' ι' a' w' y1 y3.le.fz y3.le.S y4 y5 y6
    cases draw with
    | false =>
      refine wp_region ?_
      have := evOps_ok hE hO ops (Q := Q) ops.toList 0 (fun i => by simp) (by simp) _ H _ h' B ι a w hH (hF.clear _) weak
      rw [List.range_eq_range']
      simpa using this
    | true =>
      exact hD ops _ H _ r h' B ι a w Q id hH (hF.clear _) weak
  | seq x y ihx ihy =>
    intro fr H k r h B ι a w Q hH hF hp
    refine wp_seq (ihx fr H _ r h B ι a w _ hH hF ?_)
    intro e fr' H' ι' a' w' y1 y2 y3 y4 y5 y6
    cases e with
    | normal => exact ihy fr' H' k r y1 B ι' a' w' Q y4 y5 (hp.step y2 y3 y6)
    | exit i => exact hp (.exit i) fr' H' ι' a' w' y1 y2 y3 y4 y5 y6
    | ret => exact hp .ret fr' H' ι' a' w' y1 y2 y3 y4 y5 y6
  | cond c x y ihx ihy =>
    intro fr H k r h B ι a w Q hH hF hp
    have h' : condR fr c (fun fr => evCodeD E M orc m f x fr H k) (fun fr => evCodeD E M orc m f y fr H k) = some r := h
    rw [condR_eq] at h'
    unfold condK at h'
    obtain ⟨v, hv, h'⟩ := Option.bind_eq_some_iff.1 h'
    obtain ⟨b, hq, h0⟩ := asB_ok h'
    subst hq
    have e1 := hF.ar c _ hv
    generalize hg : a.eval c = cc at e1
    cases e1
    cases b with
    | true => exact wp_cond_true hg (ihx fr H k r h0 B ι a w Q hH hF hp)
    | false => exact wp_cond_false hg (ihy fr H k r h0 B ι a w Q hH hF hp)
  | block id x ih =>
    intro fr H k r h B ι a w Q hH hF hp
    refine wp_block (ih fr H _ r h B ι a w _ hH hF ?_)
    intro e fr' H' ι' a' w' y1 y2 y3 y4 y5 y6
    cases e with
    | normal => exact hp .normal fr' H' ι' a' w' y1 y2 y3 y4 y5 y6
    | exit i =>
      have y1' : cond (Nat.beq i id) (k .normal fr' H') (k (.exit i) fr' H') = some r := y1
      show (if i = id then Q .normal a' w' else Q (.exit i) a' w')
      by_cases hi : i = id
      · subst hi
        rw [if_pos rfl]
        rw [Nat.beq_refl, cond_true] at y1'
        exact hp .normal fr' H' ι' a' w' y1' y2 y3 y4 y5 y6
      · rw [if_neg hi]
        rw [beq_ne hi, cond_false] at y1'
        exact hp (.exit i) fr' H' ι' a' w' y1' y2 y3 y4 y5 y6
    | ret => exact hp .ret fr' H' ι' a' w' y1 y2 y3 y4 y5 y6
  | loop x ih =>
    intro fr H k r h B ι a w Q hH hF hp
    have h' : headG M f (idOf x) (clearF fr (headClear E.pol f x)) H (fun fr H => loopG (headG M f (idOf x)) (fun fr H k => evCodeD E M orc m f x fr H (clrK (headClear E.pol f x) k)) m fr H k) = some r := h
    obtain ⟨fr1, H1, h1, l1⟩ := headG_ok h'
    obtain ⟨ι1, z1, z2, z3, z4⟩ := l1 B ι a w hH (hF.clear _)
    refine (loopG_ok (g := headG M f (idOf x)) (fun fr H k r h => headG_ok h) (x := fun fr H k => evCodeD E M orc m f x fr H (clrK (headClear E.pol f x) k)) ?_ m fr1 H1 k r h1 B ι1 a w Q z3 z4 (hp.step z1 z2 (Below.refl _ _))).wp
    intro fr H k r h B ι a w Q hH hF hp
    refine ih fr H _ r h B ι a w Q hH hF ?_
    intro e fr' H' ι' a' w' y1 y2 y3 y4 y5 y6
    cases e with
    | normal => exact hp .normal _ H' ι' a' w' y1 y2 y3 y4 (y5.clear _) y6
    | exit i => exact hp (.exit i) fr' H' ι' a' w' y1 y2 y3 y4 y5 y6
    | ret => exact hp .ret fr' H' ι' a' w' y1 y2 y3 y4 y5 y6
  | exit id =>
    intro fr H k r h B ι a w Q hH hF hp
    exact wp_exit (hp (.exit id) fr H ι a w h (fun _ _ _ h => h) rfl hH hF (Below.refl _ _))
  | label l =>
    intro fr H k r h B ι a w Q hH hF hp
    exact wp_label (hp .normal fr H ι a w h (fun _ _ _ h => h) rfl hH hF (Below.refl _ _))
  | ret =>
    intro fr H k r h B ι a w Q hH hF hp
    exact wp_ret (hp .ret fr H ι a w h (fun _ _ _ h => h) rfl hH hF (Below.refl _ _))
  | _ =>
    intro fr H k r h
    exact absurd (show none = some r from h) (by simp)
theorem HR.forget {B : Nat} {ι : Emb} {H : AH} {w : World} (h : HR B ι H w) : HR B ⟨fun _ => Option.none, ι.fz, ι.S⟩ ⟨[], 0, []⟩ w :=
  ⟨fun _ _ h => (by cases h), fun _ _ h => (by cases h), fun _ _ _ _ h => (by cases h), h.size, fun r i d hd => by
    obtain ⟨⟨v', q1, q2⟩, q3, q4, q5⟩ := h.fz r i d hd
    exact ⟨⟨v', q1, fzy_cell q5 ι _ v' (fun _ _ _ h => h) q2⟩, fun _ _ q => (by cases q), q4, q5⟩⟩
theorem HR.only {B : Nat} {ι : Emb} {H : AH} {w : World} (h : HR B ι H w) {b : Nat} {cs : List Value} (hb : H.bs[b]? = some (.bld cs)) (hfl : H.floor = 0) : HR B ⟨fun i => if i = 0 then ι b else Option.none, ι.fz, ι.S⟩ ⟨[.bld cs], 0, []⟩ w := by
  have hget : ∀ i j, (if i = 0 then ι b else Option.none) = some j → i = 0 ∧ ι b = some j := fun i j hj => by
    split at hj
    · rename_i e; exact ⟨e, hj⟩
    · cases hj
  have hl : live H b := by unfold live; rw [hb]; simp
  refine ⟨fun i j hj => ?_, fun i j hj _ _ => ?_, fun i1 i2 j1 j2 h1 h2 hne _ _ _ => ?_, h.size, fun r i d hd => ?_⟩
  · obtain ⟨rfl, hj⟩ := hget i j hj
    obtain ⟨x, hx, hbr⟩ := h.blk b j hj
    rw [hb] at hx
    obtain rfl := Option.some.inj hx
    rw [hfl] at hbr
    obtain ⟨⟨pre, mid, post, e, fz, g1, g2, g3, g4⟩, g5⟩ := hbr
    exact ⟨_, rfl, ⟨pre, mid, post, e, fz, g1, g2, fzy_list (fun d hd => fzy_cell (g5 d hd)) (ι := ι) (fun _ _ _ h => h) g3, fun _ => g4 (by simp)⟩, g5⟩
  · obtain ⟨rfl, hj⟩ := hget i j hj
    exact h.base b j hj (by rw [hfl]; omega) hl
  · obtain ⟨e1, _⟩ := hget i1 j1 h1
    obtain ⟨e2, _⟩ := hget i2 j2 h2
    omega
  · obtain ⟨⟨v', q1, q2⟩, q3, q4, q5⟩ := h.fz r i d hd
    refine ⟨⟨v', q1, fzy_cell q5 ι _ v' (fun _ _ _ h => h) q2⟩, fun i' j hj _ _ => ?_, q4, q5⟩
    obtain ⟨rfl, hj⟩ := hget i' j hj
    exact q3 b j hj (by rw [hfl]; omega) hl
theorem endR_ok (hE : EnvOk E) {M : Mats} {f : FuncId} {fn : Func} {fr : Frame} {H : AH} {r : Value × AH} (h : endR E M f fn fr H = some r) :
    (r.2.floor = 0 ∧ r.2.lock = []) ∧ ∀ B ι a w, HR B ι H w → FR ι fr a → ∃ v', (results fn a.tmps).run E.P w = .ok v' w ∧ ∃ ι', (∀ r i x, ι.fz r i x → ι'.fz r i x) ∧ ι'.S = ι.S ∧ HR B ι' r.2 w ∧ VR ι' r.1 v' := by
  unfold endR at h
  obtain ⟨vs, h1, h2⟩ := resK_ok hE _ _ h
  have hrun : ∀ (a : Act) (w : World) (vs' : List Value), (fn.results.toList.mapM (resSem a.tmps)).run E.P w = .ok vs' w → (results fn a.tmps).run E.P w = .ok (match vs' with | [v'] => v' | vs' => .tuple ⟨vs'⟩) w := by
    intro a w vs' s2
    have hm : (fn.results.mapM (resSem a.tmps)).run E.P w = .ok ⟨vs'⟩ w := by
      rw [Array.mapM_eq_mapM_toList]
      simp only [Sem.run_map, s2, Result.andThen_ok]
    rw [results_eq, Sem.run_bind, hm]
    match vs' with
    | [v'] => simp
    | [] => simp
    | _ :: _ :: _ => simp
  cases ho : M.own f with
  | false =>
    rw [ho, cond_false] at h1
    unfold endK at h1
    obtain ⟨ds, H1, h3, g1, l1, o1, s1⟩ := keepVs_ok h1
    have hr : r = ((match ds with | [d] => d | ds => .tuple ⟨ds⟩), ⟨[], 0, []⟩) := by
      match ds, h3 with
      | [d], h3 => simp [ret] at h3; exact h3.symm
      | [], h3 => simp [ret] at h3; exact h3.symm
      | _ :: _ :: _, h3 => simp [ret] at h3; exact h3.symm
    rw [hr]
    refine ⟨⟨rfl, rfl⟩, fun B ι a w hH hF => ?_⟩
    obtain ⟨vs', p1, p2⟩ := h2 B ι a w hH hF
    obtain ⟨ι1, q1, q2, q3, q4⟩ := s1 B ι w vs' hH p1
    have q5 : VRs ⟨fun _ => Option.none, ι1.fz, ι1.S⟩ ds vs' := fzy_list o1 (ι := ι1) (fun _ _ _ h => h) q3
    refine ⟨_, hrun a w vs' p2, ⟨fun _ => Option.none, ι1.fz, ι1.S⟩, q1.le.fz, q1.le.S, q2.forget, ?_⟩
    match ds, vs', q5 with
    | [d], [v'], .cons _ _ _ _ hv .nil => exact hv
    | [], [], .nil => exact .tuple [] [] .nil
    | _ :: _ :: l, _ :: _ :: l', hh => exact .tuple _ _ hh
  | true =>
    rw [ho, cond_true] at h1
    cases hts : fn.resultTypes.toList with
    | nil => rw [hts] at h1; cases h1
    | cons t ts =>
      rw [hts] at h1
      cases hd : E.T.und t with
      | none => simp only [hd] at h1; cases h1
      | some d =>
        simp only [hd] at h1
        cases d <;> simp only [] at h1 <;> first | (cases h1; done) | skip
        rename_i e
        generalize sizeN E.T e = z at h1
        unfold ownK at h1
        match vs, h1, h2 with
        | [v], h1, h2 =>
          simp only [] at h1
          obtain ⟨v1, H1, h3, hcc, hf1, hl1, h4⟩ := matB_ok h1
          rcases deepC_some h3 with ⟨_, _, _, g⟩ | ⟨_, _, _, g⟩ | ⟨t, b, n, rfl, g⟩ | ⟨_, _, g⟩ | g
          · cases g
          · cases g
          · obtain ⟨hfl, g⟩ := cond_some g
            have hfl := Nat.eq_of_beq_eq_true hfl
            rcases bldAt_some g with ⟨cs, hb, g0⟩ | ⟨_, g⟩
            · obtain ⟨hnl, g0⟩ := cond_some g0
              simp only [Bool.and_eq_true] at hnl
              have hdn : dlen t cs = n := dlen_of (by simpa [Nat.blt_eq] using hnl.1) (Nat.eq_of_beq_eq_true hnl.2).symm
              have g : some (dB t 0 n, (⟨[.bld cs], 0, []⟩ : AH)) = some r := by rw [← hdn]; exact g0
              obtain rfl := Option.some.inj g
              refine ⟨⟨rfl, rfl⟩, fun B ι a w hH hF => ?_⟩
              obtain ⟨vs', p1, p2⟩ := h2 B ι a w hH hF
              cases p1 with | cons _ v' _ _ e1 p1 => ?_
              cases p1
              obtain ⟨q1, q2⟩ := h4 B ι w hH
              refine ⟨_, hrun a w _ p2, ⟨fun i => if i = 0 then ι b else Option.none, ι.fz, ι.S⟩, fun _ _ _ h => h, rfl, q1.only hb hfl, ?_⟩
              obtain ⟨hz, e⟩ := (q2 v' e1).dB_inv
              rcases e with ⟨rfl, oa, rfl, hoa⟩ | ⟨k', j, hj, rfl, hk, hex⟩
              · rcases hoa with rfl | ⟨a', rfl⟩
                · exact .dBn _ _ hz
                · exact .dBe _ _ _ hz
              · exact .dBl _ _ _ _ j (by show (if 0 = 0 then ι b else Option.none) = some j; rw [if_pos rfl]; exact hj) hz hk hex
            · cases g
          · cases g
          · cases g
        | [], h1, _ => cases h1
        | _ :: _ :: _, h1, _ => cases h1
theorem endD_ok (hE : EnvOk E) {M : Mats} {f : FuncId} {fn : Func} {fr : Frame} {e : Ex} {H : AH} {r : Value × AH} (h : evEndD E M f fn e fr H = some r) :
    (e = .normal ∨ e = .ret) ∧ endR E M f fn fr H = some r := by
  cases e with
  | normal => exact ⟨.inl rfl, h⟩
  | ret => exact ⟨.inr rfl, h⟩
  | exit i => cases h
def CodeE (x : Frame → AH → KC → Res) : Prop := ∀ fr H k r, x fr H k = some r → ∃ e fr' H', k e fr' H' = some r
theorem loopG_e {x : Frame → AH → KC → Res} {g : Frame → AH → (Frame → AH → Res) → Res} (hg : ∀ fr H k r, g fr H k = some r → ∃ fr' H', k fr' H' = some r ∧ Lays fr H fr' H') (hx : CodeE x) : ∀ n, CodeE (loopG g x n) := by
  intro n
  induction n with
  | zero => intro fr H k r h; exact absurd (show none = some r from h) (by simp)
  | succ n ih =>
    intro fr H k r h
    have h' : x fr H (seqK (fun fr H k => g fr H fun fr H => loopG g x n fr H k) k) = some r := h
    obtain ⟨e, fr', H', h1⟩ := hx _ _ _ _ h'
    cases e with
    | normal =>
      have h1 : g fr' H' (fun fr H => loopG g x n fr H k) = some r := h1
      obtain ⟨fr2, H2, h2, _⟩ := hg _ _ _ _ h1
      exact ih _ _ _ _ h2
    | exit i => exact ⟨.exit i, fr', H', h1⟩
    | ret => exact ⟨.ret, fr', H', h1⟩
theorem code_eD (hE : EnvOk E) (hO : OrcOk E orc) (M : Mats) (m : Nat) (f : FuncId) : ∀ c, CodeE (evCodeD E M orc m f c) := by
  intro c
  induction c with
  | skip => intro fr H k r h; exact ⟨.normal, fr, H, h⟩
  | region id ops draw =>
    intro fr H k r h
    have h' : evRegion E orc f id ops draw fr H k = some r := h
    unfold evRegion at h'
    cases draw with
    | false => obtain ⟨fr', H', h1, h2⟩ := evOps_grow hE hO _ _ _ _ h'; exact ⟨.normal, fr', H', h1⟩
    | true => obtain ⟨fr', H', h1, h2⟩ := evDrawn_grow hE hO h'; exact ⟨.normal, fr', H', h1⟩
  | seq x y ihx ihy =>
    intro fr H k r h
    obtain ⟨e, fr', H', h1⟩ := ihx _ _ _ _ h
    cases e with
    | normal => exact ihy _ _ _ _ h1
    | exit i => exact ⟨.exit i, fr', H', h1⟩
    | ret => exact ⟨.ret, fr', H', h1⟩
  | cond c x y ihx ihy =>
    intro fr H k r h
    have h' : condR fr c (fun fr => evCodeD E M orc m f x fr H k) (fun fr => evCodeD E M orc m f y fr H k) = some r := h
    rw [condR_eq] at h'
    unfold condK at h'
    obtain ⟨v, hv, h'⟩ := Option.bind_eq_some_iff.1 h'
    obtain ⟨b, hq, h0⟩ := asB_ok h'
    cases b with
    | true => exact ihx _ _ _ _ h0
    | false => exact ihy _ _ _ _ h0
  | block id x ih =>
    intro fr H k r h
    obtain ⟨e, fr', H', h1⟩ := ih _ _ _ _ h
    cases e with
    | normal => exact ⟨.normal, fr', H', h1⟩
    | exit i =>
      have y1' : cond (Nat.beq i id) (k .normal fr' H') (k (.exit i) fr' H') = some r := h1
      cases hb : Nat.beq i id with
      | true => rw [hb, cond_true] at y1'; exact ⟨.normal, fr', H', y1'⟩
      | false => rw [hb, cond_false] at y1'; exact ⟨.exit i, fr', H', y1'⟩
    | ret => exact ⟨.ret, fr', H', h1⟩
  | loop x ih =>
    intro fr H k r h
    have h' : headG M f (idOf x) (clearF fr (headClear E.pol f x)) H (fun fr H => loopG (headG M f (idOf x)) (fun fr H k => evCodeD E M orc m f x fr H (clrK (headClear E.pol f x) k)) m fr H k) = some r := h
    obtain ⟨fr1, H1, h1, _⟩ := headG_ok h'
    refine loopG_e (g := headG M f (idOf x)) (fun fr H k r h => headG_ok h) (x := fun fr H k => evCodeD E M orc m f x fr H (clrK (headClear E.pol f x) k)) ?_ m fr1 H1 k r h1
    intro fr H k r h
    obtain ⟨e, fr', H', h1⟩ := ih fr H _ r h
    cases e with
    | normal => exact ⟨.normal, _, H', h1⟩
    | exit i => exact ⟨.exit i, fr', H', h1⟩
    | ret => exact ⟨.ret, fr', H', h1⟩
  | exit id => intro fr H k r h; exact ⟨.exit id, fr, H, h⟩
  | label l => intro fr H k r h; exact ⟨.normal, fr, H, h⟩
  | ret => intro fr H k r h; exact ⟨.ret, fr, H, h⟩
  | _ => intro fr H k r h; exact absurd (show none = some r from h) (by simp)
theorem body_goodD (hE : EnvOk E) (hO : OrcOk E orc) {M : Mats} {m : Nat} {f : FuncId} {vs : List Value} {r : Value × AH} (h : evBodyD E M orc m f vs = some r) : Good E.P f vs ⟨[], 0, []⟩ r := by
  unfold evBodyD at h
  obtain ⟨fn, hfn, h'⟩ := Option.bind_eq_some_iff.1 h
  obtain ⟨c, hc, h''⟩ := Option.bind_eq_some_iff.1 h'
  obtain ⟨e, fr, H, h1⟩ := code_eD hE hO M m f c _ _ _ _ h''
  obtain ⟨⟨e1, e2⟩, _⟩ := endR_ok hE (endD_ok hE h1).2
  refine ⟨⟨e1, e2, Nat.zero_le _, fun b hb => absurd hb (Nat.not_lt_zero b)⟩, fun B ι w vs' hH hv => ?_⟩
  refine calls_of_wp hfn hc ?_
  have hF := initF_ok hv fn.ntmps
  have hsz : (⟨vs'⟩ : Array Value).size = vs'.length := rfl
  rw [hsz]
  refine code_okD hE hO (draw_ok hE hO) M m f c _ _ _ r h'' B ι _ w _ hH hF ?_
  intro e fr' H' ι' a' w' y1 y2 y3 y4 y5 y6
  obtain ⟨he, h5⟩ := endD_ok hE y1
  obtain ⟨v', s1, ι2, s2, s3, s4, s5⟩ := (endR_ok hE h5).2 B ι' a' w' y4 y5
  have post : a'.defers = [] ∧ ∃ v, (results fn a'.tmps).run E.P w' = .ok v w' ∧ CallPost B ι ⟨[], 0, []⟩ r w (.returned v) w' :=
    ⟨y5.defers, v', s1, ι2, v', rfl, ⟨⟨fun b j hj => absurd (hH.dom hj) (Nat.not_lt_zero b), fun r i x hx => s2 r i x (y2 r i x hx), s3.trans y3⟩, fun b hb => absurd hb (Nat.not_lt_zero b)⟩, s4, s5, y6⟩
  rcases he with rfl | rfl
  · exact post
  · exact post
theorem isEmptyH_some {H : AH} (h : isEmptyH H = true) : H = ⟨[], 0, []⟩ := by
  obtain ⟨bs, fl, lk⟩ := H
  unfold isEmptyH at h
  simp only [Bool.and_eq_true, List.isEmpty_iff] at h
  obtain ⟨⟨rfl, h2⟩, rfl⟩ := h
  rw [Nat.eq_of_beq_eq_true h2]
theorem evTabD_ok (hE : EnvOk E) {M : Mats} {tab : Tab} (ht : TabOk E.P tab) (m : Nat) : ∀ n, OrcOk E (evTabD E M tab m n) := by
  intro n
  induction n with
  | zero =>
    intro f vs H r h
    have h : (match findT tab f with | some s => s vs H | none => none) = some r := h
    cases hf : findT tab f with
    | some s => rw [hf] at h; exact ht _ (findT_mem hf) vs H r h
    | none => rw [hf] at h; cases h
  | succ n ih =>
    intro f vs H r h
    have h : (match findT tab f with | some s => s vs H | none => cond (isEmptyH H) (evBodyD E M (evTabD E M tab m n) m f vs) (evBody E (evTabD E M tab m n) (fun s => loopN s m) f vs H)) = some r := h
    cases hf : findT tab f with
    | some s => rw [hf] at h; exact ht _ (findT_mem hf) vs H r h
    | none =>
      rw [hf] at h
      cases he : isEmptyH H with
      | true =>
        rw [he] at h
        rw [isEmptyH_some he]
        exact body_goodD hE ih h
      | false =>
        rw [he] at h
        exact body_good hE ih h
theorem good_of_bodyD (hE : EnvOk E) {M : Mats} {tab : Tab} (ht : TabOk E.P tab) (m n k : Nat) {f : FuncId} {vs : List Value} {r : Value × AH}
    (h : evBodyD E M (evTabD E M tab m n) k f vs = some r) : Good E.P f vs ⟨[], 0, []⟩ r := body_goodD hE (evTabD_ok hE ht m n) h
end
end Go.Proofs.Yteljeekapcenlaa.Ev
