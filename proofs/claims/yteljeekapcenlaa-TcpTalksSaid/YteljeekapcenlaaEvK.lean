/-
  Ev, part K: regions in the order of the text, code, functions: the evaluator's answers are the model's. No conditions.
-/
import Derived.Test.YteljeekapcenlaaEvW
namespace Go.Proofs.Yteljeekapcenlaa.Ev
open Go Go.RowKit
structure FR (ι : Emb) (fr : Frame) (a : Act) : Prop where
  slot : ∀ t v, getF fr t = some v → ∃ v', a.tmps[t]? = some v' ∧ VR ι v v'
  len : fr.length ≤ a.tmps.size
  defers : a.defers = []
theorem FR.mono {ι ι' : Emb} {fr : Frame} {a : Act} (h : FR ι fr a) (hi : ι.le ι') : FR ι' fr a :=
  ⟨fun t v hv => let ⟨v', h1, h2⟩ := h.slot t v hv; ⟨v', h1, h2.mono hi⟩, h.len, h.defers⟩
theorem FR.ar {ι : Emb} {fr : Frame} {a : Act} (h : FR ι fr a) (x : Operand) : AR ι fr a x := by
  intro v hv
  cases x with
  | tmp t =>
    obtain ⟨v', h1, h2⟩ := h.slot t v hv
    have : a.eval (.tmp t) = v' := by simp [Act.eval, h1]
    rw [this]; exact h2
  | const c =>
    simp only [arg] at hv
    obtain ⟨h1, h2⟩ := cond_some hv
    simp at h2; subst h2
    exact plain_refl ι h1
  | global g => cases hv
  | func f =>
    simp only [arg] at hv
    simp at hv; subst hv
    exact .func _ _ _ _ _ .nil .nil
theorem FR.put {ι : Emb} {fr : Frame} {a : Act} (h : FR ι fr a) (d : Option Tmp) {v v' : Value} (hv : VR ι v v') : FR ι (putF fr d v) (a.put d v') := by
  cases d with
  | none => exact h
  | some d =>
    refine ⟨fun t u hu => ?_, by simpa [putF, setF_eq, Act.put] using h.len, h.defers⟩
    simp only [putF, setF_eq] at hu
    rw [getF_eq] at hu
    by_cases hd : d = t
    · subst hd
      by_cases hl : d < fr.length
      · rw [List.getElem?_set_self hl] at hu
        simp at hu
        subst hu
        refine ⟨v', ?_, hv⟩
        simp only [Act.put]
        rw [Array.getElem?_setIfInBounds_self_of_lt (Nat.lt_of_lt_of_le hl h.len)]
      · have : (fr.set d (some v))[d]? = none := List.getElem?_eq_none (by simpa using Nat.le_of_not_lt hl)
        rw [this] at hu
        simp at hu
    · rw [List.getElem?_set_ne hd] at hu
      obtain ⟨v1, h1, h2⟩ := h.slot t u (by rw [getF_eq]; exact hu)
      refine ⟨v1, ?_, h2⟩
      simp only [Act.put]
      rw [Array.getElem?_setIfInBounds_ne hd]
      exact h1
theorem FR.clear {ι : Emb} {fr : Frame} {a : Act} (h : FR ι fr a) : ∀ ds, FR ι (clearF fr ds) a := by
  intro ds
  induction ds with
  | nil => exact h
  | cons d ds ih =>
    have e : clearF fr (d :: ds) = (clearF fr ds).set d none := by show setF (clearF fr ds) d none = _; rw [setF_eq]
    rw [e]
    refine ⟨fun t v hv => ?_, by simpa using ih.len, ih.defers⟩
    rw [getF_eq] at hv
    by_cases hd : d = t
    · subst hd
      by_cases hl : d < (clearF fr ds).length
      · rw [List.getElem?_set_self hl] at hv; simp at hv
      · have : ((clearF fr ds).set d none)[d]? = none := List.getElem?_eq_none (by simpa using Nat.le_of_not_lt hl)
        rw [this] at hv; simp at hv
    · rw [List.getElem?_set_ne hd] at hv
      exact ih.slot t v (by rw [getF_eq]; exact hv)
theorem initF_ok {ι : Emb} {as as' : List Value} (h : VRs ι as as') (n : Nat) : FR ι (initF n as) { tmps := ⟨as'⟩ ++ Array.replicate (n - as'.length) undef, defers := [] } := by
  refine ⟨fun t v hv => ?_, ?_, rfl⟩
  · rw [getF_eq] at hv
    unfold initF at hv
    by_cases ht : t < as.length
    · rw [List.getElem?_append_left (by simpa using ht)] at hv
      rw [List.getElem?_map] at hv
      obtain ⟨u, hu⟩ : ∃ u, as[t]? = some u := ⟨as[t], by simp [ht]⟩
      rw [hu] at hv
      simp at hv
      subst hv
      obtain ⟨v', h1, h2⟩ := h.get hu
      refine ⟨v', ?_, h2⟩
      have ht' : t < as'.length := by rw [h.length]; exact ht
      rw [Array.getElem?_append_left (by simpa using ht')]
      simpa using h1
    · rw [List.getElem?_append_right (by simpa using Nat.le_of_not_lt ht)] at hv
      simp only [List.getElem?_replicate] at hv
      split at hv <;> simp at hv
  · simp [initF, h.length]
def boolOf : Value → Option Bool
  | .bool b => some b
  | _ => none
theorem yielded_ok {ι : Emb} {ops : Array Oper} {fr : Frame} {a : Act} (h : FR ι fr a) {j : Nat} {v : Value} (hv : ((getL ops.toList j).bind fun o => o.dst.bind fun d => getF fr d) = some v) :
    yielded ops a.tmps j = boolOf v := by
  rw [getL_eq] at hv
  obtain ⟨o, ho, hv⟩ := Option.bind_eq_some_iff.1 hv
  obtain ⟨d, hd, hv⟩ := Option.bind_eq_some_iff.1 hv
  obtain ⟨v', h1, h2⟩ := h.slot d v hv
  have ho' : ops[j]? = some o := by simpa using ho
  unfold yielded
  simp only [ho', Option.bind_some, hd, h1]
  cases h2 <;> rfl
section
variable {E : Env} {orc : Orc} {H : AH} {r : Value × AH}
def Post (B : Nat) (ι : Emb) (H : AH) (w : World) (k : Frame → AH → Res) (r : Value × AH) (R : Act → World → Prop) : Prop :=
  ∀ fr' H' ι' a' w', k fr' H' = some r → Grow H H' → Ext H.len ι ι' → HR B ι' H' w' → FR ι' fr' a' → Below B w w' → R a' w'
theorem evOps_ok (hE : EnvOk E) (hO : OrcOk E orc) (ops : Array Oper) {Q : Exit → Act → World → Prop} : ∀ (l : List Oper) (n : Nat), (∀ i, l[i]? = ops[n + i]?) → n + l.length = ops.size →
    ∀ (fr : Frame) (H : AH) (k : Frame → AH → Res), evOps E orc ops.toList l fr H k = some r → ∀ B ι a w, HR B ι H w → FR ι fr a → Post B ι H w k r (Q .normal) → wpOps E.P ops Q (List.range' n l.length) a w := by
  intro l
  induction l with
  | nil =>
    intro n _ _ fr H k h B ι a w hH hF hp
    exact hp fr H ι a w h (Grow.refl _) (Ext.refl _ _) hH hF (Below.refl _ _)
  | cons o l ih =>
    intro n hl hn fr H k h B ι a w hH hF hp
    have ho : ops[n]? = some o := by have := hl 0; simpa using this.symm
    have hl' : ∀ i, l[i]? = ops[(n + 1) + i]? := fun i => by have := hl (i + 1); rw [show n + 1 + i = n + (i + 1) by omega, ← this]; simp
    have hn' : n + 1 + l.length = ops.size := by simp at hn; omega
    have h' : guardR ops.toList o.guard fr (fun fr => sureK E.pol o.op fr fun fr => evOpN E orc o fr H fun v H => evOps E orc ops.toList l (putF fr o.dst v) H k) (fun fr => evOps E orc ops.toList l (putF fr o.dst undef) H k) = some r := h
    rw [guardR_eq] at h'
    simp only [List.length_cons, List.range'_succ]
    simp only [wpOps, ho]
    have hrun : (sureK E.pol o.op fr fun fr => evOpN E orc o fr H (fun v H => evOps E orc ops.toList l (putF fr o.dst v) H k)) = some r → o.wp E.P a w (wpOps E.P ops Q (List.range' (n + 1) l.length)) Q := by
      intro h1
      obtain ⟨v, H', h2, h3, h4⟩ := op_okN hE hO (sureK_ok h1)
      refine h4 B ι a w hH (fun x _ => hF.ar x) _ Q (fun ι' v' w' x1 x2 x3 x4 => ?_)
      refine ih (n + 1) hl' hn' _ _ _ h2 B ι' _ w' x2 ((hF.mono x1.le).put o.dst x3) ?_
      intro fr' H'' ι'' a' w'' y1 y2 y3 y4 y5 y6
      exact hp fr' H'' ι'' a' w'' y1 (h3.trans y2) (x1.trans y3 h3.len) y4 y5 (x4.trans y6)
    have hskip : evOps E orc ops.toList l (putF fr o.dst undef) H k = some r → wpOps E.P ops Q (List.range' (n + 1) l.length) (a.put o.dst undef) w := by
      intro h1
      refine ih (n + 1) hl' hn' _ _ _ h1 B ι _ w hH (hF.put o.dst (undefR ι)) ?_
      intro fr' H'' ι'' a' w'' y1 y2 y3 y4 y5 y6
      exact hp fr' H'' ι'' a' w'' y1 y2 y3 y4 y5 y6
    cases hg : o.guard with
    | none =>
      rw [hg] at h'
      have : Region.wanted o (yielded ops a.tmps) = true := by simp [Region.wanted, hg]
      rw [if_pos this]
      exact .inl (hrun h')
    | some q =>
      obtain ⟨j, want⟩ := q
      rw [hg] at h'
      obtain ⟨v, hv, h'⟩ := Option.bind_eq_some_iff.1 h'
      have hy := yielded_ok hF hv
      have hw : Region.wanted o (yielded ops a.tmps) = (boolOf v == some want) := by simp only [Region.wanted, hg, hy]
      cases v with
      | bool b =>
        simp only at h' hw
        cases want <;> cases b <;> simp only [cond_true, cond_false] at h'
        · rw [if_pos (by rw [hw]; rfl)]; exact .inl (hrun h')
        · rw [if_neg (by rw [hw]; decide)]; exact hskip h'
        · rw [if_neg (by rw [hw]; decide)]; exact hskip h'
        · rw [if_pos (by rw [hw]; rfl)]; exact .inl (hrun h')
      | _ =>
        simp only at h' hw
        rw [if_neg (by rw [hw]; simp [boolOf])]
        exact hskip h'
def Ex.out : Ex → Exit
  | .normal => .normal
  | .exit i => .exit i
  | .ret => .ret
def PostC (B : Nat) (ι : Emb) (H : AH) (w : World) (k : KC) (r : Value × AH) (Q : Exit → Act → World → Prop) : Prop :=
  ∀ e fr' H' ι' a' w', k e fr' H' = some r → Grow H H' → Ext H.len ι ι' → HR B ι' H' w' → FR ι' fr' a' → Below B w w' → Q e.out a' w'
def CodeOk (E : Env) (c : Code) (x : Frame → AH → KC → Res) : Prop :=
  ∀ fr H k r, x fr H k = some r → ∀ B ι a w Q, HR B ι H w → FR ι fr a → PostC B ι H w k r Q → c.wp E.P Q a w
theorem PostC.step {B : Nat} {ι ι1 : Emb} {H H1 : AH} {w w1 : World} {k : KC} {Q : Exit → Act → World → Prop} (h : PostC B ι H w k r Q) (g : Grow H H1) (x : Ext H.len ι ι1) (b : Below B w w1) : PostC B ι1 H1 w1 k r Q :=
  fun e fr' H' ι' a' w' y1 y2 y3 y4 y5 y6 => h e fr' H' ι' a' w' y1 (g.trans y2) (x.trans y3 g.len) y4 y5 (b.trans y6)
def LoopWp (P : Program) (c : Code) (Q : Exit → Act → World → Prop) (a : Act) (w : World) : Prop :=
  ∀ (b : Go.Frame) (k : List Item) (cs : List Go.Frame), ∃ e a' w', Q e a' w' ∧ Arrives P (lone (b.at a (.code c :: .inLoop c :: k)) cs w) b k cs e a' w'
theorem LoopWp.wp {P : Program} {c : Code} {Q : Exit → Act → World → Prop} {a : Act} {w : World} (h : LoopWp P c Q a w) : (Code.loop c).wp P Q a w :=
  fun b k cs => let ⟨e, a', w', hq, harr⟩ := h b k cs; ⟨e, a', w', hq, .of_steps (.one step_loop) harr⟩
theorem LoopWp.of {P : Program} {c : Code} {Q : Exit → Act → World → Prop} {a : Act} {w : World} (h : c.wp P (Exit.then (LoopWp P c Q) Q) a w) : LoopWp P c Q a w := by
  intro b k cs
  obtain ⟨e, a₁, w₁, hq, harr⟩ := h b (.inLoop c :: k) cs
  cases e with
  | normal =>
    obtain ⟨e₂, a₂, w₂, hq₂, harr₂⟩ := hq b k cs
    exact ⟨e₂, a₂, w₂, hq₂, .of_steps (Steps.trans harr (.one step_inLoop)) harr₂⟩
  | exit id => exact ⟨_, a₁, w₁, hq, .pass (x := .inLoop c) rfl (fun _ _ => .inl (by simp)) harr⟩
  | goto l => exact ⟨_, a₁, w₁, hq, .pass (x := .inLoop c) rfl (fun _ _ => .inl (by simp)) harr⟩
  | ret => exact ⟨_, a₁, w₁, hq, .pass (x := .inLoop c) rfl (fun _ _ => .inl (by simp)) harr⟩
  | panic ch => exact ⟨_, a₁, w₁, hq, .pass (x := .inLoop c) rfl (fun _ _ => .inl (by simp)) harr⟩
  | outgrown => exact ⟨_, a₁, w₁, hq, .pass (x := .inLoop c) rfl (fun _ _ => .inl (by simp)) harr⟩
theorem loop_ok {c : Code} {x : Frame → AH → KC → Res} (hx : CodeOk E c x) : ∀ n fr H k r, loopN x n fr H k = some r → ∀ B ι a w Q, HR B ι H w → FR ι fr a → PostC B ι H w k r Q → LoopWp E.P c Q a w := by
  intro n
  induction n with
  | zero => intro fr H k r h; exact absurd (show none = some r from h) (by simp)
  | succ n ih =>
    intro fr H k r h B ι a w Q hH hF hp
    have h' : x fr H (seqK (loopN x n) k) = some r := h
    refine LoopWp.of (hx fr H _ r h' B ι a w _ hH hF ?_)
    intro e fr' H' ι' a' w' y1 y2 y3 y4 y5 y6
    cases e with
    | normal => exact ih fr' H' k r y1 B ι' a' w' Q y4 y5 (hp.step y2 y3 y6)
    | exit i => exact hp (.exit i) fr' H' ι' a' w' y1 y2 y3 y4 y5 y6
    | ret => exact hp .ret fr' H' ι' a' w' y1 y2 y3 y4 y5 y6
def DrawOk (E : Env) (orc : Orc) : Prop := ∀ (ops : Array Oper), ∀ fr H (k : Frame → AH → Res) r, evDrawn E orc ops fr H k = some r →
  ∀ B ι a w (Q : Exit → Act → World → Prop) id, HR B ι H w → FR ι fr a → Post B ι H w k r (Q .normal) → (Code.region id ops true).wp E.P Q a w
theorem code_ok (hE : EnvOk E) (hO : OrcOk E orc) (hD : DrawOk E orc) (f : FuncId) (n : Nat) : ∀ c, CodeOk E c (evCode E orc (fun s => loopN s n) f c) := by
  intro c
  induction c with
  | skip =>
    intro fr H k r h B ι a w Q hH hF hp
    exact wp_skip (hp .normal fr H ι a w h (Grow.refl _) (Ext.refl _ _) hH hF (Below.refl _ _))
  | region id ops draw =>
    intro fr H k r h B ι a w Q hH hF hp
    have h' : evRegion E orc f id ops draw fr H k = some r := h
    unfold evRegion at h'
    cases draw with
    | false =>
      refine wp_region ?_
      have := evOps_ok hE hO ops (Q := Q) ops.toList 0 (fun i => by simp) (by simp) _ H _ h' B ι a w hH (hF.clear _) (fun fr' H' ι' a' w' y1 y2 y3 y4 y5 y6 => hp .normal fr' H' ι' a' w' y1 y2 y3 y4 y5 y6)
      rw [List.range_eq_range']
      simpa using this
    | true =>
      exact hD ops _ H _ r h' B ι a w Q id hH (hF.clear _) (fun fr' H' ι' a' w' y1 y2 y3 y4 y5 y6 => hp .normal fr' H' ι' a' w' y1 y2 y3 y4 y5 y6)
  | seq x y ihx ihy =>
    intro fr H k r h B ι a w Q hH hF hp
    refine wp_seq (ihx fr H _ r h B ι a w _ hH hF ?_)
    intro e fr' H' ι' a' w' y1 y2 y3 y4 y5 y6
    cases e with
    | normal => exact ihy fr' H' k r y1 B ι' a' w' Q y4 y5 (hp.step y2 y3 y6)
    | exit i => exact hp (.exit i) fr' H' ι' a' w' y1 y2 y3 y4 y5 y6
    | ret => exact hp .ret fr' H' ι' a' w' y1 y2 y3 y4 y5 y6
  | cond c x y ihx ihy =>
    intro fr H k r h B ι a w Q hH hF hp
    have h' : condR fr c (fun fr => evCode E orc (fun s => loopN s n) f x fr H k) (fun fr => evCode E orc (fun s => loopN s n) f y fr H k) = some r := h
    rw [condR_eq] at h'
    unfold condK at h'
    obtain ⟨v, hv, h'⟩ := Option.bind_eq_some_iff.1 h'
    obtain ⟨b, hq, h0⟩ := asB_ok h'
    subst hq
    have e1 := hF.ar c _ hv
    generalize hg : a.eval c = cc at e1
    cases e1
    cases b with
    | true => exact wp_cond_true hg (ihx fr H k r h0 B ι a w Q hH hF hp)
    | false => exact wp_cond_false hg (ihy fr H k r h0 B ι a w Q hH hF hp)
  | block id x ih =>
    intro fr H k r h B ι a w Q hH hF hp
    refine wp_block (ih fr H _ r h B ι a w _ hH hF ?_)
    intro e fr' H' ι' a' w' y1 y2 y3 y4 y5 y6
    cases e with
    | normal => exact hp .normal fr' H' ι' a' w' y1 y2 y3 y4 y5 y6
    | exit i =>
      have y1' : cond (Nat.beq i id) (k .normal fr' H') (k (.exit i) fr' H') = some r := y1
      show (if i = id then Q .normal a' w' else Q (.exit i) a' w')
      by_cases hi : i = id
      · subst hi
        rw [if_pos rfl]
        rw [Nat.beq_refl, cond_true] at y1'
        exact hp .normal fr' H' ι' a' w' y1' y2 y3 y4 y5 y6
      · rw [if_neg hi]
        rw [beq_ne hi, cond_false] at y1'
        exact hp (.exit i) fr' H' ι' a' w' y1' y2 y3 y4 y5 y6
    | ret => exact hp .ret fr' H' ι' a' w' y1 y2 y3 y4 y5 y6
  | loop x ih =>
    intro fr H k r h B ι a w Q hH hF hp
    refine (loop_ok (x := fun fr H k => evCode E orc (fun s => loopN s n) f x fr H (clrK (headClear E.pol f x) k)) ?_ n (clearF fr (headClear E.pol f x)) H k r h B ι a w Q hH (hF.clear _) hp).wp
    intro fr H k r h B ι a w Q hH hF hp
    refine ih fr H _ r h B ι a w Q hH hF ?_
    intro e fr' H' ι' a' w' y1 y2 y3 y4 y5 y6
    cases e with
    | normal => exact hp .normal _ H' ι' a' w' y1 y2 y3 y4 (y5.clear _) y6
    | exit i => exact hp (.exit i) fr' H' ι' a' w' y1 y2 y3 y4 y5 y6
    | ret => exact hp .ret fr' H' ι' a' w' y1 y2 y3 y4 y5 y6
  | exit id =>
    intro fr H k r h B ι a w Q hH hF hp
    exact wp_exit (hp (.exit id) fr H ι a w h (Grow.refl _) (Ext.refl _ _) hH hF (Below.refl _ _))
  | label l =>
    intro fr H k r h B ι a w Q hH hF hp
    exact wp_label (hp .normal fr H ι a w h (Grow.refl _) (Ext.refl _ _) hH hF (Below.refl _ _))
  | ret =>
    intro fr H k r h B ι a w Q hH hF hp
    exact wp_ret (hp .ret fr H ι a w h (Grow.refl _) (Ext.refl _ _) hH hF (Below.refl _ _))
  | _ =>
    intro fr H k r h
    exact absurd (show none = some r from h) (by simp)
def resSem (tmps : Array Value) : ResultVar → Sem Value
  | .tmp t => pure (tmps.getD t undef)
  | .cell p t => do loadVar t (← asAddr (tmps.getD p undef))
theorem results_eq (fn : Func) (tmps : Array Value) : results fn tmps = (do let vs ← fn.results.mapM (resSem tmps); pure (if h : vs.size = 1 then vs[0] else .tuple vs)) := by
  unfold results
  congr 1
theorem resK_ok (hE : EnvOk E) {fr : Frame} : ∀ (rs : List ResultVar) (k : List Value → Res), resK E.T fr H rs k = some r →
    ∃ vs, k vs = some r ∧ ∀ B ι a w, HR B ι H w → FR ι fr a → ∃ vs', VRs ι vs vs' ∧ (rs.mapM (resSem a.tmps)).run E.P w = .ok vs' w := by
  intro rs
  induction rs with
  | nil => intro k h; exact ⟨[], h, fun B ι a w hH hF => ⟨[], .nil, by simp⟩⟩
  | cons x rs ih =>
    intro k h
    cases x with
    | tmp t =>
      have h' : (getF fr t).bind (fun v => resK E.T fr H rs fun vs => k (v :: vs)) = some r := h
      obtain ⟨v, hv, h'⟩ := Option.bind_eq_some_iff.1 h'
      obtain ⟨vs, h1, h2⟩ := ih _ h'
      refine ⟨v :: vs, h1, fun B ι a w hH hF => ?_⟩
      obtain ⟨v', s1, s2⟩ := hF.slot t v hv
      obtain ⟨vs', s3, s4⟩ := h2 B ι a w hH hF
      have : a.tmps.getD t undef = v' := by simp [s1]
      exact ⟨v' :: vs', .cons _ _ _ _ s2 s3, by simp only [List.mapM_cons, Sem.run_bind, Sem.run_pure, Result.andThen_ok, resSem, this, s4]⟩
    | cell p t =>
      have h' : (getF fr p).bind (fun a => asPtr a fun a =>
        cond (isAggT E.T t) (sizeT E.T t fun s => loadN H a s fun cs => resK E.T fr H rs fun vs => k (.agg cs.toArray :: vs))
          (load1 H a fun v => cond (E.T.get t).isSome (resK E.T fr H rs fun vs => k (v :: vs)) none)) = some r := h
      obtain ⟨u, hu, h'⟩ := Option.bind_eq_some_iff.1 h'
      obtain ⟨ad, hq, h0⟩ := asPtr_ok h'
      clear h'; subst hq
      cases hg : isAggT E.T t with
      | true =>
        rw [hg, cond_true] at h0
        obtain ⟨i, hi, h1, hsz⟩ := sizeT_ok hE.fits h0
        obtain ⟨c, hc, hle, h1, hl⟩ := loadN_ok h1
        obtain ⟨vs, h1, h2⟩ := ih _ h1
        refine ⟨_, h1, fun B ι a w hH hF => ?_⟩
        obtain ⟨v', s1, s2⟩ := hF.slot p _ hu
        cases s2 with | ptr b o' j hj => ?_
        obtain ⟨l', l1, l2, l3⟩ := hl (P := E.P) B ι H w j hH hj rfl
        obtain ⟨vs', s3, s4⟩ := h2 B ι a w hH hF
        have : a.tmps.getD p undef = .pointer (some ⟨j.blk, j.sh + o', none⟩) := by simp [s1]
        refine ⟨.agg ⟨l'⟩ :: vs', .cons _ _ _ _ (.agg _ _ l1) s3, ?_⟩
        simp only [List.mapM_cons, Sem.run_bind, Sem.run_pure, Result.andThen_ok, resSem, this, asAddr, loadVar, isAggT_ok hE.fits hg, if_true, hsz, l3, s4]
      | false =>
        rw [hg, cond_false] at h0
        obtain ⟨c, v, hc, hv, h1, hl⟩ := load1_ok h0
        obtain ⟨hgt, h1⟩ := cond_some h1
        obtain ⟨vs, h1, h2⟩ := ih _ h1
        refine ⟨_, h1, fun B ι a w hH hF => ?_⟩
        obtain ⟨v', s1, s2⟩ := hF.slot p _ hu
        cases s2 with | ptr b o' j hj => ?_
        obtain ⟨v', l1, l3⟩ := hl (P := E.P) B ι H w j hH hj rfl
        obtain ⟨vs', s3, s4⟩ := h2 B ι a w hH hF
        obtain ⟨i, hi⟩ : ∃ i, E.T.get t = some i := by cases hq : E.T.get t <;> simp_all
        have : a.tmps.getD p undef = .pointer (some ⟨j.blk, j.sh + o', none⟩) := by simp [s1]
        refine ⟨v' :: vs', .cons _ _ _ _ l1 s3, ?_⟩
        simp only [List.mapM_cons, Sem.run_bind, Sem.run_pure, Result.andThen_ok, resSem, this, asAddr, loadVar, isAggT_no hE.fits hi hg, Bool.false_eq_true, if_false, l3, s4]
theorem loadN_any {H : AH} {a : Addr} {n : Nat} {k : List Value → Res} {r : Value × AH} (h : loadN H a n k = some r) : ∃ l, k l = some r ∧ ∀ k2 : List Value → Res, loadN H a n k2 = k2 l := by
  unfold loadN at h ⊢
  obtain ⟨c, hc, h⟩ := Option.bind_eq_some_iff.1 h
  obtain ⟨l, hl, h⟩ := Option.bind_eq_some_iff.1 h
  exact ⟨l, h, fun k2 => by rw [hc]; simp only [Option.bind_some]; rw [hl]; rfl⟩
theorem load1_any {H : AH} {a : Addr} {k : Value → Res} {r : Value × AH} (h : load1 H a k = some r) : ∃ l, k l = some r ∧ ∀ k2 : Value → Res, load1 H a k2 = k2 l := by
  unfold load1 at h ⊢
  obtain ⟨c, hc, h⟩ := Option.bind_eq_some_iff.1 h
  obtain ⟨l, hl, h⟩ := Option.bind_eq_some_iff.1 h
  exact ⟨l, h, fun k2 => by rw [hc]; simp only [Option.bind_some]; rw [hl]; rfl⟩
theorem resKN_ok {fr : Frame} : ∀ (rs : List ResultVar) (k : List Value → Res), resKN E fr H rs k = some r → resK E.T fr H rs k = some r := by
  intro rs
  induction rs with
  | nil => intro k h; exact h
  | cons x rs ih =>
    intro k h
    cases x with
    | tmp t =>
      obtain ⟨v, hv, h⟩ := Option.bind_eq_some_iff.1 (show (getF fr t).bind (fun v => resKN E fr H rs fun vs => k (v :: vs)) = some r from h)
      show (getF fr t).bind (fun v => resK E.T fr H rs fun vs => k (v :: vs)) = some r
      rw [hv]; exact ih _ h
    | cell t ty =>
      obtain ⟨v, hv, h⟩ := Option.bind_eq_some_iff.1 (show (getF fr t).bind (fun a => asPtr a fun a => bnd (ldX E ty ty a H) fun v => resKN E fr H rs fun vs => k (nrmR E ty v :: vs)) = some r from h)
      obtain ⟨a, rfl, h⟩ := asPtr_ok h
      obtain ⟨u, hu, h⟩ := bnd_ok h
      obtain ⟨H', h1, h2⟩ := fitV_ok hu
      rw [h2] at h
      have h := ih _ h
      show (getF fr t).bind (fun a => asPtr a fun a =>
        cond (isAggT E.T ty) (sizeT E.T ty fun s => loadN H a s fun cs => resK E.T fr H rs fun vs => k (.agg cs.toArray :: vs))
          (load1 H a fun v => cond (E.T.get ty).isSome (resK E.T fr H rs fun vs => k (v :: vs)) none)) = some r
      rw [hv]
      simp only [Option.bind_some, asPtr]
      unfold ldP at h1
      cases ha : isAggT E.T ty with
      | true =>
        rw [ha, cond_true] at h1
        rw [cond_true]
        unfold sizeT at h1 ⊢
        obtain ⟨i, hi, h1⟩ := Option.bind_eq_some_iff.1 h1
        rw [hi]
        simp only [Option.bind_some]
        obtain ⟨l, h3, h4⟩ := loadN_any h1
        rw [h4]
        have h5 := (destrL_ok h3).1
        simp [pureK] at h5
        rw [h5.1]; exact h
      | false =>
        rw [ha, cond_false] at h1
        rw [cond_false]
        obtain ⟨l, h3, h4⟩ := load1_any h1
        rw [h4]
        have h5 := (destr_ok h3).1
        obtain ⟨h6, h7⟩ := cond_some h5
        simp [pureK] at h7
        rw [h6, cond_true, h7.1]; exact h
theorem end_ok (hE : EnvOk E) {fn : Func} {fr : Frame} {e : Ex} (h : evEnd E fn e fr H = some r) :
    (e = .normal ∨ e = .ret) ∧ r.2 = H ∧ ∀ B ι a w, HR B ι H w → FR ι fr a → ∃ v', (results fn a.tmps).run E.P w = .ok v' w ∧ VR ι r.1 v' := by
  have key : (resE E fr H fn.results.toList fun vs => match vs with | [v] => some (v, H) | vs => some (.tuple vs.toArray, H)) = some r →
      r.2 = H ∧ ∀ B ι a w, HR B ι H w → FR ι fr a → ∃ v', (results fn a.tmps).run E.P w = .ok v' w ∧ VR ι r.1 v' := by
    intro h
    have h : (resK E.T fr H fn.results.toList fun vs => match vs with | [v] => some (v, H) | vs => some (.tuple vs.toArray, H)) = some r := by
      unfold resE at h
      cases hn : E.pol.nrm with
      | true => rw [hn, cond_true] at h; exact resKN_ok _ _ h
      | false => rw [hn, cond_false] at h; exact h
    obtain ⟨vs, h1, h2⟩ := resK_ok hE _ _ h
    have hr : r.2 = H ∧ r.1 = (match vs with | [v] => v | vs => .tuple vs.toArray) := by
      match vs, h1 with
      | [v], h1 => simp at h1; subst h1; exact ⟨rfl, rfl⟩
      | [], h1 => simp at h1; subst h1; exact ⟨rfl, rfl⟩
      | _ :: _ :: _, h1 => simp at h1; subst h1; exact ⟨rfl, rfl⟩
    refine ⟨hr.1, fun B ι a w hH hF => ?_⟩
    obtain ⟨vs', s1, s2⟩ := h2 B ι a w hH hF
    have hm : (fn.results.mapM (resSem a.tmps)).run E.P w = .ok ⟨vs'⟩ w := by
      rw [Array.mapM_eq_mapM_toList]
      simp only [Sem.run_map, s2, Result.andThen_ok]
    rw [hr.2]
    match vs, vs', s1 with
    | [v], [v'], .cons _ _ _ _ hv .nil => exact ⟨v', by rw [results_eq, Sem.run_bind, hm]; simp, hv⟩
    | [], [], .nil => exact ⟨.tuple #[], by rw [results_eq, Sem.run_bind, hm]; simp, .tuple [] [] .nil⟩
    | _ :: _ :: l, _ :: _ :: l', hh => exact ⟨.tuple ⟨_ :: _ :: l'⟩, by rw [results_eq, Sem.run_bind, hm]; simp, .tuple _ _ hh⟩
  cases e with
  | normal => exact ⟨.inl rfl, key h⟩
  | ret => exact ⟨.inr rfl, key h⟩
  | exit i => cases h
theorem guardK_some {ops : List Oper} {g : Option (Nat × Bool)} {fr : Frame} {x y : Res} (h : guardK ops g fr x y = some r) : x = some r ∨ y = some r := by
  unfold guardK at h
  cases g with
  | none => exact .inl h
  | some q =>
    obtain ⟨j, want⟩ := q
    simp only at h
    obtain ⟨v, hv, h⟩ := Option.bind_eq_some_iff.1 h
    cases v with
    | bool b => simp only at h; cases want <;> cases b <;> simp only [cond_true, cond_false] at h <;> first | exact .inl h | exact .inr h
    | _ => exact .inr h
theorem evOps_grow (hE : EnvOk E) (hO : OrcOk E orc) {ops : List Oper} : ∀ (l : List Oper) (fr : Frame) (H : AH) (k : Frame → AH → Res), evOps E orc ops l fr H k = some r → ∃ fr' H', k fr' H' = some r ∧ Grow H H' := by
  intro l
  induction l with
  | nil => intro fr H k h; exact ⟨fr, H, h, Grow.refl _⟩
  | cons o l ih =>
    intro fr H k h
    have h' : guardR ops o.guard fr (fun fr => sureK E.pol o.op fr fun fr => evOpN E orc o fr H fun v H => evOps E orc ops l (putF fr o.dst v) H k) (fun fr => evOps E orc ops l (putF fr o.dst undef) H k) = some r := h
    rw [guardR_eq] at h'
    rcases guardK_some h' with h' | h'
    · obtain ⟨v, H', h2, h3, _⟩ := op_okN hE hO (sureK_ok h')
      obtain ⟨fr', H'', h4, h5⟩ := ih _ _ _ h2
      exact ⟨fr', H'', h4, h3.trans h5⟩
    · exact ih _ _ _ h'
theorem Grow.locked {H H' : AH} {l : List Nat} (h : Grow (H.withLock (l ++ H.lock)) H') : Grow H (H'.withLock H.lock) := by
  refine ⟨h.floor, rfl, h.len, fun b hb hw => h.kept b hb ?_⟩
  simp only [AH.wok, AH.withLock, Bool.and_eq_false_iff, Bool.not_eq_false'] at hw ⊢
  rcases hw with hw | hw
  · exact .inl hw
  · exact .inr (by simp at hw ⊢; exact .inr hw)
theorem evDraw_grow (hE : EnvOk E) (hO : OrcOk E orc) {ops : List Oper} {b : Array Nat} : ∀ (l : List Nat) (memo : List (Nat × Nat)) (fr : Frame) (H : AH) (k : Frame → AH → Res), evDraw E orc ops b l memo fr H k = some r → ∃ fr' H', k fr' H' = some r ∧ Grow H H' := by
  intro l
  induction l with
  | nil => intro memo fr H k h; exact ⟨fr, H, h, Grow.refl _⟩
  | cons i l ih =>
    intro memo fr H k h
    have h' : (getL ops i).bind (fun o => guardR ops o.guard fr
        (fun fr => sureK E.pol o.op fr fun fr => match rankP E.pol o.op with
         | 0 => evOpN E orc o fr H fun v H => evDraw E orc ops b l memo (putF fr o.dst v) H k
         | 1 => evOpN E orc o fr H fun v H' => evDraw E orc ops b l (match readAt o fr H with | some r => (i, r) :: memo | none => memo) (putF fr o.dst v) H' k
         | _ => evOpN E orc o fr (H.withLock ((memo.filterMap fun (j, r) => cond ((b.getD i 0).testBit j) none (some r)) ++ H.lock)) fun v H' =>
             evDraw E orc ops b l memo (putF fr o.dst v) (H'.withLock H.lock) k)
        (fun fr => evDraw E orc ops b l memo (putF fr o.dst undef) H k)) = some r := h
    obtain ⟨o, ho, h'⟩ := Option.bind_eq_some_iff.1 h'
    rw [guardR_eq] at h'
    rcases guardK_some h' with h' | h'
    · have h' := sureK_ok h'
      split at h'
      · obtain ⟨v, H', h2, h3, _⟩ := op_okN hE hO h'
        obtain ⟨fr', H'', h4, h5⟩ := ih _ _ _ _ h2
        exact ⟨fr', H'', h4, h3.trans h5⟩
      · obtain ⟨v, H', h2, h3, _⟩ := op_okN hE hO h'
        obtain ⟨fr', H'', h4, h5⟩ := ih _ _ _ _ h2
        exact ⟨fr', H'', h4, h3.trans h5⟩
      · obtain ⟨v, H', h2, h3, _⟩ := op_okN hE hO h'
        obtain ⟨fr', H'', h4, h5⟩ := ih _ _ _ _ h2
        exact ⟨fr', H'', h4, h3.locked.trans h5⟩
    · exact ih _ _ _ _ h'
theorem evDrawn_grow (hE : EnvOk E) (hO : OrcOk E orc) {ops : Array Oper} {fr : Frame} {H : AH} {k : Frame → AH → Res} (h : evDrawn E orc ops fr H k = some r) : ∃ fr' H', k fr' H' = some r ∧ Grow H H' := by
  unfold evDrawn at h
  cases hd : drawOk E.pol ops with
  | true => rw [hd, cond_true] at h; exact evDraw_grow hE hO _ _ _ _ _ h
  | false =>
    rw [hd, cond_false] at h
    obtain ⟨_, h⟩ := cond_some h
    obtain ⟨_, h⟩ := cond_some h
    obtain ⟨fr', H', h1, h2⟩ := evOps_grow hE hO _ _ _ _ h
    obtain ⟨_, h1⟩ := cond_some h1
    exact ⟨fr', H', h1, h2⟩
def CodeG (x : Frame → AH → KC → Res) : Prop := ∀ fr H k r, x fr H k = some r → ∃ e fr' H', k e fr' H' = some r ∧ Grow H H'
theorem loop_grow {x : Frame → AH → KC → Res} (hx : CodeG x) : ∀ n, CodeG (loopN x n) := by
  intro n
  induction n with
  | zero => intro fr H k r h; exact absurd (show none = some r from h) (by simp)
  | succ n ih =>
    intro fr H k r h
    have h' : x fr H (seqK (loopN x n) k) = some r := h
    obtain ⟨e, fr', H', h1, h2⟩ := hx _ _ _ _ h'
    cases e with
    | normal =>
      obtain ⟨e, fr'', H'', h3, h4⟩ := ih fr' H' k r h1
      exact ⟨e, fr'', H'', h3, h2.trans h4⟩
    | exit i => exact ⟨.exit i, fr', H', h1, h2⟩
    | ret => exact ⟨.ret, fr', H', h1, h2⟩
theorem code_grow (hE : EnvOk E) (hO : OrcOk E orc) (f : FuncId) (n : Nat) : ∀ c, CodeG (evCode E orc (fun s => loopN s n) f c) := by
  intro c
  induction c with
  | skip => intro fr H k r h; exact ⟨.normal, fr, H, h, Grow.refl _⟩
  | region id ops draw =>
    intro fr H k r h
    have h' : evRegion E orc f id ops draw fr H k = some r := h
    unfold evRegion at h'
    cases draw with
    | false => obtain ⟨fr', H', h1, h2⟩ := evOps_grow hE hO _ _ _ _ h'; exact ⟨.normal, fr', H', h1, h2⟩
    | true => obtain ⟨fr', H', h1, h2⟩ := evDrawn_grow hE hO h'; exact ⟨.normal, fr', H', h1, h2⟩
  | seq x y ihx ihy =>
    intro fr H k r h
    obtain ⟨e, fr', H', h1, h2⟩ := ihx _ _ _ _ h
    cases e with
    | normal =>
      obtain ⟨e, fr'', H'', h3, h4⟩ := ihy fr' H' k r h1
      exact ⟨e, fr'', H'', h3, h2.trans h4⟩
    | exit i => exact ⟨.exit i, fr', H', h1, h2⟩
    | ret => exact ⟨.ret, fr', H', h1, h2⟩
  | cond c x y ihx ihy =>
    intro fr H k r h
    have h' : condR fr c (fun fr => evCode E orc (fun s => loopN s n) f x fr H k) (fun fr => evCode E orc (fun s => loopN s n) f y fr H k) = some r := h
    rw [condR_eq] at h'
    unfold condK at h'
    obtain ⟨v, hv, h'⟩ := Option.bind_eq_some_iff.1 h'
    obtain ⟨b, hq, h0⟩ := asB_ok h'
    cases b with
    | true => exact ihx _ _ _ _ h0
    | false => exact ihy _ _ _ _ h0
  | block id x ih =>
    intro fr H k r h
    obtain ⟨e, fr', H', h1, h2⟩ := ih _ _ _ _ h
    cases e with
    | normal => exact ⟨.normal, fr', H', h1, h2⟩
    | exit i =>
      have y1' : cond (Nat.beq i id) (k .normal fr' H') (k (.exit i) fr' H') = some r := h1
      cases hb : Nat.beq i id with
      | true => rw [hb, cond_true] at y1'; exact ⟨.normal, fr', H', y1', h2⟩
      | false => rw [hb, cond_false] at y1'; exact ⟨.exit i, fr', H', y1', h2⟩
    | ret => exact ⟨.ret, fr', H', h1, h2⟩
  | loop x ih =>
    intro fr H k r h
    have key : CodeG (fun fr H k => evCode E orc (fun s => loopN s n) f x fr H (clrK (headClear E.pol f x) k)) := by
      intro fr H k r h
      obtain ⟨e, fr', H', h1, h2⟩ := ih fr H _ r h
      cases e with
      | normal => exact ⟨.normal, _, H', h1, h2⟩
      | exit i => exact ⟨.exit i, fr', H', h1, h2⟩
      | ret => exact ⟨.ret, fr', H', h1, h2⟩
    obtain ⟨e, fr', H', h1, h2⟩ := loop_grow key n (clearF fr (headClear E.pol f x)) H k r h
    exact ⟨e, fr', H', h1, h2⟩
  | exit id => intro fr H k r h; exact ⟨.exit id, fr, H, h, Grow.refl _⟩
  | label l => intro fr H k r h; exact ⟨.normal, fr, H, h, Grow.refl _⟩
  | ret => intro fr H k r h; exact ⟨.ret, fr, H, h, Grow.refl _⟩
  | _ => intro fr H k r h; exact absurd (show none = some r from h) (by simp)
theorem sound (hE : EnvOk E) (hD : ∀ orc, OrcOk E orc → DrawOk E orc) : ∀ n, OrcOk E (evFun E n) := by
  intro n
  induction n with
  | zero => intro f vs H r h; exact absurd (show none = some r from h) (by simp)
  | succ n ih =>
    intro f vs H r h
    have h' : evBody E (evFun E n) (fun s => loopN s n) f vs H = some r := h
    unfold evBody at h'
    obtain ⟨fn, hfn, h'⟩ := Option.bind_eq_some_iff.1 h'
    obtain ⟨c, hc, h'⟩ := Option.bind_eq_some_iff.1 h'
    constructor
    · obtain ⟨e, fr', H', h1, h2⟩ := code_grow hE ih f n c _ _ _ _ h'
      obtain ⟨_, h3, _⟩ := end_ok hE h1
      rw [h3]; exact h2
    · intro B ι w vs' hH hv
      refine calls_of_wp hfn hc ?_
      have hF := initF_ok hv fn.ntmps
      have hsz : (⟨vs'⟩ : Array Value).size = vs'.length := rfl
      rw [hsz]
      refine code_ok hE ih (hD _ ih) f n c _ H _ r h' B ι _ w _ hH hF ?_
      intro e fr' H' ι' a' w' y1 y2 y3 y4 y5 y6
      obtain ⟨he, h3, h4⟩ := end_ok hE y1
      obtain ⟨v', s1, s2⟩ := h4 B ι' a' w' y4 y5
      have post : a'.defers = [] ∧ ∃ v, (results fn a'.tmps).run E.P w' = .ok v w' ∧ CallPost B ι H r w (.returned v) w' :=
        ⟨y5.defers, v', s1, ι', v', rfl, y3, by rw [h3]; exact y4, s2, y6⟩
      rcases he with rfl | rfl
      · exact post
      · exact post
end
end Go.Proofs.Yteljeekapcenlaa.Ev
