/-
  Ev, part J: copy, clear, calls; every operation as one fact. No conditions.
-/
import Derived.Test.YteljeekapcenlaaEvI
namespace Go.Proofs.Yteljeekapcenlaa.Ev
open Go Go.RowKit
section
variable {E : Env} {orc : Orc} {o : Oper} {fr : Frame} {H : AH} {k : K} {r : Value × AH}
def BSim (P : Program) (f : Array Value → Sem Value) (vs : List Value) (H : AH) (v : Value) (H' : AH) : Prop :=
  ∀ B ι w vs', HR B ι H w → VRs ι vs vs' → ∃ ι' v' w', (f ⟨vs'⟩).run P w = .ok v' w' ∧ Ext H.len ι ι' ∧ HR B ι' H' w' ∧ VR ι' v v' ∧ Below B w w'
theorem clear_ok {P : Program} {T : Ty} (hT : Fits P T) {ats : Array TypeId} {ty : TypeId} {vs : List Value} (h : opClear T ats.toList vs H k = some r) :
    ∃ v H', k v H' = some r ∧ Grow H H' ∧ BSim P (Builtin.clear_ ats ty) vs H v H' := by
  unfold opClear at h
  cases hts : ats.toList with
  | nil => rw [hts] at h; cases h
  | cons t us =>
    rw [hts] at h
    have h0 : ats[0]? = some t := by rw [← Array.getElem?_toList, hts]; rfl
    cases vs with
    | nil => cases h
    | cons x rest =>
      simp only [] at h
      cases hd : T.und t with
      | none => rw [hd] at h; cases h
      | some dd =>
        rw [hd] at h
        have ht := hT.und hd
        cases dd <;> (try simp only [] at h) <;> first | (cases h; done) | skip
        rename_i e
        cases x with
        | slice base n cap =>
          try simp only [] at h
          cases hn : Nat.beq n 0 with
          | true =>
            rw [hn, cond_true] at h
            have hgood := h
            have hn := Nat.eq_of_beq_eq_true hn
            subst hn
            refine ⟨_, H, hgood, Grow.refl _, fun B ι w vs' hH hv => ?_⟩
            cases hv with | cons _ s' _ rest' e1 hv => ?_
            have hx : ∃ a' cap', s' = .slice a' 0 cap' := by cases e1 <;> exact ⟨_, _, rfl⟩
            obtain ⟨a', cap', rfl⟩ := hx
            refine ⟨ι, undef, w, ?_, Ext.refl _ _, hH, undefR ι, Below.refl _ _⟩
            simp only [Builtin.clear_, h0, List.getElem?_toArray, List.getElem?_cons_zero]
            cases a' <;> simp [run_underlying ht, undef]
          | false =>
            rw [hn, cond_false] at h
            have hn0 : n ≠ 0 := by intro e; subst e; cases hn
            cases base with
            | none => cases h
            | some ad =>
              simp only [] at h
              obtain ⟨i, z, hg, h, hz, zp, zs, zc, zl, zr, zrs, zt, zag, zno⟩ := zeroOf_ok hT h
              obtain ⟨hz0, h⟩ := cond_some h
              have hz0 := of_decide_eq_true hz0
              obtain ⟨c, s1, s2, s3, s4⟩ := storeN_ok h
              refine ⟨_, _, s3, Grow.put _ _ s2, fun B ι w vs' hH hv => ?_⟩
              cases hv with | cons _ s' _ rest' e1 hv => ?_
              have hx : ∃ j cap', s' = .slice (some ⟨j.blk, j.sh + ad.off, none⟩) n cap' ∧ ι ad.block = some j := by
                cases e1
                · exact ⟨_, _, rfl, by assumption⟩
                · exact ⟨_, _, rfl, by assumption⟩
                · exact absurd rfl hn0
              obtain ⟨j, cap', rfl, hj⟩ := hx
              obtain ⟨w', t1, t2, t3⟩ := s4 (P := P) B ι w j (zeros i.zero n) hH hj (zeros_rel (zrs ι) n)
              refine ⟨ι, undef, w', ?_, Ext.refl _ _, t2, undefR ι, t3⟩
              have zt' : z.cells = ⟨i.zero⟩ := by apply Array.ext'; exact zt
              simp only [Builtin.clear_, h0, List.getElem?_toArray, List.getElem?_cons_zero]
              cases n with
              | zero => exact absurd rfl hn0
              | succ n => simp [run_underlying ht, hz, zt', zeroCells_spec i.zero hz0, t1, undef]
        | _ => cases h
theorem plainN_up : ∀ n v, plainN n v = true → plainN (n + 1) v = true := by
  intro n
  induction n with
  | zero => intro v h; cases v <;> simp_all [plainN]
  | succ n ih =>
    intro v h
    cases v <;> first
      | rfl
      | (simp only [plainN] at h ⊢; exact h)
      | (simp only [plainN] at h ⊢; exact ih _ h)
      | (simp only [plainN, List.all_eq_true, Bool.and_eq_true] at h ⊢; first | exact fun x hx => ih x (h x hx) | exact ⟨fun x hx => ih x (h.1 x hx), fun x hx => ih x (h.2 x hx)⟩)
theorem destrV_ok {T : Ty} {t : TypeId} {v : Value} {k : Value → Res} (h : destrV T t v k = some r) : k v = some r ∧ (flatT T t = true → plainN 6 v = true) := by
  unfold destrV at h
  cases ha : isAggT T t with
  | true =>
    rw [ha, cond_true] at h
    cases v <;> (try simp only [] at h) <;> first | (cases h; done) | skip
    rename_i cs
    obtain ⟨h1, h2⟩ := destrL_ok h
    refine ⟨h1, fun hf => ?_⟩
    simp only [flatT, Bool.and_eq_true] at hf
    have := h2 hf.2
    simp only [plainN]
    exact this
  | false =>
    rw [ha, cond_false] at h
    obtain ⟨h1, h2⟩ := destr_ok h
    refine ⟨h1, fun hf => ?_⟩
    unfold kindOf at h2 h
    unfold flatT at hf
    cases hk : kinds T t with
    | nil => rw [hk] at hf; simp at hf
    | cons kd ks =>
      rw [hk] at hf h2
      simp at hf
      exact plain_all 6 (by
        have := h2 hf.1
        have hflat := hf.1
        rw [hk] at h
        simp only at h
        cases kd <;> simp [Kd.flat] at hflat <;> simp only [Kd.destr] at h <;> cases v <;> first | rfl | (cases h; done))
theorem destrT_ok {T : Ty} : ∀ {ts : List TypeId} {vs : List Value} {k : List Value → Res}, destrT T ts vs k = some r → k vs = some r ∧ (flatTs T ts = true → vs.all (plainN 6) = true) := by
  intro ts
  induction ts with
  | nil =>
    intro vs k h
    cases vs with
    | nil => exact ⟨h, fun _ => rfl⟩
    | cons v vs => exact absurd (show none = some r from h) (by simp)
  | cons t ts ih =>
    intro vs k h
    cases vs with
    | nil => exact absurd (show none = some r from h) (by simp)
    | cons v vs =>
      have h' : destrV T t v (fun v => destrT T ts vs fun vs => k (v :: vs)) = some r := h
      obtain ⟨h1, h2⟩ := destrV_ok h'
      obtain ⟨h3, h4⟩ := ih h1
      refine ⟨h3, fun hf => ?_⟩
      simp only [flatTs, List.all_cons, Bool.and_eq_true] at hf
      simp only [List.all_cons, Bool.and_eq_true]
      exact ⟨h2 hf.1, h4 hf.2⟩
theorem destrRes_ok {T : Ty} {ts : List TypeId} {v : Value} {k : Value → Res} (h : destrRes T ts v k = some r) : k v = some r ∧ (flatTs T ts = true → plainN 7 v = true) := by
  unfold destrRes at h
  have tup : ∀ ts, (match v with | .tuple vs => destrT T ts vs.toList fun l => k (.tuple l.toArray) | _ => none) = some r → k v = some r ∧ (flatTs T ts = true → plainN 7 v = true) := by
    intro ts h
    cases v <;> (try simp only [] at h) <;> first | (cases h; done) | skip
    obtain ⟨h1, h2⟩ := destrT_ok h
    refine ⟨h1, fun hf => ?_⟩
    have := h2 hf
    simp only [plainN]
    exact this
  match ts, h with
  | [t], h =>
    obtain ⟨h1, h2⟩ := destrV_ok h
    refine ⟨h1, fun hf => ?_⟩
    simp only [flatTs, List.all_cons, List.all_nil, Bool.and_true] at hf
    exact plainN_up _ _ (h2 hf)
  | [], h => exact tup _ h
  | _ :: _ :: _, h => exact tup _ h
theorem plain7_refl (ι : Emb) {v : Value} (h : plainN 7 v = true) : VR ι v v := plainN_refl ι _ v h
theorem plain7_eq {ι : Emb} {v v' : Value} (h : plainN 7 v = true) (hr : VR ι v v') : v' = v := plainN_eq _ _ _ h hr
theorem wp_enter {P : Program} {o : Oper} {a : Act} {w : World} {f : FuncId} {vs : Array Value} {next : Act → World → Prop} {Q : Exit → Act → World → Prop}
    (h : (execOp a.eval o).run P w = .ok (.enter f vs) w) {R : Ending → World → Prop} (hc : Calls P f vs w R) (hr : ∀ e w', R e w' → ∃ v, e = .returned v ∧ next (a.put o.dst v) w') : o.wp P a w next Q := by
  unfold Oper.wp; rw [h]
  refine hc.mono fun e w' he => ?_
  obtain ⟨v, rfl, hn⟩ := hr e w' he
  exact hn
theorem call_ok (hE : EnvOk E) (hO : OrcOk E orc) {c : Call} (ho : o.op = .call c) {f : Operand} (hcal : c.callee = .value f)
    {g : FuncId} {first captured : Array Value} {vs : List Value} (hf : arg fr f = some (.func (.func g) first captured)) (hv : args fr c.args.toList = some vs)
    (h : callF E orc g (first.toList ++ vs ++ captured.toList) H k = some r) :
    ∃ v H', k v H' = some r ∧ Grow H H' ∧ Sim E o fr H v H' := by
  unfold callF at h
  obtain ⟨fnc, hfn, h⟩ := Option.bind_eq_some_iff.1 h
  obtain ⟨hbody, h⟩ := cond_some h
  have hname := hE.names g fnc hfn hbody
  have hbn : fnc.body.isNone = false := by cases hb : fnc.body <;> simp_all
  -- the run up to the call
  have run : ∀ ι a w, ARs ι fr a o → ∃ f' c' vs', (execOp a.eval o).run E.P w = .ok (.enter g ⟨f' ++ vs' ++ c'⟩) w ∧ VRs ι (first.toList ++ vs ++ captured.toList) (f' ++ vs' ++ c') := by
    intro ι a w ha
    have e1 : VR ι _ (a.eval f) := ha f (by rw [ho]; simp [Op.operands, Call.operands, hcal]) _ hf
    have e2 := argsR hv ι a (fun x hx => ha x (by rw [ho]; simp [Op.operands, Call.operands, hcal]; right; simpa using hx))
    generalize hg : a.eval f = cc at e1
    obtain ⟨first⟩ := first
    obtain ⟨captured⟩ := captured
    cases e1 with | func _ _ f' _ c' hf' hc' => ?_
    refine ⟨f', c', c.args.toList.map a.eval, ?_, (hf'.append e2).append hc'⟩
    have ea : c.args.map a.eval = ⟨c.args.toList.map a.eval⟩ := by apply Array.ext'; simp
    have earr : ((⟨f'⟩ : Array Value) ++ ⟨c.args.toList.map a.eval⟩ ++ ⟨c'⟩) = ⟨f' ++ c.args.toList.map a.eval ++ c'⟩ := by apply Array.ext'; simp
    simp only [execOp, ho, resolve, hcal, hg, Deferred.ofValue, ea, Sem.run_bind, Sem.run_pure, Result.andThen_ok, invoke, earr]
    have hname' : ¬ fnc.name = "runtime.NumGoroutine" := by simpa using hname
    have hbn' : ¬ fnc.body = none := by intro e; rw [e] at hbn; cases hbn
    simp [callFunc, hfn, hname', hbn']
  have modes : ∀ (H0 : AH), (orc g (first.toList ++ vs ++ captured.toList) H0).bind (fun r => destrRes E.T fnc.resultTypes.toList r.1 fun v => k v H) = some r → flatTs E.T fnc.resultTypes.toList = true →
      (∀ B ι w l', HR B ι H w → VRs ι (first.toList ++ vs ++ captured.toList) l' → ∃ ι0, HR w.heap.size ι0 H0 w ∧ VRs ι0 (first.toList ++ vs ++ captured.toList) l') → ∃ v H', k v H' = some r ∧ Grow H H' ∧ Sim E o fr H v H' := by
    intro H0 h hfl hin
    obtain ⟨q, hq, h⟩ := Option.bind_eq_some_iff.1 h
    obtain ⟨h1, h2⟩ := destrRes_ok h
    have hp := h2 hfl
    refine ⟨q.1, H, h1, Grow.refl _, fun B ι a w hH ha next Q hn => ?_⟩
    obtain ⟨f', c', vs', hrun, hvr⟩ := run ι a w ha
    obtain ⟨ι0, i1, i2⟩ := hin B ι w _ hH hvr
    obtain ⟨_, hcall⟩ := hO g _ H0 q hq
    refine wp_enter hrun (hcall _ ι0 w _ i1 i2) (fun e w' he => ?_)
    obtain ⟨ι', v', rfl, x1, x2, x3, x4⟩ := he
    have hv' := plain7_eq hp x3
    subst hv'
    exact ⟨_, rfl, hn ι _ w' (Ext.refl _ _) (hH.world x4 hH.size (fun b j hj hl => hH.lt hj hl) (fun r i d hd => hH.fz_lt hd)) (plain7_refl ι hp) (x4.mono hH.size)⟩
  split at h
  · obtain ⟨hc, h⟩ := cond_some h
    simp only [Bool.and_eq_true] at hc
    refine modes _ h hc.1 (fun B ι w l' hH hl => ⟨Emb.nil, HR.empty w, ?_⟩)
    rw [plains_eq hl hc.2]
    exact plains_refl _ hc.2
  · obtain ⟨hc, h⟩ := cond_some h
    exact modes _ h hc (fun B ι w l' hH hl => ⟨ι.all, hH.raise, VRs.all (ι := ι) (ι' := ι.all) rfl rfl hl⟩)
  · obtain ⟨q, hq, h⟩ := Option.bind_eq_some_iff.1 h
    obtain ⟨h1, _⟩ := destrRes_ok h
    obtain ⟨hG, hcall⟩ := hO g _ H q hq
    have hq2 : (⟨q.2.bs, H.floor, H.lock⟩ : AH) = q.2 := by
      have e1 := hG.floor; have e2 := hG.lock
      cases hq2 : q.2; rw [hq2] at e1 e2; simp at e1 e2; simp [e1, e2]
    rw [hq2] at h1
    refine ⟨q.1, q.2, h1, hG, fun B ι a w hH ha next Q hn => ?_⟩
    obtain ⟨f', c', vs', hrun, hvr⟩ := run ι a w ha
    refine wp_enter hrun (hcall B ι w _ hH hvr) (fun e w' he => ?_)
    obtain ⟨ι', v', rfl, x1, x2, x3, x4⟩ := he
    exact ⟨_, rfl, hn ι' v' w' x1 x2 x3 x4⟩
def Quiet (E : Env) (o : Oper) (fr : Frame) (v : Value) : Prop :=
  ∀ B ι H a w, HR B ι H w → ARs ι fr a o → ∀ next Q, (∀ v' w', HR B ι H w' → VR ι v v' → Below B w w' → next (a.put o.dst v') w') → o.wp E.P a w next Q
theorem quiet_ok (hE : EnvOk E) (hO : OrcOk E orc) (h : evOp E orc o fr H k = some r) (hq : quietCall E.pol o.op = true) : ∃ v, k v H = some r ∧ Quiet E o fr v := by
  obtain ⟨dst, op, type, pos, after, guard⟩ := o
  unfold quietCall at hq
  cases op <;> simp only [] at hq <;> first | (cases hq; done) | skip
  rename_i c
  cases hcal : c.callee <;> rw [hcal] at hq <;> simp only [] at hq <;> first | (cases hq; done) | skip
  rename_i x
  cases x <;> simp only [] at hq <;> first | (cases hq; done) | skip
  rename_i g
  have hmode := Nat.eq_of_beq_eq_true hq
  have h' : oCall E orc fr H k c = some r := h
  unfold oCall at h'
  rw [hcal] at h'
  simp only [arg, Option.bind_some] at h'
  obtain ⟨vs, hv, h2⟩ := Option.bind_eq_some_iff.1 h'
  have e0 : (#[] : Array Value).toList ++ vs ++ (#[] : Array Value).toList = vs := by simp
  rw [e0] at h2
  unfold callF at h2
  obtain ⟨fnc, hfn, h3⟩ := Option.bind_eq_some_iff.1 h2
  obtain ⟨hbody, h4⟩ := cond_some h3
  rw [hmode] at h4
  simp only [] at h4
  obtain ⟨hc, h5⟩ := cond_some h4
  simp only [Bool.and_eq_true] at hc
  obtain ⟨q, hqr, h6⟩ := Option.bind_eq_some_iff.1 h5
  obtain ⟨h7, h8⟩ := destrRes_ok h6
  have hp := h8 hc.1
  have hname := hE.names g fnc hfn hbody
  have hbn : fnc.body.isNone = false := by cases hb : fnc.body <;> simp_all
  refine ⟨q.1, h7, fun B ι H1 a w hH ha next Q hn => ?_⟩
  have e1 : a.eval (.func g) = .func (.func g) #[] #[] := rfl
  have e2 := argsR hv ι a (fun x hx => ha x (by simp [Op.operands, Call.operands, hcal]; right; simpa using hx))
  have ea : c.args.map a.eval = ⟨c.args.toList.map a.eval⟩ := by apply Array.ext'; simp
  have hrun : (execOp a.eval ⟨dst, .call c, type, pos, after, guard⟩).run E.P w = .ok (.enter g ⟨c.args.toList.map a.eval⟩) w := by
    have hname' : ¬ fnc.name = "runtime.NumGoroutine" := by simpa using hname
    have hbn' : ¬ fnc.body = none := by intro e; rw [e] at hbn; cases hbn
    simp [execOp, resolve, hcal, e1, Deferred.ofValue, ea, Sem.run_bind, Sem.run_pure, Result.andThen_ok, invoke, callFunc, hfn, hname', hbn']
  have hpe := plains_eq e2 hc.2
  obtain ⟨_, hcall⟩ := hO g vs ⟨[], 0, []⟩ q hqr
  rw [hpe] at hrun
  refine wp_enter hrun (hcall _ Emb.nil w _ (HR.empty w) (plains_refl _ hc.2)) (fun e w' he => ?_)
  obtain ⟨ι', v', rfl, x1, x2, x3, x4⟩ := he
  have hv' := plain7_eq hp x3
  subst hv'
  exact ⟨_, rfl, hn _ w' (hH.world x4 hH.size (fun b j hj hl => hH.lt hj hl) (fun r i d hd => hH.fz_lt hd)) (plain7_refl ι hp) (x4.mono hH.size)⟩
theorem op_ok (hE : EnvOk E) (hO : OrcOk E orc) (h : evOp E orc o fr H k = some r) : ∃ v H', k v H' = some r ∧ Grow H H' ∧ Sim E o fr H v H' := by
  by_cases h0 : rank o.op = 0
  · obtain ⟨v, h1, h2⟩ := pure_ok hE h h0
    exact ⟨v, H, h1, Grow.refl _, h2.reads.sim⟩
  by_cases hm : isMake o.op = true
  · obtain ⟨x, mk, h1, h2⟩ := make_ok hE h hm
    exact ⟨_, _, h1, Grow.push _ _, h2.sim⟩
  by_cases h1 : rank o.op = 1
  · obtain ⟨v, h1, h2⟩ := read_ok hE h h1 (by simpa using hm)
    exact ⟨v, H, h1, Grow.refl _, h2.sim⟩
  obtain ⟨dst, op, type, pos, after, guard⟩ := o
  unfold evOp at h
  cases op <;> simp only [] at h h0 h1 hm <;> (first | (cases h; done) | (exact absurd rfl h0) | (exact absurd rfl h1) | (exact absurd rfl hm) | skip)
  case store t x y => exact store_ok hE rfl h
  case call c =>
    obtain ⟨callee, args', ats⟩ := c
    cases callee with
    | invoke rc m => cases h
    | value f =>
      have h' : (arg fr f).bind (fun f => (args fr args'.toList).bind fun vs => match f with
        | .func fn first captured => (match fn with
          | .func g => callF E orc g (first.toList ++ vs ++ captured.toList) H k
          | _ => none)
        | _ => none) = some r := h
      obtain ⟨fv, hf, h'⟩ := Option.bind_eq_some_iff.1 h'
      obtain ⟨vs, hv, h'⟩ := Option.bind_eq_some_iff.1 h'
      cases fv with
      | func fn first captured =>
        cases fn with
        | func g => exact call_ok hE hO (c := ⟨.value f, args', ats⟩) rfl rfl hf hv h'
        | _ => cases h'
      | _ => cases h'
    | builtin b =>
      have h' : (args fr args'.toList).bind (fun vs => opBuiltin E.T b ats.toList vs H k) = some r := h
      obtain ⟨vs, hv, h'⟩ := Option.bind_eq_some_iff.1 h'
      have fin : ∀ (f : Array Value → Sem Value), (∀ (cs : Array Bool) (l : Array Value), builtin b ats type cs l = (do pure (.value (← f l)))) → (∃ v H', k v H' = some r ∧ Grow H H' ∧ BSim E.P f vs H v H') →
          ∃ v H', k v H' = some r ∧ Grow H H' ∧ Sim E ⟨dst, .call ⟨.builtin b, args', ats⟩, type, pos, after, guard⟩ fr H v H' := by
        intro f hb ⟨v, H', g1, g2, g3⟩
        refine ⟨v, H', g1, g2, fun B ι a w hH ha next Q hn => ?_⟩
        obtain ⟨ι', v', w', x1, x2, x3, x4, x5⟩ := g3 B ι w (args'.toList.map a.eval) hH (argsR hv ι a fun x hx => ha x (by simp [Op.operands, Call.operands]; simpa using hx))
        have ea : args'.map a.eval = ⟨args'.toList.map a.eval⟩ := by apply Array.ext'; simp
        refine wp_value (v' := v') (w' := w') ?_ (hn ι' v' w' x2 x3 x4 x5)
        simp only [execOp, resolve, Sem.run_bind, Sem.run_pure, Result.andThen_ok, invoke, ea, hb, x1]
      cases b <;> (first | (cases h'; done) | (exact absurd rfl h0) | (exact absurd rfl h1) | skip)
      case append =>
        obtain ⟨v, H', g1, g2, g3⟩ := append_ok hE.fits (ats := ats) (show opAppend E.T ats.toList vs H k = some r from h')
        exact fin (Builtin.append_ ats type) (fun _ _ => rfl) ⟨v, H', g1, g2, fun B ι w vs' hH hvv => g3 B ι w vs' type hH hvv⟩
      case clear => exact fin (Builtin.clear_ ats type) (fun _ _ => rfl) (clear_ok hE.fits (show opClear E.T ats.toList vs H k = some r from h'))
end
end Go.Proofs.Yteljeekapcenlaa.Ev
