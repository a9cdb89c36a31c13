/-
  Ev, part Ka: regions that lay a literal map, in whatever order. No conditions.
-/
import Derived.Test.YteljeekapcenlaaEvK
namespace Go.Proofs.Yteljeekapcenlaa.Ev
open Go Go.RowKit
set_option linter.unusedVariables false
set_option linter.unusedSimpArgs false
theorem MRs.perm {ι : Emb} {es1 es2 : List (Value × Value)} (hp : es1.Perm es2) : ∀ {l : List MapEntry}, MRs ι es1 l → ∃ l2, l2.Perm l ∧ MRs ι es2 l2 := by
  induction hp with
  | nil => intro l h; exact ⟨l, .refl _, h⟩
  | cons a _ ih =>
    intro l h
    cases l with
    | nil => cases h
    | cons e l =>
      obtain ⟨l2, h1, h2⟩ := ih h.2.2
      exact ⟨e :: l2, h1.cons e, h.1, h.2.1, h2⟩
  | swap a b l0 =>
    intro l h
    cases l with
    | nil => cases h
    | cons e l =>
      obtain ⟨h1, h2, h3⟩ := h
      cases l with
      | nil => cases h3
      | cons e2 l =>
        exact ⟨e2 :: e :: l, .swap _ _ _, h3.1, h3.2.1, h1, h2, h3.2.2⟩
  | trans _ _ ih1 ih2 =>
    intro l h
    obtain ⟨l2, h1, h2⟩ := ih1 h
    obtain ⟨l3, h3, h4⟩ := ih2 h2
    exact ⟨l3, h3.trans h1, h4⟩
theorem push_last (H : AH) (x : Blk) (b : Nat) : (H.push x).bs[b]? = if b = H.len then some x else H.bs[b]? := by
  have hl : H.len = H.bs.length := rfl
  show (H.bs ++ [x])[b]? = _
  rw [List.getElem?_append]
  by_cases h : b < H.bs.length
  · rw [if_pos h, if_neg (by omega)]
  · rw [if_neg h]
    by_cases h2 : b = H.len
    · rw [if_pos h2, h2, hl, Nat.sub_self]; rfl
    · rw [if_neg h2, List.getElem?_eq_none (by simp; omega), List.getElem?_eq_none (by omega)]
theorem HR.perm {B : Nat} {ι : Emb} {H : AH} {w : World} {es1 es2 : List (Value × Value)} (hp : es1.Perm es2) (h : HR B ι (H.push (.map es1)) w) : HR B ι (H.push (.map es2)) w := by
  have hl : ∀ b, live (H.push (.map es2)) b → live (H.push (.map es1)) b := by
    intro b hb
    unfold live at *
    rw [push_last] at *
    split
    · simp
    · rename_i q; rw [if_neg q] at hb; exact hb
  refine ⟨fun b j hj => ?_, fun b j hj hf hv => h.base b j hj hf (hl b hv), fun b b' j j' hj hj' hne hf hv hv' => h.inj b b' j j' hj hj' hne hf (hl b hv) (hl b' hv'), h.size, fun r i d hd => ⟨(h.fz r i d hd).1, fun b j hj hf hv => (h.fz r i d hd).2.1 b j hj hf (hl b hv), (h.fz r i d hd).2.2⟩⟩
  obtain ⟨x, hx, hb⟩ := h.blk b j hj
  rw [push_last] at hx ⊢
  split at hx
  · rename_i e
    rw [if_pos e]
    obtain rfl := Option.some.inj hx
    obtain ⟨es', cl, q1, ⟨l, q2, q3⟩, q4⟩ := hb
    obtain ⟨l2, r1, r2⟩ := q3.perm hp
    exact ⟨_, rfl, es', cl, q1, ⟨l2, r1.trans q2, r2⟩, (hp.map _).nodup_iff.1 q4⟩
  · rename_i e
    rw [if_neg e]
    exact ⟨x, hx, hb⟩
section
variable {P : Program} {T : Ty} (hT : Fits P T)
include hT
theorem lay_new {t kt e : TypeId} (hu : P.underlying t = some (.map kt e)) {b : Nat} {H : AH} {es : List (Value × Value)} {key v : Value} (hb : H.bs[b]? = some (.map es)) (hfl : H.floor ≤ b)
    (hk : keyFit T kt key = true) (ha : es.all (fun e => keyFit T kt e.1) = true) (hno : ∀ a ∈ es, a.1 ≠ key)
    {B : Nat} {ι : Emb} {w : World} {m' key' v' : Value} (hH : HR B ι H w) (hm : VR ι (.map (some b)) m') (hkk : VR ι key key') (hv : VR ι v v') :
    ∃ w', (Instr.mapUpdate t m' key' v').run P w = .ok () w' ∧ HR B ι (H.put b (.map (es ++ [(key, v)]))) w' ∧ Below B w w' := by
  have hkd : ∃ d, P.underlying kt = some d := by
    have hk := hk
    simp only [keyFit, keyOk, Bool.and_eq_true] at hk
    obtain ⟨i, hg, _⟩ := flatEq_of hT hk.1.1.2
    exact ⟨_, (hT.get hg).und⟩
  obtain ⟨kd, hkd⟩ := hkd
  obtain rfl := plain_eq (keyFit_plain hk) hkk
  cases hm with | map _ j hj => ?_
  obtain ⟨y, hy, hbr⟩ := hH.blk b j hj
  rw [hb] at hy
  obtain rfl := Option.some.inj hy
  obtain ⟨es', cl, q1, q2, q3⟩ := hbr
  have r2 := (map_find (w := w) hT hkd hk ha q2 q3).2 hno
  have hrun : (Instr.mapUpdate t (.map (some j.blk)) key' v').run P w = .ok () { w with heap := w.heap.setIfInBounds j.blk (.map (es'.push ⟨key', v', cl⟩) (cl + 1)) } := by
    simp [Instr.mapUpdate, run_underlying hu, MapKept.run_getObj_map q1, run_checkKey_fit hT hk, r2, MapKept.run_setObj_map _ q1]
  refine ⟨_, hrun, hH.putMap hj hb hfl rfl ⟨rfl, rfl, rfl⟩ ⟨es'.push ⟨key', v', cl⟩, cl + 1, ?_, ?_, ?_⟩⟩
  · have hlt := (Array.getElem?_eq_some_iff.1 q1).1
    simp [hlt]
  · obtain ⟨l, p1, p2⟩ := q2
    refine ⟨l ++ [⟨key', v', cl⟩], by rw [Array.toList_push]; exact p1.append_right _, MRs.snoc (a := (key', v)) (plain_refl ι (keyFit_plain hk)) hv p2⟩
  · rw [List.map_append, List.nodup_append]
    refine ⟨q3, by simp, fun x hx y hy e => ?_⟩
    simp at hy
    obtain ⟨a, ha1, ha2⟩ := List.mem_map.1 hx
    exact hno a ha1 (by rw [ha2, e, hy])
end
section
variable {E : Env} {orc : Orc} {r : Value × AH}
theorem ins_step (hE : EnvOk E) {o : Oper} {fr : Frame} {H : AH} {k : K} {t kt e : TypeId} {m : Tmp} {kx vx : Operand} {b : Nat} {es : List (Value × Value)} (h : evOpN E orc o fr H k = some r) (ho : o.op = .insert t (.tmp m) kx vx) (hm : getF fr m = some (.map (some b)))
    (hb : H.bs[b]? = some (.map es)) (hu : E.T.und t = some (.map kt e)) :
    ∃ key v es2, arg fr kx = some key ∧ arg fr vx = some v ∧ keyFit E.T kt key = true ∧ es.all (fun e => keyFit E.T kt e.1) = true ∧ H.wok b = true ∧ k undef (H.put b (.map es2)) = some r ∧
      (((∀ a ∈ es, a.1 ≠ key) ∧ es2 = es ++ [(key, v)]) ∨ es2.map (·.1) = es.map (·.1)) := by
  have hmo : isMapOp o.op = true := by rw [ho]; rfl
  replace h := evOpN_map hmo h
  obtain ⟨dst, op, type, pos, after, guard⟩ := o
  dsimp only at ho
  subst ho
  have h : oUpdateN E fr H k t (.tmp m) kx vx = some r := h
  obtain ⟨mv, h1, h⟩ := Option.bind_eq_some_iff.1 h
  obtain ⟨iv, h2, h⟩ := Option.bind_eq_some_iff.1 h
  obtain ⟨xv, h3, h⟩ := Option.bind_eq_some_iff.1 h
  have h1 : getF fr m = some mv := h1
  rw [hm] at h1
  obtain rfl := Option.some.inj h1
  have key : ∃ H', (opUpdate E.T t (.map (some b)) iv xv H fun H => some (undef, H)) = some (undef, H') ∧ k undef H' = some r := by
    cases hl : E.pol.lit t with
    | true =>
      rw [hl, cond_true] at h
      obtain ⟨H', q1, q2⟩ := opUpdate_any h
      exact ⟨H', q2 _, q1⟩
    | false =>
      rw [hl, cond_false] at h
      obtain ⟨H', q1, q2⟩ := bnd_ok h
      unfold muX at q1
      obtain ⟨q, q3, q4⟩ := Option.bind_eq_some_iff.1 q1
      simp at q4; subst q4
      obtain ⟨H', q5, q6⟩ := opUpdate_any q3
      simp [pureK] at q5; subst q5
      exact ⟨_, q6 _, q2⟩
  obtain ⟨H', q1, q2⟩ := key
  unfold opUpdate at q1
  rw [hu] at q1
  simp only [] at q1
  obtain ⟨_, q1⟩ := cond_some q1
  obtain ⟨b', es', e1, hb', hk, ha, q3, _⟩ := entriesK_ok q1
  obtain rfl : b = b' := by simpa using e1
  rw [hb] at hb'
  obtain rfl : es = es' := by simpa using hb'
  obtain ⟨hw, q3⟩ := cond_some q3
  rcases updK_ok hE.fits hk ha q3 with ⟨es1, a, es2, rfl, hak, h4⟩ | ⟨hno, h4⟩
  · obtain rfl : H.put b (.map (es1 ++ (a.1, xv) :: es2)) = H' := by simpa using h4
    exact ⟨iv, xv, _, h2, h3, hk, ha, hw, q2, .inr (by simp)⟩
  · obtain rfl : H.put b (.map (es ++ [(iv, xv)])) = H' := by simpa using h4
    exact ⟨iv, xv, _, h2, h3, hk, ha, hw, q2, .inl ⟨hno, rfl⟩⟩
theorem getF_put_self' {fr : Frame} {t : Tmp} {v u : Value} (h : getF (putF fr (some t) v) t = some u) : u = v := by
  simp only [putF, setF_eq] at h
  rw [getF_eq] at h
  by_cases hl : t < fr.length
  · rw [List.getElem?_set_self hl] at h; simp at h; exact h.symm
  · rw [List.getElem?_eq_none (by simpa using Nat.le_of_not_lt hl)] at h; simp at h
theorem getF_put_ne' {fr : Frame} {d : Option Tmp} {t : Tmp} {v : Value} (h : d ≠ some t) : getF (putF fr d v) t = getF fr t := by
  cases d with
  | none => rfl
  | some d =>
    simp only [putF, setF_eq]
    rw [getF_eq, getF_eq, List.getElem?_set_ne (fun e => h (by rw [e]))]
theorem len_put' (fr : Frame) (d : Option Tmp) (v : Value) : (putF fr d v).length = fr.length := by
  cases d with
  | none => rfl
  | some d => simp [putF, setF_eq]
def LitFact (E : Env) (kt : TypeId) (ops : List Oper) (t0 m b0 fl : Nat) (Ff : Frame) (L : List (Nat × Value × Value)) (n i : Nat) (o : Oper) : Prop :=
  ∃ fi : Frame, (∀ t, (∀ o' ∈ ops.drop i, o'.dst ≠ some t) → getF fi t = getF Ff t) ∧
    ((isIns o = false ∧ ∃ v, Pures E o fi v ∧ ∀ t, o.dst = some t → (∀ o' ∈ ops.drop (i + 1), o'.dst ≠ some t) → ∀ u, getF Ff t = some u → u = v) ∨
     (isIns o = true ∧ o.dst = none ∧ ∃ kx vx key v, o.op = .insert t0 (.tmp m) kx vx ∧ arg fi kx = some key ∧ arg fi vx = some v ∧ keyFit E.T kt key = true ∧ getF fi m = some (.map (some b0)) ∧ fl ≤ b0 ∧ (n + i, key, v) ∈ L))
theorem litOp_some {t0 m : Nat} {o : Oper} (h : litOp t0 m o = true) : o.guard = none ∧ o.dst ≠ some m ∧ ((∃ kx vx, o.op = .insert t0 (.tmp m) kx vx ∧ o.dst = none ∧ isIns o = true) ∨ (isIns o = false ∧ rank o.op = 0)) := by
  obtain ⟨dst, op, type, pos, after, guard⟩ := o
  simp only [litOp, Bool.and_eq_true] at h
  obtain ⟨⟨h1, h2⟩, h3⟩ := h
  refine ⟨by simpa using h1, ?_, ?_⟩
  · intro e
    dsimp only at e h2
    rw [e] at h2
    simp at h2
  · cases op <;> simp only [] at h3 <;> first
      | (refine .inr ⟨rfl, ?_⟩; exact Nat.eq_of_beq_eq_true h3)
      | skip
    rename_i t x kx vx
    simp only [Bool.and_eq_true] at h3
    obtain ⟨⟨h4, h5⟩, h6⟩ := h3
    obtain rfl := Nat.eq_of_beq_eq_true h4
    cases x <;> simp only [] at h5 <;> first | (cases h5; done) | skip
    obtain rfl := Nat.eq_of_beq_eq_true h5
    exact .inl ⟨kx, vx, rfl, by simpa using h6, rfl⟩
theorem put_get' {H : AH} {b : Nat} {x y : Blk} (h : H.bs[b]? = some x) : (H.put b y).bs[b]? = some y := by
  have := (List.getElem?_eq_some_iff.1 h).1
  simp [AH.put, this]
theorem lit_trace (hE : EnvOk E) (ops : List Oper) {t0 m : Nat} {kt et : TypeId} {b0 fl : Nat} (hu : E.T.und t0 = some (.map kt et)) : ∀ (l : List Oper) (n : Nat) (fr : Frame) (H : AH) (kk : Frame → AH → Res) (es : List (Value × Value)),
    (∀ o ∈ l, litOp t0 m o = true) → evOps E orc ops l fr H kk = some r → H.bs[b0]? = some (.map es) → H.floor = fl → getF fr m = some (.map (some b0)) → (es.map (·.1)).Nodup →
    ∃ (Ff : Frame) (es' : List (Value × Value)), kk Ff (H.put b0 (.map es')) = some r ∧ es'.length ≤ es.length + l.countP isIns ∧ Ff.length = fr.length ∧ (∀ t, (∀ o ∈ l, o.dst ≠ some t) → getF fr t = getF Ff t) ∧
      (es'.length = es.length + l.countP isIns → ∃ L : List (Nat × Value × Value), es' = es ++ L.map (·.2) ∧ (es'.map (·.1)).Nodup ∧ (∀ x ∈ L, n ≤ x.1 ∧ keyFit E.T kt x.2.1 = true ∧ ∃ o, l[x.1 - n]? = some o ∧ isIns o = true) ∧ (L.map (·.1)).Nodup ∧
        ∀ i o, l[i]? = some o → LitFact E kt l t0 m b0 fl Ff L n i o) := by
  intro l
  induction l with
  | nil =>
    intro n fr H kk es _ h hb hfl hm hn
    refine ⟨fr, es, ?_, Nat.le_refl _, rfl, fun _ _ => rfl, fun _ => ⟨[], by simp, hn, fun x hx => (by cases hx), List.nodup_nil, fun i o hi => (by simp at hi)⟩⟩
    have : H.put b0 (.map es) = H := by
      obtain ⟨hlt, he⟩ := List.getElem?_eq_some_iff.1 hb
      simp only [AH.put]
      rw [← he, List.set_getElem_self]
    rw [this]; exact h
  | cons o l ih =>
    intro n fr H kk es hl h hb hfl hm hn
    obtain ⟨hg, hd, hcase⟩ := litOp_some (hl o List.mem_cons_self)
    have hl' : ∀ o ∈ l, litOp t0 m o = true := fun o ho => hl o (List.mem_cons_of_mem _ ho)
    have h' : guardR ops o.guard fr (fun fr => sureK E.pol o.op fr fun fr => evOpN E orc o fr H fun v H => evOps E orc ops l (putF fr o.dst v) H kk) (fun fr => evOps E orc ops l (putF fr o.dst undef) H kk) = some r := h
    rw [hg] at h'
    have h1 : evOpN E orc o fr H (fun v H => evOps E orc ops l (putF fr o.dst v) H kk) = some r := sureK_ok h'
    rcases hcase with ⟨kx, vx, hop, hdn, hins⟩ | ⟨hins, hr⟩
    · obtain ⟨key, v, es2, a1, a2, a3, a4, a5, a6, a7⟩ := ins_step hE h1 hop hm hb hu
      rw [hdn] at a6
      have hn2 : (es2.map (·.1)).Nodup := by
        rcases a7 with ⟨q1, rfl⟩ | q
        · rw [List.map_append, List.nodup_append]
          refine ⟨hn, by simp, fun x hx y hy e => ?_⟩
          simp at hy
          obtain ⟨a, ha1, ha2⟩ := List.mem_map.1 hx
          exact q1 a ha1 (by rw [ha2, e, hy])
        · rw [q]; exact hn
      have hfl0 : fl ≤ b0 := by
        simp only [AH.wok, Bool.and_eq_true] at a5
        rw [← hfl]; exact Nat.le_of_ble_eq_true a5.1
      have a6' : evOps E orc ops l fr (H.put b0 (.map es2)) kk = some r := a6
      obtain ⟨Ff, es', b1, b2, b3, b4, b5⟩ := ih (n + 1) fr (H.put b0 (.map es2)) kk es2 hl' a6' (put_get' hb) hfl hm hn2
      rw [put_put] at b1
      have hcnt : (o :: l).countP isIns = l.countP isIns + 1 := by rw [List.countP_cons, hins]; simp
      rw [hcnt]
      have hle : es2.length ≤ es.length + 1 := by
        rcases a7 with ⟨q1, rfl⟩ | q
        · simp
        · have := congrArg List.length q
          simp at this; omega
      refine ⟨Ff, es', b1, by omega, b3, fun t ht => b4 t fun o' ho' => ht o' (List.mem_cons_of_mem _ ho'), fun hlen => ?_⟩
      have happ : (∀ a ∈ es, a.1 ≠ key) ∧ es2 = es ++ [(key, v)] := by
        rcases a7 with q | q
        · exact q
        · have := congrArg List.length q
          simp at this; omega
      obtain ⟨_, rfl⟩ := happ
      obtain ⟨L, c1, c2, c3, c4, c5⟩ := b5 (by simp; omega)
      refine ⟨(n, key, v) :: L, by rw [c1]; simp, c2, fun x hx => ?_, ?_, fun i o' hi => ?_⟩
      · rcases List.mem_cons.1 hx with rfl | hx
        · exact ⟨Nat.le_refl _, a3, o, by simp, hins⟩
        · obtain ⟨d1, d2, o', d3, d4⟩ := c3 x hx
          refine ⟨by omega, d2, o', ?_, d4⟩
          rw [show x.1 - n = (x.1 - (n + 1)) + 1 by omega]
          exact d3
      · rw [List.map_cons, List.nodup_cons]
        refine ⟨fun hmem => ?_, c4⟩
        obtain ⟨x, hx, he⟩ := List.mem_map.1 hmem
        have := (c3 x hx).1
        dsimp only at he
        omega
      · cases i with
        | zero =>
          obtain rfl : o = o' := by simpa using hi
          refine ⟨fr, fun t ht => ?_, .inr ⟨hins, hdn, kx, vx, key, v, hop, a1, a2, a3, hm, hfl0, by simp⟩⟩
          rw [List.drop_zero] at ht
          exact b4 t fun o' ho' => ht o' (List.mem_cons_of_mem _ ho')
        | succ i =>
          obtain ⟨fi, e1, e2⟩ := c5 i o' (by simpa using hi)
          refine ⟨fi, fun t ht => e1 t (by simpa using ht), ?_⟩
          rcases e2 with ⟨e2, v', e3, e4⟩ | ⟨e2, e2', kx', vx', key', v', e3, e4, e5, e6, e7, e8, e9⟩
          · exact .inl ⟨e2, v', e3, fun t ht hlast => e4 t ht (by simpa using hlast)⟩
          · exact .inr ⟨e2, e2', kx', vx', key', v', e3, e4, e5, e6, e7, e8, List.mem_cons_of_mem _ (by rw [show n + (i + 1) = n + 1 + i by omega]; exact e9)⟩
    · obtain ⟨v, a1, a2⟩ := pure_okN hE h1 hr
      obtain ⟨Ff, es', b1, b2, b3, b4, b5⟩ := ih (n + 1) (putF fr o.dst v) H kk es hl' a1 hb hfl (by rw [getF_put_ne' hd]; exact hm) hn
      have hcnt : (o :: l).countP isIns = l.countP isIns := by rw [List.countP_cons, hins]; simp
      rw [hcnt]
      refine ⟨Ff, es', b1, b2, by rw [b3, len_put'], fun t ht => ?_, fun hlen => ?_⟩
      · rw [← b4 t fun o' ho' => ht o' (List.mem_cons_of_mem _ ho'), getF_put_ne' (ht o List.mem_cons_self)]
      · obtain ⟨L, c1, c2, c3, c4, c5⟩ := b5 hlen
        refine ⟨L, c1, c2, fun x hx => ?_, c4, fun i o' hi => ?_⟩
        · obtain ⟨d1, d2, o', d3, d4⟩ := c3 x hx
          refine ⟨by omega, d2, o', ?_, d4⟩
          rw [show x.1 - n = (x.1 - (n + 1)) + 1 by omega]
          exact d3
        · cases i with
          | zero =>
            obtain rfl : o = o' := by simpa using hi
            refine ⟨fr, fun t ht => ?_, .inl ⟨hins, v, a2, fun t ht hlast u hu' => ?_⟩⟩
            · rw [List.drop_zero] at ht
              rw [← b4 t fun o' ho' => ht o' (List.mem_cons_of_mem _ ho'), getF_put_ne' (ht o List.mem_cons_self)]
            · have := b4 t (by simpa using hlast)
              rw [← this, ht] at hu'
              exact getF_put_self' hu'
          | succ i =>
            obtain ⟨fi, e1, e2⟩ := c5 i o' (by simpa using hi)
            refine ⟨fi, fun t ht => e1 t (by simpa using ht), ?_⟩
            rcases e2 with ⟨e2, v', e3, e4⟩ | ⟨e2, e2', kx', vx', key', v', e3, e4, e5, e6, e7, e8, e9⟩
            · exact .inl ⟨e2, v', e3, fun t ht hlast => e4 t ht (by simpa using hlast)⟩
            · exact .inr ⟨e2, e2', kx', vx', key', v', e3, e4, e5, e6, e7, e8, by rw [show n + (i + 1) = n + 1 + i by omega]; exact e9⟩
end
end Go.Proofs.Yteljeekapcenlaa.Ev
