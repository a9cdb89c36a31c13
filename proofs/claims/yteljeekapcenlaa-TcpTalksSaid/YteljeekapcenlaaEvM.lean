/-
  Ev, part M: contracts: what a call answers, put together out of what other calls answer. No conditions.
-/
import Derived.Test.YteljeekapcenlaaEvL
namespace Go.Proofs.Yteljeekapcenlaa.Ev
open Go Go.RowKit
theorem OrcOk.good {E : Env} {orc : Orc} (h : OrcOk E orc) {f : FuncId} {vs : List Value} {H : AH} {r : Value × AH} (hr : orc f vs H = some r) : Good E.P f vs H r := h f vs H r hr
theorem body_good {E : Env} (hE : EnvOk E) {orc : Orc} (ih : OrcOk E orc) {n : Nat} {f : FuncId} {vs : List Value} {H : AH} {r : Value × AH}
    (h' : evBody E orc (fun s => loopN s n) f vs H = some r) : Good E.P f vs H r := by
  unfold evBody at h'
  obtain ⟨fn, hfn, h'⟩ := Option.bind_eq_some_iff.1 h'
  obtain ⟨c, hc, h'⟩ := Option.bind_eq_some_iff.1 h'
  constructor
  · obtain ⟨e, fr', H', h1, h2⟩ := code_grow hE ih f n c _ _ _ _ h'
    obtain ⟨_, h3, _⟩ := end_ok hE h1
    rw [h3]; exact h2
  · intro B ι w vs' hH hv
    refine calls_of_wp hfn hc ?_
    have hF := initF_ok hv fn.ntmps
    have hsz : (⟨vs'⟩ : Array Value).size = vs'.length := rfl
    rw [hsz]
    refine code_ok hE ih (draw_ok hE ih) f n c _ H _ r h' B ι _ w _ hH hF ?_
    intro e fr' H' ι' a' w' y1 y2 y3 y4 y5 y6
    obtain ⟨he, h3, h4⟩ := end_ok hE y1
    obtain ⟨v', s1, s2⟩ := h4 B ι' a' w' y4 y5
    have post : a'.defers = [] ∧ ∃ v, (results fn a'.tmps).run E.P w' = .ok v w' ∧ CallPost B ι H r w (.returned v) w' :=
      ⟨y5.defers, v', s1, ι', v', rfl, y3, by rw [h3]; exact y4, s2, y6⟩
    rcases he with rfl | rfl
    · exact post
    · exact post
abbrev Tab := List (FuncId × (List Value → AH → Res))
def TabOk (P : Program) (tab : Tab) : Prop := ∀ x ∈ tab, ∀ vs H r, x.2 vs H = some r → Good P x.1 vs H r
theorem TabOk.nil {P : Program} : TabOk P [] := fun _ h => (by cases h)
theorem TabOk.cons {P : Program} {f : FuncId} {s : List Value → AH → Res} {tab : Tab} (h : ∀ vs H r, s vs H = some r → Good P f vs H r) (ht : TabOk P tab) : TabOk P ((f, s) :: tab) := by
  intro x hx
  rcases List.mem_cons.1 hx with rfl | hx
  · exact h
  · exact ht x hx
noncomputable def findT (tab : Tab) (f : FuncId) : Option (List Value → AH → Res) :=
  List.rec (motive := fun _ => Option (List Value → AH → Res)) none (fun x _ ih => cond (Nat.beq x.1 f) (some x.2) ih) tab
theorem findT_mem {tab : Tab} {f : FuncId} {s : List Value → AH → Res} (h : findT tab f = some s) : (f, s) ∈ tab := by
  induction tab with
  | nil => cases h
  | cons x xs ih =>
    have h2 : cond (Nat.beq x.1 f) (some x.2) (findT xs f) = some s := h
    clear h
    cases hb : Nat.beq x.1 f with
    | true =>
      rw [hb] at h2
      have e := Nat.eq_of_beq_eq_true hb
      have e2 : x.2 = s := by simpa using h2
      have : (f, s) = x := by rw [← e, ← e2]
      rw [this]; exact List.mem_cons_self
    | false => rw [hb] at h2; exact List.mem_cons_of_mem _ (ih h2)
noncomputable def evTab (E : Env) (tab : Tab) (m : Nat) (n : Nat) : Orc :=
  Nat.rec (motive := fun _ => Orc)
    (fun f vs H => match findT tab f with | some s => s vs H | none => none)
    (fun _ ih f vs H => match findT tab f with | some s => s vs H | none => evBody E ih (fun s => loopN s m) f vs H) n
theorem evTab_ok {E : Env} (hE : EnvOk E) {tab : Tab} (ht : TabOk E.P tab) (m : Nat) : ∀ n, OrcOk E (evTab E tab m n) := by
  intro n
  induction n with
  | zero =>
    intro f vs H r h
    have h : (match findT tab f with | some s => s vs H | none => none) = some r := h
    cases hf : findT tab f with
    | some s => rw [hf] at h; exact ht _ (findT_mem hf) vs H r h
    | none => rw [hf] at h; cases h
  | succ n ih =>
    intro f vs H r h
    have h : (match findT tab f with | some s => s vs H | none => evBody E (evTab E tab m n) (fun s => loopN s m) f vs H) = some r := h
    cases hf : findT tab f with
    | some s => rw [hf] at h; exact ht _ (findT_mem hf) vs H r h
    | none => rw [hf] at h; exact body_good hE ih h
theorem good_of_body {E : Env} (hE : EnvOk E) {tab : Tab} (ht : TabOk E.P tab) (m n k : Nat) {f : FuncId} {vs : List Value} {H : AH} {r : Value × AH}
    (h : evBody E (evTab E tab m n) (fun s => loopN s k) f vs H = some r) : Good E.P f vs H r := body_good hE (evTab_ok hE ht m n) h
noncomputable def ret (v : Value) : Res := some (v, ⟨[], 0, []⟩)
noncomputable def evEnd0 (T : Ty) (fn : Func) : KC
  | .exit _, _, _ => none
  | .normal, fr, H => resK T fr H fn.results.toList fun vs => match vs with | [v] => ret v | vs => ret (.tuple vs.toArray)
  | .ret, fr, H => resK T fr H fn.results.toList fun vs => match vs with | [v] => ret v | vs => ret (.tuple vs.toArray)
noncomputable def evBody0 (E : Env) (orc : Orc) (lp : Lp) (f : FuncId) (as : List Value) (H : AH) : Res :=
  (E.P.funcs[f]?).bind fun fn => fn.body.bind fun c => evCode E orc lp f c (initF fn.ntmps as) ⟨H.bs, H.len, []⟩ (evEnd0 E.T fn)
theorem end0_ok {E : Env} (hE : EnvOk E) {fn : Func} {fr : Frame} {e : Ex} {H : AH} {r : Value × AH} (h : evEnd0 E.T fn e fr H = some r) :
    (e = .normal ∨ e = .ret) ∧ ∀ B ι a w, HR B ι H w → FR ι fr a → ∃ v', (results fn a.tmps).run E.P w = .ok v' w ∧ VR ι r.1 v' := by
  have key : (resK E.T fr H fn.results.toList fun vs => match vs with | [v] => ret v | vs => ret (.tuple vs.toArray)) = some r →
      ∀ B ι a w, HR B ι H w → FR ι fr a → ∃ v', (results fn a.tmps).run E.P w = .ok v' w ∧ VR ι r.1 v' := by
    intro h
    obtain ⟨vs, h1, h2⟩ := resK_ok hE _ _ h
    have hr : r.1 = (match vs with | [v] => v | vs => .tuple vs.toArray) := by
      match vs, h1 with
      | [v], h1 => simp [ret] at h1; subst h1; rfl
      | [], h1 => simp [ret] at h1; subst h1; rfl
      | _ :: _ :: _, h1 => simp [ret] at h1; subst h1; rfl
    intro B ι a w hH hF
    obtain ⟨vs', s1, s2⟩ := h2 B ι a w hH hF
    have hm : (fn.results.mapM (resSem a.tmps)).run E.P w = .ok ⟨vs'⟩ w := by
      rw [Array.mapM_eq_mapM_toList]
      simp only [Sem.run_map, s2, Result.andThen_ok]
    rw [hr]
    match vs, vs', s1 with
    | [v], [v'], .cons _ _ _ _ hv .nil => exact ⟨v', by rw [results_eq, Sem.run_bind, hm]; simp, hv⟩
    | [], [], .nil => exact ⟨.tuple #[], by rw [results_eq, Sem.run_bind, hm]; simp, .tuple [] [] .nil⟩
    | _ :: _ :: l, _ :: _ :: l', hh => exact ⟨.tuple ⟨_ :: _ :: l'⟩, by rw [results_eq, Sem.run_bind, hm]; simp, .tuple _ _ hh⟩
  cases e with
  | normal => exact ⟨.inl rfl, key h⟩
  | ret => exact ⟨.inr rfl, key h⟩
  | exit i => cases h
noncomputable def plain7 (v : Value) : Bool := plainN 7 v
theorem good_read {E : Env} (hE : EnvOk E) {orc : Orc} (hO : OrcOk E orc) {n : Nat} {f : FuncId} {vs : List Value} {H : AH} {v : Value} {r : Value × AH}
    (h : evBody0 E orc (fun s => loopN s n) f vs H = some r) (hv : r.1 = v) (hp : plain7 v = true) : Good E.P f vs H (v, H) := by
  refine ⟨Grow.refl _, fun B ι w vs' hH hvs => ?_⟩
  have hvs := VRs.all (ι := ι) (ι' := ι.all) rfl rfl hvs
  unfold evBody0 at h
  obtain ⟨fn, hfn, h'⟩ := Option.bind_eq_some_iff.1 h
  obtain ⟨c, hc, h''⟩ := Option.bind_eq_some_iff.1 h'
  refine calls_of_wp hfn hc ?_
  have hF := initF_ok hvs fn.ntmps
  have hsz : (⟨vs'⟩ : Array Value).size = vs'.length := rfl
  rw [hsz]
  refine code_ok hE hO (draw_ok hE hO) f n c _ _ _ r h'' w.heap.size ι.all _ w _ hH.raise hF ?_
  intro e fr' H' ι' a' w' y1 y2 y3 y4 y5 y6
  obtain ⟨he, h4⟩ := end0_ok hE y1
  obtain ⟨v', s1, s2⟩ := h4 _ ι' a' w' y4 y5
  rw [hv] at s2
  have hv' := plain7_eq hp s2
  subst hv'
  have post : a'.defers = [] ∧ ∃ u, (results fn a'.tmps).run E.P w' = .ok u w' ∧ CallPost B ι H (v', H) w (.returned u) w' :=
    ⟨y5.defers, v', s1, ι, v', rfl, Ext.refl _ _, hH.world y6 hH.size (fun b j hj hl => hH.lt hj hl) (fun r i d hd => hH.fz_lt hd), plain7_refl ι hp, y6.mono hH.size⟩
  rcases he with rfl | rfl
  · exact post
  · exact post
theorem Good.plain {P : Program} {f : FuncId} {vs : List Value} {v : Value} (h : Good P f vs ⟨[], 0, []⟩ (v, ⟨[], 0, []⟩)) (hvs : vs.all plain = true) (hp : plain7 v = true) (H : AH) : Good P f vs H (v, H) := by
  refine ⟨Grow.refl _, fun B ι w vs' hH hr => ?_⟩
  rw [plains_eq hr hvs]
  refine (h.2 w.heap.size Emb.nil w vs (HR.empty w) (plains_refl _ hvs)).mono fun e w' he => ?_
  obtain ⟨ι', v', rfl, x1, x2, x3, x4⟩ := he
  have hv' := plain7_eq hp x3
  subst hv'
  exact ⟨ι, _, rfl, Ext.refl _ _, hH.world x4 hH.size (fun b j hj hl => hH.lt hj hl) (fun r i d hd => hH.fz_lt hd), plain7_refl ι hp, x4.mono hH.size⟩
theorem good_plain {E : Env} (hE : EnvOk E) {tab : Tab} (ht : TabOk E.P tab) {m n k : Nat} {f : FuncId} {vs : List Value} {v : Value}
    (h : evBody0 E (evTab E tab m n) (fun s => loopN s k) f vs ⟨[], 0, []⟩ = ret v) (hvs : vs.all plain = true) (hp : plain7 v = true) (H : AH) : Good E.P f vs H (v, H) :=
  (good_read hE (evTab_ok hE ht m n) h rfl hp).plain hvs hp H
theorem pushB (b x y : Bool) : cond b (ret (.bool x)) (ret (.bool y)) = ret (.bool (cond b x y)) := by cases b <;> rfl
theorem pushI (k : IntKind) (b : Bool) (x y : Int) : cond b (ret (.int k x)) (ret (.int k y)) = ret (.int k (cond b x y)) := by cases b <;> rfl
end Go.Proofs.Yteljeekapcenlaa.Ev
