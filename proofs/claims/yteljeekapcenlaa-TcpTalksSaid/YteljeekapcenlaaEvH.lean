/-
  Ev, part H: the operations that touch no memory, that read it, or that make a block, each as one fact. No conditions.
-/
import Derived.Test.YteljeekapcenlaaEvG
namespace Go.Proofs.Yteljeekapcenlaa.Ev
open Go Go.RowKit
structure Grow (H H' : AH) : Prop where
  floor : H'.floor = H.floor
  lock : H'.lock = H.lock
  len : H.len ≤ H'.len
  kept : ∀ b, b < H.len → H.wok b = false → H'.bs[b]? = H.bs[b]?
theorem Grow.refl (H : AH) : Grow H H := ⟨rfl, rfl, Nat.le_refl _, fun _ _ _ => rfl⟩
theorem wok_eq {H H' : AH} (h1 : H'.floor = H.floor) (h2 : H'.lock = H.lock) (b : Nat) : H'.wok b = H.wok b := by unfold AH.wok; rw [h1, h2]
theorem Grow.trans {A B C : AH} (h : Grow A B) (k : Grow B C) : Grow A C :=
  ⟨k.floor.trans h.floor, k.lock.trans h.lock, Nat.le_trans h.len k.len, fun b hb hw => by
    rw [k.kept b (Nat.lt_of_lt_of_le hb h.len) (by rw [wok_eq h.floor h.lock]; exact hw), h.kept b hb hw]⟩
theorem Grow.push (H : AH) (x : Blk) : Grow H (H.push x) :=
  ⟨rfl, rfl, by simp [AH.push, AH.len], fun b hb _ => by simp only [AH.push]; rw [List.getElem?_append_left hb]⟩
theorem Grow.put (H : AH) {b : Nat} (x : Blk) (hw : H.wok b = true) : Grow H (H.put b x) :=
  ⟨rfl, rfl, by simp [AH.put, AH.len], fun b' _ hw' => by
    simp only [AH.put]
    rw [List.getElem?_set_ne (fun e => by subst e; rw [hw] at hw'; cases hw')]⟩
structure Ext (n : Nat) (ι ι' : Emb) : Prop where
  le : ι.le ι'
  old : ∀ b, b < n → ι b = none → ι' b = none
theorem Ext.refl (n : Nat) (ι : Emb) : Ext n ι ι := ⟨Emb.le_refl _, fun _ _ h => h⟩
theorem Ext.trans {n m : Nat} {a b c : Emb} (h : Ext n a b) (k : Ext m b c) (hm : n ≤ m) : Ext n a c :=
  ⟨Emb.le_trans h.le k.le, fun x hx hn => k.old x (by omega) (h.old x hx hn)⟩
theorem Ext.set {n : Nat} {ι : Emb} {b : Nat} (hb : n ≤ b) (hn : ι b = none) (j : Inj) : Ext n ι (ι.set b j) :=
  ⟨Emb.set_le hn, fun x hx h => by rw [Emb.set_ne (by omega)]; exact h⟩
def CallPost (B : Nat) (ι : Emb) (H : AH) (r : Value × AH) (w : World) : Ending → World → Prop := fun e w' =>
  ∃ ι' v', e = .returned v' ∧ Ext H.len ι ι' ∧ HR B ι' r.2 w' ∧ VR ι' r.1 v' ∧ Below B w w'
def Good (P : Program) (f : FuncId) (vs : List Value) (H : AH) (r : Value × AH) : Prop :=
  Grow H r.2 ∧ ∀ B ι w vs', HR B ι H w → VRs ι vs vs' → Calls P f ⟨vs'⟩ w (CallPost B ι H r w)
noncomputable def ownR (z : Nat) (cs : List Value) : Value × AH := (dB z 0 (dlen z cs), ⟨[.bld cs], 0, []⟩)
structure EnvOk (E : Env) : Prop where
  fits : Fits E.P E.T
  names : ∀ (f : FuncId) (fn : Func), E.P.funcs[f]? = some fn → fn.body.isSome = true → (fn.name == "runtime.NumGoroutine") = false
  mixed : E.P.follows .mixedOrders = true
  spec : ∀ g s, E.pol.spec g = some s → ∀ vs k r, s vs k = some r → ∃ v, k v = some r ∧
    (if E.pol.mode g = 5 then ∃ z cs, v = dS z cs ∧ Good E.P g vs ⟨[], 0, []⟩ (ownR z cs) else Good E.P g vs ⟨[], 0, []⟩ (v, ⟨[], 0, []⟩))
  specM : ∀ g s, E.pol.specM g = some s → ∀ vs H k r, s vs H k = some r → ∃ v H', k v H' = some r ∧ Good E.P g vs H (v, H')
def ARs (ι : Emb) (fr : Frame) (a : Act) (o : Oper) : Prop := ∀ x ∈ o.op.operands, AR ι fr a x
def Pures (E : Env) (o : Oper) (fr : Frame) (v : Value) : Prop :=
  ∀ ι a w, ARs ι fr a o → ∃ v', (execOp a.eval o).run E.P w = .ok (.value v') w ∧ VR ι v v'
def Reads (E : Env) (o : Oper) (fr : Frame) (H : AH) (v : Value) : Prop :=
  ∀ B ι H2 a w, HR B ι H2 w → ARs ι fr a o → (∀ b, readAt o fr H = some b → H2.bs[b]? = H.bs[b]?) → ∃ v', (execOp a.eval o).run E.P w = .ok (.value v') w ∧ VR ι v v'
def Makes (E : Env) (o : Oper) (fr : Frame) (x : Blk) (mk : Nat → Value) : Prop :=
  ∀ ι a w, ARs ι fr a o → ∃ (o' : Obj) (v' : Value), (execOp a.eval o).run E.P w = .ok (.value v') { w with heap := w.heap.push o' } ∧
    ∀ b, ι b = none → BR (ι.set b ⟨w.heap.size, 0, 0⟩) { w with heap := w.heap.push o' } true ⟨w.heap.size, 0, 0⟩ x ∧ VR (ι.set b ⟨w.heap.size, 0, 0⟩) (mk b) v'
theorem Pures.reads {E : Env} {o : Oper} {fr : Frame} {H : AH} {v : Value} (h : Pures E o fr v) : Reads E o fr H v :=
  fun _ ι _ a w _ ha _ => h ι a w ha
theorem ar1 {ι : Emb} {fr : Frame} {a : Act} {o : Oper} (h : ARs ι fr a o) {x : Operand} (hx : x ∈ o.op.operands) {v : Value} (hv : arg fr x = some v) : VR ι v (a.eval x) := h x hx v hv
section
variable {E : Env} {orc : Orc} {o : Oper} {fr : Frame} {H : AH} {k : K} {r : Value × AH}
def isMake : Op → Bool
  | .alloc _ | .box .. | .buildSlice .. | .makeSlice .. | .makeMap .. => true
  | _ => false
theorem minmax_ok {P : Program} {isMax : Bool} {as : List Value} {k : Value → Res} (h : opMinMax isMax as k = some r) :
    ∃ v, k v = some r ∧ ∀ ι as' ts t w, VRs ι as as' → ∃ v', ((if isMax then Builtin.max_ ts t ⟨as'⟩ else Builtin.min_ ts t ⟨as'⟩) : Sem Value).run P w = .ok v' w ∧ VR ι v v' := by
  cases as with
  | nil => cases h
  | cons x rest =>
    simp only [opMinMax] at h
    obtain ⟨kd, a, hq, h0⟩ := asI_ok h
    clear h; subst hq; have h := h0; clear h0
    cases rest with
    | nil =>
      refine ⟨_, h, fun ι as' ts t w hv => ?_⟩
      cases hv with | cons _ _ _ _ h1 h2 => ?_
      cases h1; cases h2
      refine ⟨_, ?_, .int kd a⟩
      cases isMax <;> simp [Builtin.max_, Builtin.min_]
    | cons y rest =>
      cases rest with
      | cons _ _ => cases h
      | nil =>
        simp only [] at h
        obtain ⟨kd', b, hq, h0⟩ := asI_ok h
        clear h; subst hq; have h := h0; clear h0
        obtain ⟨hk, h⟩ := cond_some h
        have hk := of_decide_eq_true hk
        refine ⟨_, h, fun ι as' ts t w hv => ?_⟩
        cases hv with | cons _ _ _ _ h1 h2 => ?_
        cases h2 with | cons _ _ _ _ h3 h4 => ?_
        cases h1; cases h3; cases h4
        cases isMax
        · refine ⟨_, ?_, .int kd (min a b)⟩
          simp [Builtin.min_, Builtin.min2]
          omega
        · refine ⟨_, ?_, .int kd (max a b)⟩
          simp [Builtin.max_, Builtin.max2]
          omega
theorem pure_ok (hE : EnvOk E) (h : evOp E orc o fr H k = some r) (hr : rank o.op = 0) : ∃ v, k v H = some r ∧ Pures E o fr v := by
  obtain ⟨dst, op, type, pos, after, guard⟩ := o
  unfold evOp at h
  cases op <;> simp only [] at h hr <;> (first | (cases h; done) | (simp [rank] at hr; done) | skip)
  case move x =>
    obtain ⟨v, hv, h⟩ := Option.bind_eq_some_iff.1 h
    exact ⟨v, h, fun ι a w ha => ⟨_, rfl, ar1 ha (by simp [Op.operands]) hv⟩⟩
  case assign x =>
    obtain ⟨v, hv, h⟩ := Option.bind_eq_some_iff.1 h
    exact ⟨v, h, fun ι a w ha => ⟨_, rfl, ar1 ha (by simp [Op.operands]) hv⟩⟩
  case nilCheck x =>
    obtain ⟨v, hv, h⟩ := Option.bind_eq_some_iff.1 h
    cases v <;> (try simp only [] at h) <;> first | (cases h; done) | skip
    case pointer oa =>
      cases oa with
      | none => cases h
      | some ad =>
        refine ⟨_, h, fun ι a w ha => ?_⟩
        have e1 := ar1 ha (by simp [Op.operands]) hv
        generalize hg : a.eval x = cc at e1
        have e2 := e1
        cases e1 with | ptr b o' j hj => ?_
        exact ⟨_, by simp [execOp, hg], e2⟩
    case func fn fa ca =>
      cases fn <;> (try simp only [] at h) <;> first | (cases h; done) | skip
      refine ⟨_, h, fun ι a w ha => ?_⟩
      have e1 := ar1 ha (by simp [Op.operands]) hv
      generalize hg : a.eval x = cc at e1
      have e2 := e1
      cases e1
      exact ⟨_, by simp [execOp, hg], e2⟩
  case pick c x y =>
    obtain ⟨v, hv, h⟩ := Option.bind_eq_some_iff.1 h
    obtain ⟨b, hq, h0⟩ := asB_ok h
    subst hq
    cases b with
    | true =>
      obtain ⟨u, hu, h1⟩ := Option.bind_eq_some_iff.1 h0
      refine ⟨u, h1, fun ι a w ha => ?_⟩
      have e1 := ar1 ha (by simp [Op.operands]) hv
      generalize hg : a.eval c = cc at e1
      cases e1
      exact ⟨a.eval x, by simp [execOp, hg, asBool], ar1 ha (by simp [Op.operands]) hu⟩
    | false =>
      obtain ⟨u, hu, h1⟩ := Option.bind_eq_some_iff.1 h0
      refine ⟨u, h1, fun ι a w ha => ?_⟩
      have e1 := ar1 ha (by simp [Op.operands]) hv
      generalize hg : a.eval c = cc at e1
      cases e1
      exact ⟨a.eval y, by simp [execOp, hg, asBool], ar1 ha (by simp [Op.operands]) hu⟩
  case build t ps =>
    obtain ⟨vs, hv, h⟩ := Option.bind_eq_some_iff.1 h
    obtain ⟨v, h1, h2⟩ := opBuild_ok hE.fits h
    refine ⟨v, h1, fun ι a w ha => ?_⟩
    obtain ⟨p1, p2⟩ := parts_some hv ι a (fun x hx => ha x.2 (by simp only [Op.operands]; simp; exact ⟨x.1, by simpa using hx⟩))
    obtain ⟨v', h3, h4⟩ := h2 ι (ps.map fun x => (x.1, a.eval x.2)) w (by rw [p1]; simp) (by
      have : (ps.map fun x => (x.1, a.eval x.2)).toList.map (·.2) = ps.toList.map fun x => a.eval x.2 := by simp
      rw [this]; exact p2)
    exact ⟨v', by simp only [execOp, Sem.run_bind, h3, Result.andThen_ok, Sem.run_pure], h4⟩
  case binOp op t x y yt =>
    obtain ⟨u, hu, h⟩ := Option.bind_eq_some_iff.1 h
    obtain ⟨v, hv, h⟩ := Option.bind_eq_some_iff.1 h
    obtain ⟨z, h1, h2⟩ := opBin_ok hE.fits h
    refine ⟨z, h1, fun ι a w ha => ?_⟩
    obtain ⟨v', h3, h4⟩ := h2 ι (a.eval x) (a.eval y) x y w (ar1 ha (by simp [Op.operands]) hu) (ar1 ha (by simp [Op.operands]) hv)
    refine ⟨v', ?_, h4⟩
    simp only [execOp]
    rw [Sem.run_bind, h3]
    rfl
  case unOp op t x =>
    obtain ⟨u, hu, h⟩ := Option.bind_eq_some_iff.1 h
    obtain ⟨z, h1, h2⟩ := opUn_ok (P := E.P) h
    refine ⟨z, h1, fun ι a w ha => ?_⟩
    obtain ⟨v', h3, h4⟩ := h2 ι (a.eval x) w (ar1 ha (by simp [Op.operands]) hu)
    exact ⟨v', by simp only [execOp, Sem.run_bind, h3, Result.andThen_ok, Sem.run_pure], h4⟩
  case makeFunc fn first captured =>
    obtain ⟨u, hu, h⟩ := Option.bind_eq_some_iff.1 h
    obtain ⟨v, hv, h⟩ := Option.bind_eq_some_iff.1 h
    obtain ⟨_, h⟩ := cond_some h
    refine ⟨_, h, fun ι a w ha => ?_⟩
    refine ⟨.func fn ⟨first.toList.map a.eval⟩ ⟨captured.toList.map a.eval⟩, ?_, .func _ _ _ _ _ (argsR hu ι a fun x hx => ha x (by simp only [Op.operands]; simp at hx ⊢; exact .inl hx)) (argsR hv ι a fun x hx => ha x (by simp only [Op.operands]; simp at hx ⊢; exact .inr hx))⟩
    have e1 : first.map a.eval = ⟨first.toList.map a.eval⟩ := by apply Array.ext'; simp
    have e2 : captured.map a.eval = ⟨captured.toList.map a.eval⟩ := by apply Array.ext'; simp
    simp [execOp, Instr.makeFunc, e1, e2]
  case slice t x lo hi mx =>
    obtain ⟨u, hu, h⟩ := Option.bind_eq_some_iff.1 h
    obtain ⟨z, h1, h2⟩ := opSlice_ok hE.fits h
    refine ⟨z, h1, fun ι a w ha => ?_⟩
    obtain ⟨v', h3, h4⟩ := h2 ι a (a.eval x) w (ar1 ha (by simp [Op.operands]) hu) (fun y hy => ha y (by simp [Op.operands, hy])) (fun y hy => ha y (by simp [Op.operands, hy])) (fun y hy => ha y (by simp [Op.operands, hy]))
    exact ⟨v', by simp only [execOp, Sem.run_bind, h3, Result.andThen_ok, Sem.run_pure], h4⟩
  case fieldAddr t x f =>
    obtain ⟨u, hu, h⟩ := Option.bind_eq_some_iff.1 h
    obtain ⟨z, h1, h2⟩ := opFieldAddr_ok hE.fits h
    refine ⟨z, h1, fun ι a w ha => ?_⟩
    obtain ⟨v', h3, h4⟩ := h2 ι (a.eval x) w (ar1 ha (by simp [Op.operands]) hu)
    exact ⟨v', by simp only [execOp, Sem.run_bind, h3, Result.andThen_ok, Sem.run_pure], h4⟩
  case field t x f =>
    obtain ⟨u, hu, h⟩ := Option.bind_eq_some_iff.1 h
    obtain ⟨z, h1, h2⟩ := opField_ok hE.fits h
    refine ⟨z, h1, fun ι a w ha => ?_⟩
    obtain ⟨v', h3, h4⟩ := h2 ι (a.eval x) w (ar1 ha (by simp [Op.operands]) hu)
    exact ⟨v', by simp only [execOp, Sem.run_bind, h3, Result.andThen_ok, Sem.run_pure], h4⟩
  case indexAddr t x y =>
    obtain ⟨u, hu, h⟩ := Option.bind_eq_some_iff.1 h
    obtain ⟨v, hv, h⟩ := Option.bind_eq_some_iff.1 h
    obtain ⟨z, h1, h2⟩ := opIndexAddr_ok hE.fits h
    refine ⟨z, h1, fun ι a w ha => ?_⟩
    obtain ⟨v', h3, h4⟩ := h2 ι (a.eval x) (a.eval y) w (ar1 ha (by simp [Op.operands]) hu) (ar1 ha (by simp [Op.operands]) hv)
    exact ⟨v', by simp only [execOp, Sem.run_bind, h3, Result.andThen_ok, Sem.run_pure], h4⟩
  case index t x y =>
    obtain ⟨u, hu, h⟩ := Option.bind_eq_some_iff.1 h
    obtain ⟨v, hv, h⟩ := Option.bind_eq_some_iff.1 h
    obtain ⟨z, h1, h2⟩ := opIndex_ok hE.fits h
    refine ⟨z, h1, fun ι a w ha => ?_⟩
    obtain ⟨v', h3, h4⟩ := h2 ι (a.eval x) (a.eval y) w (ar1 ha (by simp [Op.operands]) hu) (ar1 ha (by simp [Op.operands]) hv)
    exact ⟨v', by simp only [execOp, Sem.run_bind, h3, Result.andThen_ok, Sem.run_pure], h4⟩
  case extract x n =>
    obtain ⟨u, hu, h⟩ := Option.bind_eq_some_iff.1 h
    cases u <;> (try simp only [] at h) <;> first | (cases h; done) | skip
    rename_i vs
    obtain ⟨v, hv, h⟩ := Option.bind_eq_some_iff.1 h
    refine ⟨v, h, fun ι a w ha => ?_⟩
    have e1 := ar1 ha (by simp [Op.operands]) hu
    generalize hg : a.eval x = cc at e1
    cases e1 with | tuple c c' hc => ?_
    obtain ⟨v', h3, h4⟩ := hc.get hv
    have : (⟨c'⟩ : Array Value)[n]? = some v' := by simpa using h3
    exact ⟨v', by simp [execOp, hg, Instr.extract, this], h4⟩
  case call c =>
    obtain ⟨callee, args', ats⟩ := c
    cases callee with
    | value f => simp [rank] at hr
    | invoke r m => cases h
    | builtin b =>
      have h' : (args fr args'.toList).bind (fun vs => opBuiltin E.T b ats.toList vs H k) = some r := h
      obtain ⟨vs, hv, h1⟩ := Option.bind_eq_some_iff.1 h'
      cases b <;> (first | (simp [rank] at hr; done) | (cases h1; done) | skip)
      case max =>
        have h1' : opMinMax true vs (fun v => k v H) = some r := h1
        obtain ⟨v, h2, h3⟩ := minmax_ok (P := E.P) h1'
        refine ⟨v, h2, fun ι a w ha => ?_⟩
        obtain ⟨v', h4, h5⟩ := h3 ι (args'.toList.map a.eval) ats type w (argsR hv ι a fun x hx => ha x (by simp [Op.operands, Call.operands]; simpa using hx))
        have e1 : args'.map a.eval = ⟨args'.toList.map a.eval⟩ := by apply Array.ext'; simp
        simp only [if_true] at h4
        refine ⟨v', ?_, h5⟩
        simp [execOp, resolve, invoke, builtin, e1, h4]
      case min =>
        have h1' : opMinMax false vs (fun v => k v H) = some r := h1
        obtain ⟨v, h2, h3⟩ := minmax_ok (P := E.P) h1'
        refine ⟨v, h2, fun ι a w ha => ?_⟩
        obtain ⟨v', h4, h5⟩ := h3 ι (args'.toList.map a.eval) ats type w (argsR hv ι a fun x hx => ha x (by simp [Op.operands, Call.operands]; simpa using hx))
        have e1 : args'.map a.eval = ⟨args'.toList.map a.eval⟩ := by apply Array.ext'; simp
        simp only [Bool.false_eq_true, if_false] at h4
        refine ⟨v', ?_, h5⟩
        simp [execOp, resolve, invoke, builtin, e1, h4]
theorem aggr {P : Program} {T : Ty} (hT : Fits P T) {t : TypeId} {i : TI} (hg : T.get t = some i) (w : World) : (isAgg t).run P w = .ok (isAggT T t) w := by
  cases hh : isAggT T t with
  | true => exact isAggT_ok hT hh w
  | false => exact isAggT_no hT hg hh w
theorem bytes_ok {P : Program} {ι : Emb} : ∀ {cs : List Value} {s0 s : ByteArray} {cs' : List Value}, cs.foldl (fun (acc : Option ByteArray) c => acc.bind fun s => match c with | .int k n => (match k with | .u8 => some (s.push (UInt8.ofNat n.toNat)) | _ => none) | _ => none) (some s0) = some s → VRs ι cs cs' →
    ∀ w, (forIn cs' s0 (fun c s => (match c with | .int .u8 n => (do pure (ForInStep.yield (s.push (UInt8.ofNat n.toNat)))) | _ => (do (stuck "bytesToString: byte expected" : Sem Unit); pure (ForInStep.yield s)) : Sem (ForInStep ByteArray)))).run P w = .ok s w := by
  intro cs
  induction cs with
  | nil => intro s0 s cs' h hv w; cases hv; simp at h; subst h; simp
  | cons c cs ih =>
    intro s0 s cs' h hv w
    cases hv with | cons _ c' _ cs' hc hv => ?_
    have hnone : ∀ (l : List Value), l.foldl (fun (acc : Option ByteArray) c => acc.bind fun s => match c with | .int k n => (match k with | .u8 => some (s.push (UInt8.ofNat n.toNat)) | _ => none) | _ => none) none = none := by
      intro l; induction l with
      | nil => rfl
      | cons x l ih => simpa using ih
    simp only [List.foldl_cons, Option.bind_some] at h
    cases c <;> (try simp only [] at h) <;> first | (rw [hnone] at h; cases h; done) | skip
    rename_i k n
    cases k <;> (try simp only [] at h) <;> first | (rw [hnone] at h; cases h; done) | skip
    cases hc
    simp only [List.forIn_cons, Sem.run_bind, Sem.run_pure, Result.andThen_ok]
    exact ih h hv w
theorem read_ok (hE : EnvOk E) (h : evOp E orc o fr H k = some r) (hr : rank o.op = 1) (hm : isMake o.op = false) : ∃ v, k v H = some r ∧ Reads E o fr H v := by
  obtain ⟨dst, op, type, pos, after, guard⟩ := o
  unfold evOp at h
  cases op <;> simp only [] at h hr <;> (first | (cases h; done) | (simp [rank] at hr; done) | skip)
  case alloc => cases hm
  case box => cases hm
  case buildSlice => cases hm
  case makeSlice => cases hm
  case makeMap => cases hm
  case load t x =>
    obtain ⟨u, hu, h⟩ := Option.bind_eq_some_iff.1 h
    obtain ⟨ad, hq, h0⟩ := asPtr_ok h
    clear h; subst hq; have h := h0; clear h0
    cases hg : isAggT E.T t with
    | true =>
      rw [hg, cond_true] at h
      obtain ⟨i, hi, h, hsz⟩ := sizeT_ok hE.fits h
      obtain ⟨c, hc, hle, h, hl⟩ := loadN_ok h
      obtain ⟨h, _⟩ := destrL_ok h
      refine ⟨_, h, fun B ι H2 a w hH ha hb => ?_⟩
      have e1 := ar1 ha (by simp [Op.operands]) hu
      generalize hg' : a.eval x = cc at e1
      cases e1 with | ptr b o' j hj => ?_
      obtain ⟨l', l1, l2, l3⟩ := hl (P := E.P) B ι H2 w j hH hj (hb b (by simp [readAt, hu]))
      refine ⟨.agg ⟨l'⟩, ?_, .agg _ _ l1⟩
      simp only [execOp, Instr.loadAt, hg', Instr.sureAddr, loadVar, Sem.run_bind, Sem.run_pure, Result.andThen_ok, isAggT_ok hE.fits hg, if_true, hsz, l3]
    | false =>
      rw [hg, cond_false] at h
      obtain ⟨c, v, hc, hv, h, hl⟩ := load1_ok h
      obtain ⟨h, _⟩ := destr_ok h
      obtain ⟨hgt, h⟩ := cond_some h
      refine ⟨v, h, fun B ι H2 a w hH ha hb => ?_⟩
      have e1 := ar1 ha (by simp [Op.operands]) hu
      generalize hg' : a.eval x = cc at e1
      cases e1 with | ptr b o' j hj => ?_
      obtain ⟨v', l1, l3⟩ := hl (P := E.P) B ι H2 w j hH hj (hb b (by simp [readAt, hu]))
      obtain ⟨i, hi⟩ : ∃ i, E.T.get t = some i := by cases hq : E.T.get t <;> simp_all
      refine ⟨v', ?_, l1⟩
      simp only [execOp, Instr.loadAt, hg', Instr.sureAddr, loadVar, Sem.run_bind, Sem.run_pure, Result.andThen_ok, isAggT_no hE.fits hi hg, Bool.false_eq_true, if_false, l3]
  case convert s d x =>
    obtain ⟨u, hu, h⟩ := Option.bind_eq_some_iff.1 h
    unfold opConvert at h
    cases hd : E.T.und d with
    | none => rw [hd] at h; cases h
    | some dd =>
      rw [hd] at h
      have hud := hE.fits.und hd
      have srcT : ∀ {b : Bool} {x : Res}, cond (E.T.get s).isSome x none = some r → ∃ ds, E.P.underlying s = some ds := by
        intro b x hx
        obtain ⟨hx, _⟩ := cond_some hx
        cases hq : E.T.get s with
        | none => rw [hq] at hx; simp at hx
        | some i => exact ⟨_, (hE.fits.get hq).und⟩
      cases dd <;> (try simp only [] at h) <;> first | (cases h; done) | skip
      case int kd =>
        cases u <;> (try simp only [] at h) <;> first | (cases h; done) | skip
        rename_i k0 n
        obtain ⟨ds, hus⟩ := srcT (b := true) h
        obtain ⟨_, h⟩ := cond_some h
        refine ⟨_, h, fun B ι H2 a w hH ha hb => ?_⟩
        have e1 := ar1 ha (by simp [Op.operands]) hu
        generalize hg' : a.eval x = cc at e1
        cases e1
        refine ⟨_, ?_, .int _ _⟩
        simp only [execOp, convert, hg', Sem.run_bind, run_underlying hus, run_underlying hud, Result.andThen_ok, Conv.intToInt, Sem.run_pure]
      case string =>
        cases u <;> (try simp only [] at h) <;> first | (cases h; done) | skip
        case string sv =>
          obtain ⟨ds, hus⟩ := srcT (b := true) h
          obtain ⟨_, h⟩ := cond_some h
          refine ⟨_, h, fun B ι H2 a w hH ha hb => ?_⟩
          have e1 := ar1 ha (by simp [Op.operands]) hu
          generalize hg' : a.eval x = cc at e1
          cases e1
          refine ⟨_, ?_, .string _⟩
          simp only [execOp, convert, hg', Sem.run_bind, run_underlying hus, run_underlying hud, Result.andThen_ok, Sem.run_pure]
        case slice oa l cap =>
          obtain ⟨hby, h⟩ := cond_some h
          have hby' : ∃ e, E.P.underlying s = some (.slice e) ∧ E.P.underlying e = some (.int .u8) := by
            unfold isBytes at hby
            cases hs : E.T.und s with
            | none => rw [hs] at hby; cases hby
            | some ds =>
              rw [hs] at hby
              cases ds <;> (try simp only [] at hby) <;> first | (cases hby; done) | skip
              rename_i e
              cases he : E.T.und e with
              | none => rw [he] at hby; cases hby
              | some de =>
                rw [he] at hby
                cases de <;> (try simp only [] at hby) <;> first | (cases hby; done) | skip
                rename_i kk
                cases kk <;> (try simp only [] at hby) <;> first | (cases hby; done) | skip
                exact ⟨e, hE.fits.und hs, hE.fits.und he⟩
          obtain ⟨e, hus, hue⟩ := hby'
          have hrun : ∀ (a : Act) (w : World) (cc : Value), a.eval x = cc → (match cc with | .slice _ _ _ => true | _ => false) = true → (execOp a.eval { dst, op := .convert s d x, type, pos, after, guard }).run E.P w = ((Conv.bytesToString cc).run E.P w).andThen fun v w => .ok (.value v) w := by
            intro a w cc hcc hsl
            cases cc <;> simp at hsl
            simp only [execOp, convert, hcc, Sem.run_bind, run_underlying hus, run_underlying hud, Result.andThen_ok, run_underlying hue, Sem.run_pure]
          cases oa with
          | none =>
            simp only [] at h
            refine ⟨_, h, fun B ι H2 a w hH ha hb => ?_⟩
            have e1 := ar1 ha (by simp [Op.operands]) hu
            generalize hg' : a.eval x = cc at e1
            cases e1
            refine ⟨_, ?_, .string _⟩
            rw [hrun a w _ hg' rfl]
            simp [Conv.bytesToString]
          | some ad =>
            simp only [] at h
            cases hl0 : Nat.beq l 0 with
            | true =>
              rw [hl0, cond_true] at h
              have hgood := h
              have hl0 := Nat.eq_of_beq_eq_true hl0
              subst hl0
              refine ⟨_, hgood, fun B ι H2 a w hH ha hb => ?_⟩
              have e1 := ar1 ha (by simp [Op.operands]) hu
              generalize hg' : a.eval x = cc at e1
              have hs0 : ∃ a' k', cc = .slice (some a') 0 k' := by cases e1 <;> exact ⟨_, _, rfl⟩
              obtain ⟨a', k', rfl⟩ := hs0
              refine ⟨_, ?_, .string _⟩
              rw [hrun a w _ hg' rfl]
              simp [Conv.bytesToString, loadCells, loadCellsFrom]
            | false =>
              rw [hl0, cond_false] at h
              obtain ⟨c, hc, hle, h, hl⟩ := loadN_ok h
              obtain ⟨sv, hsv, h⟩ := Option.bind_eq_some_iff.1 h
              refine ⟨_, h, fun B ι H2 a w hH ha hb => ?_⟩
              have e1 := ar1 ha (by simp [Op.operands]) hu
              generalize hg' : a.eval x = cc at e1
              have hs0 : ∃ j k', cc = .slice (some ⟨j.blk, j.sh + ad.off, none⟩) l k' ∧ ι ad.block = some j := by
                cases e1
                · exact ⟨_, _, rfl, by assumption⟩
                · exact ⟨_, _, rfl, by assumption⟩
                · cases hl0
              obtain ⟨j, k', rfl, hj⟩ := hs0
              obtain ⟨l', l1, l2, l3⟩ := hl (P := E.P) B ι H2 w j hH hj (hb _ (by simp [readAt, hu, hl0]))
              have hf := bytes_ok (P := E.P) hsv l1 w
              refine ⟨_, ?_, .string sv⟩
              rw [hrun a w _ hg' rfl]
              simp only [Conv.bytesToString, Sem.run_bind, l3, Result.andThen_ok]
              rw [← Array.forIn_toList]
              have : ∀ (x : Result ByteArray), x = .ok sv w → ((x.andThen fun a w' => Sem.run E.P (pure (Value.string a)) w').andThen fun v w => Result.ok (Next.value v) w) = .ok (.value (.string sv)) w := by rintro x rfl; rfl
              exact this _ hf
  case call c =>
    obtain ⟨callee, args', ats⟩ := c
    cases callee with
    | value f => simp [rank] at hr
    | invoke r m => cases h
    | builtin b =>
      have h' : (args fr args'.toList).bind (fun vs => opBuiltin E.T b ats.toList vs H k) = some r := h
      obtain ⟨vs, hv, h1⟩ := Option.bind_eq_some_iff.1 h'
      cases b <;> (first | (simp [rank] at hr; done) | (cases h1; done) | skip)
      have h1' : opLen E.T ats.toList vs H (fun v => k v H) = some r := h1
      unfold opLen at h1'
      cases hts : ats.toList with
      | nil => rw [hts] at h1'; cases h1'
      | cons t ts =>
        rw [hts] at h1'
        cases vs with
        | nil => cases h1'
        | cons x xs =>
          simp only [] at h1'
          have hat : ats[0]? = some t := by rw [← Array.getElem?_toList, hts]; rfl
          have hlen : ∀ (a : Act) (w : World) (x' : Value) (xs' : List Value), args'.toList.map a.eval = x' :: xs' → (execOp a.eval { dst, op := .call { callee := .builtin .len, args := args', argTypes := ats }, type, pos, after, guard }).run E.P w = ((Builtin.len_ ats type ⟨x' :: xs'⟩).run E.P w).andThen fun v w => .ok (.value v) w := by
            intro a w x' xs' he
            have e1 : args'.map a.eval = ⟨x' :: xs'⟩ := by apply Array.ext'; simpa using he
            simp [execOp, resolve, invoke, builtin, e1]
          cases hd : E.T.und t with
          | none => rw [hd] at h1'; cases h1'
          | some d =>
            rw [hd] at h1'
            have hud := hE.fits.und hd
            cases d <;> (try simp only [] at h1') <;> first | (cases h1'; done) | skip
            case string =>
              cases x <;> (try simp only [] at h1') <;> first | (cases h1'; done) | skip
              refine ⟨_, h1', fun B ι H2 a w hH ha hb => ?_⟩
              have hrs := argsR hv ι a fun x hx => ha x (by simp [Op.operands, Call.operands]; simpa using hx)
              generalize hg : args'.toList.map a.eval = L at hrs
              cases hrs with | cons _ x' _ xs' e1 e2 => ?_
              cases e1
              refine ⟨_, ?_, .int _ _⟩
              rw [hlen a w _ _ hg]
              simp [Builtin.len_, hat, run_underlying hud, goInt]
            case slice e =>
              cases x <;> (try simp only [] at h1') <;> first | (cases h1'; done) | skip
              rename_i oa n cp
              refine ⟨_, h1', fun B ι H2 a w hH ha hb => ?_⟩
              have hrs := argsR hv ι a fun x hx => ha x (by simp [Op.operands, Call.operands]; simpa using hx)
              generalize hg : args'.toList.map a.eval = L at hrs
              cases hrs with | cons _ x' _ xs' e1 e2 => ?_
              have hx' : ∃ a' c', x' = .slice a' n c' := by cases e1 <;> exact ⟨_, _, rfl⟩
              obtain ⟨a', c', rfl⟩ := hx'
              refine ⟨_, ?_, .int _ _⟩
              rw [hlen a w _ _ hg]
              simp [Builtin.len_, hat, run_underlying hud, goInt]
            case array n e =>
              refine ⟨_, h1', fun B ι H2 a w hH ha hb => ?_⟩
              have hrs := argsR hv ι a fun x hx => ha x (by simp [Op.operands, Call.operands]; simpa using hx)
              generalize hg : args'.toList.map a.eval = L at hrs
              cases hrs with | cons _ x' _ xs' e1 e2 => ?_
              refine ⟨_, ?_, .int _ _⟩
              rw [hlen a w _ _ hg]
              simp [Builtin.len_, hat, run_underlying hud, goInt]
theorem read_lt (h : evOp E orc o fr H k = some r) (hr : rank o.op = 1) (hm : isMake o.op = false) {c : Nat} (hc : readAt o fr H = some c) : c < H.len := by
  obtain ⟨dst, op, type, pos, after, guard⟩ := o
  unfold evOp at h
  have lt : ∀ {x : Blk}, H.bs[c]? = some x → c < H.len := fun hx => (List.getElem?_eq_some_iff.1 hx).1
  cases op <;> simp only [] at h hr <;> (first | (cases h; done) | (simp [rank] at hr; done) | (cases hm; done) | skip)
  case load t x =>
    obtain ⟨u, hu, h⟩ := Option.bind_eq_some_iff.1 h
    obtain ⟨ad, hq, h0⟩ := asPtr_ok h
    clear h; subst hq
    simp [readAt, hu] at hc
    subst hc
    cases hg : isAggT E.T t with
    | true =>
      rw [hg, cond_true] at h0
      obtain ⟨i, hi, h1⟩ := Option.bind_eq_some_iff.1 h0
      obtain ⟨c, hc, _⟩ := loadN_ok h1
      exact lt hc
    | false =>
      rw [hg, cond_false] at h0
      obtain ⟨c, v, hc, _⟩ := load1_ok h0
      exact lt hc
  case convert s d x =>
    obtain ⟨u, hu, h⟩ := Option.bind_eq_some_iff.1 h
    cases u with
    | slice oa l cap =>
      cases oa with
      | none => simp [readAt, hu] at hc
      | some ad =>
        cases hl0 : Nat.beq l 0 with
        | true => simp [readAt, hu, hl0] at hc
        | false =>
          simp [readAt, hu, hl0] at hc
          subst hc
          unfold opConvert at h
          cases hd : E.T.und d with
          | none => rw [hd] at h; cases h
          | some dd =>
            rw [hd] at h
            cases dd <;> (try simp only [] at h) <;> first | (cases h; done) | skip
            obtain ⟨_, h⟩ := cond_some h
            rw [hl0, cond_false] at h
            obtain ⟨c, hc, _⟩ := loadN_ok h
            exact lt hc
    | _ => simp [readAt, hu] at hc
  case call c =>
    simp [readAt] at hc
@[simp] theorem zeros_zero (z : List Value) : zeros z 0 = [] := rfl
theorem zeros_spec (z : List Value) (hz : 0 < z.length) : ∀ n, (Array.range (n * z.length)).map ((⟨z⟩ : Array Value)[· % z.length]!) = ⟨zeros z n⟩ := by
  intro n
  apply Array.ext'
  simp only [Array.toList_map, Array.toList_range]
  induction n with
  | zero => simp
  | succ n ih =>
    have e : (n + 1) * z.length = z.length + n * z.length := by rw [Nat.add_mul]; omega
    rw [e, List.range_add, List.map_append, List.map_map]
    show _ = z ++ zeros z n
    congr 1
    · apply List.ext_getElem
      · simp
      · intro i h1 h2
        simp at h1
        simp [Nat.mod_eq_of_lt h1, h1]
    · rw [← ih]
      apply List.map_congr_left
      intro i _
      simp
theorem zeroCells_spec (z : List Value) (hz : 0 < z.length) (n : Nat) : Builtin.zeroCells ⟨z⟩ n = ⟨zeros z n⟩ := by
  rw [← zeros_spec z hz n]; rfl
theorem zeros_rel {ι : Emb} {z : List Value} (h : VRs ι z z) : ∀ n, VRs ι (zeros z n) (zeros z n) := by
  intro n
  induction n with
  | zero => exact .nil
  | succ n ih => exact h.append ih
theorem zeros_len (z : List Value) : ∀ n, (zeros z n).length = n * z.length := by
  intro n
  induction n with
  | zero => simp
  | succ n ih => show (z ++ zeros z n).length = _; simp [ih, Nat.add_mul]; omega
theorem makes_cells {o : Oper} {c : List Value} {mk : Nat → Value}
    (h : ∀ ι a w, ARs ι fr a o → ∃ c' e v', (execOp a.eval o).run E.P w = .ok (.value v') { w with heap := w.heap.push (.cells ⟨c'⟩ e) } ∧ VRs ι c c' ∧ ∀ b, VR (ι.set b ⟨w.heap.size, 0, 0⟩) (mk b) v') : Makes E o fr (.cells c) mk := by
  intro ι a w ha
  obtain ⟨c', e, v', h1, h2, h3⟩ := h ι a w ha
  exact ⟨_, v', h1, fun b hb => ⟨⟨[], c', [], e, (0, 0), by simp, rfl, h2.mono (Emb.set_le hb), fun _ => ⟨rfl, rfl⟩⟩, h3 b⟩⟩
theorem make_ok (hE : EnvOk E) (h : evOp E orc o fr H k = some r) (hm : isMake o.op = true) : ∃ x mk, k (mk H.len) (H.push x) = some r ∧ Makes E o fr x mk := by
  obtain ⟨dst, op, type, pos, after, guard⟩ := o
  unfold evOp at h
  have slv : ∀ (ι : Emb) (b g n m : Nat), VR (ι.set b ⟨g, 0, 0⟩) (.slice (some ⟨b, 0, none⟩) n m) (.slice (some ⟨g, 0, none⟩) n m) := fun ι b g n m => by
    have := VR.slice (ι := ι.set b ⟨g, 0, 0⟩) b 0 n m ⟨g, 0, 0⟩ (Emb.set_same _ _ _)
    simpa using this
  have ptv : ∀ (ι : Emb) (b g : Nat), VR (ι.set b ⟨g, 0, 0⟩) (.pointer (some ⟨b, 0, none⟩)) (.pointer (some ⟨g, 0, none⟩)) := fun ι b g => by
    have := VR.ptr (ι := ι.set b ⟨g, 0, 0⟩) b 0 ⟨g, 0, 0⟩ (Emb.set_same _ _ _)
    simpa using this
  cases op <;> simp only [] at h hm <;> (first | (cases h; done) | (cases hm; done) | skip)
  case alloc e =>
    obtain ⟨i, z, hg, h, hz, zp, zs, zc, zl, zr, zrs, zt, zag, zno⟩ := zeroOf_ok hE.fits h
    refine ⟨.cells i.zero, fun b => .pointer (some ⟨b, 0, none⟩), h, makes_cells fun ι a w ha => ⟨i.zero, e, _, ?_, zrs ι, fun b => ptv ι b w.heap.size⟩⟩
    have zt' : z.cells = ⟨i.zero⟩ := by apply Array.ext'; exact zt
    simp [execOp, Instr.alloc, hz, newVar, newRow, zt']
  case box e x =>
    obtain ⟨u, hu, h⟩ := Option.bind_eq_some_iff.1 h
    obtain ⟨hs, h⟩ := cond_some h
    refine ⟨.cells (cellsOf u), fun b => .pointer (some ⟨b, 0, none⟩), h, makes_cells fun ι a w ha => ⟨(a.eval x).cells.toList, e, _, ?_, cells_of (ar1 ha (by simp [Op.operands]) hu), fun b => ptv ι b w.heap.size⟩⟩
    simp [execOp, Instr.box, newVar, newRow]
  case buildSlice t n ps =>
    obtain ⟨vs, hv, h⟩ := Option.bind_eq_some_iff.1 h
    unfold opBuildSlice at h
    cases hd : E.T.und t with
    | none => rw [hd] at h; cases h
    | some d =>
      rw [hd] at h
      have hud := hE.fits.und hd
      cases d <;> (try simp only [] at h) <;> first | (cases h; done) | skip
      rename_i e
      obtain ⟨j, hj, h, hsz⟩ := sizeT_ok hE.fits h
      obtain ⟨hc, h⟩ := cond_some h
      simp only [Bool.and_eq_true, decide_eq_true_eq] at hc
      obtain ⟨i, z, hg, h, hz, zp, zs, zc, zl, zr, zrs, zt, zag, zno⟩ := zeroOf_ok hE.fits h
      obtain ⟨hzl, h⟩ := cond_some h
      have hzl := of_decide_eq_true hzl
      obtain ⟨c, hcf, h⟩ := Option.bind_eq_some_iff.1 h
      refine ⟨.cells c, fun b => .slice (some ⟨b, 0, none⟩) n n, h, makes_cells fun ι a w ha => ?_⟩
      obtain ⟨p1, p2⟩ := parts_some hv ι a (fun x hx => ha x.2 (by simp only [Op.operands]; simp; exact ⟨x.1, by simpa using hx⟩))
      obtain ⟨c', f1, f2⟩ := fillL_ok hcf ι (zeros i.zero n) (ps.map fun x => (x.1, a.eval x.2)).toList (zeros_rel (zrs ι) n) (by rw [p1]; simp) (by
        have : (ps.map fun x => (x.1, a.eval x.2)).toList.map (·.2) = ps.toList.map fun x => a.eval x.2 := by simp
        rw [this]; exact p2)
      refine ⟨c', e, _, ?_, f2, fun b => slv ι b w.heap.size n n⟩
      have zt' : z.cells = ⟨i.zero⟩ := by apply Array.ext'; exact zt
      have hle : ¬ n * j.size > 2 ^ 24 := by omega
      have hzs := zeros_spec i.zero (by omega) n
      rw [hzl] at hzs
      simp only [execOp, Instr.buildSlice, Sem.run_bind, run_underlying hud, Result.andThen_ok, hsz, if_neg hle, Sem.run_pure, pure_bind]
      by_cases hn0 : n * j.size = 0
      · have hn : n = 0 := by rcases Nat.mul_eq_zero.1 hn0 with h | h <;> omega
        subst hn
        have : ((Array.range (0 * j.size)).map (fun x => (#[] : Array Value)[x % (#[] : Array Value).size]!)) = (⟨zeros i.zero 0⟩ : Array Value) := by simp
        simp only [if_pos hn0, Sem.run_pure, Result.andThen_ok, this, f1, newRow, Sem.run_bind, run_newObj]
      · simp only [if_neg hn0, Sem.run_bind, hz, Result.andThen_ok, Sem.run_pure, zt', newRow, run_newObj]
        have e1 : ((Array.range (n * j.size)).map (fun x => (⟨i.zero⟩ : Array Value)[x % (⟨i.zero⟩ : Array Value).size]!)) = ⟨zeros i.zero n⟩ := by
          have : (⟨i.zero⟩ : Array Value).size = j.size := by simpa using hzl
          rw [this]; exact hzs
        simp only [e1, f1, Sem.run_bind, run_newObj, Result.andThen_ok, Sem.run_pure]
  case makeSlice t l c =>
    obtain ⟨u, hu, h⟩ := Option.bind_eq_some_iff.1 h
    obtain ⟨v, hv, h⟩ := Option.bind_eq_some_iff.1 h
    unfold opMakeSlice at h
    cases hd : E.T.und t with
    | none => rw [hd] at h; cases h
    | some d =>
      rw [hd] at h
      have hud := hE.fits.und hd
      cases d <;> (try simp only [] at h) <;> first | (cases h; done) | skip
      rename_i e
      obtain ⟨k1, n1, hq, h0⟩ := asI_ok h
      clear h; subst hq
      obtain ⟨k2, n2, hq, h⟩ := asI_ok h0
      clear h0; subst hq
      obtain ⟨i, hi, h⟩ := Option.bind_eq_some_iff.1 h
      obtain ⟨hc, h⟩ := cond_some h
      simp only [Bool.and_eq_true, decide_eq_true_eq] at hc
      obtain ⟨⟨⟨c1, c2⟩, c3⟩, c4⟩ := hc
      obtain ⟨i', z, hg, h, hz, zp, zs, zc, zl, zr, zrs, zt, zag, zno⟩ := zeroOf_ok hE.fits h
      rw [hi] at hg
      simp at hg
      subst hg
      obtain ⟨hz2, h⟩ := cond_some h
      simp only [Bool.and_eq_true, decide_eq_true_eq] at hz2
      obtain ⟨inf, z', q1, q2, q3, q4, _⟩ := (hE.fits.get hi).info
      refine ⟨.cells (zeros i.zero n2.toNat), fun b => .slice (some ⟨b, 0, none⟩) n1.toNat n2.toNat, h, makes_cells fun ι a w ha => ?_⟩
      have e1 := ar1 ha (by simp [Op.operands]) hu
      have e2 := ar1 ha (by simp [Op.operands]) hv
      generalize hg1 : a.eval l = x1 at e1
      generalize hg2 : a.eval c = x2 at e2
      cases e1; cases e2
      refine ⟨zeros i.zero n2.toNat, e, _, ?_, zeros_rel (zrs ι) _, fun b => slv ι b w.heap.size _ _⟩
      have w1 : IntKind.i64.wrap n1 = n1 := by simp [IntKind.wrap, IntKind.signed, IntKind.bits] at *; omega
      have w2 : IntKind.i64.wrap n2 = n2 := by simp [IntKind.wrap, IntKind.signed, IntKind.bits] at *; omega
      have hb : ¬ (n2 < 0 ∨ (inf.bytes : Int) * n2 > 2 ^ 48) := by
        rw [q3]; intro hh; rcases hh with hh | hh <;> omega
      have zt' : z.cells = ⟨i.zero⟩ := by apply Array.ext'; exact zt
      have hzs := zeros_spec i.zero (by omega) n2.toNat
      have hlen0 : i.zero.length = inf.size := by omega
      simp only [execOp, Instr.makeSlice, Sem.run_bind, run_underlying hud, Result.andThen_ok, hg1, hg2, asInt, asIntOf, Sem.run_pure, run_typeInfo q1, w1, w2]
      have hcond : ((decide (n2 < 0) || decide ((inf.bytes : Int) * n2 > 2 ^ 48)) || decide (n1 < 0) || decide (n1 > n2)) = false := by
        simp only [Bool.or_eq_false_iff, decide_eq_false_iff_not]
        refine ⟨⟨⟨fun h => hb (.inl h), fun h => hb (.inr h)⟩, by omega⟩, by omega⟩
      rw [if_neg (by rw [hcond]; simp)]
      simp only [Sem.run_bind, Sem.run_pure, run_askRoom, Result.andThen_ok, run_sizeOf q1]
      by_cases hn0 : n2.toNat * inf.size = 0
      · have hn : n2.toNat = 0 := by rcases Nat.mul_eq_zero.1 hn0 with h | h <;> omega
        simp only [hn, Nat.zero_mul, if_true, Sem.run_pure, Result.andThen_ok, newRow, Sem.run_bind, run_newObj, zeros_zero, show Array.range 0 = #[] from by simp [← Array.toList_inj]]
        simp
      · simp only [if_neg hn0, Sem.run_bind, hz, Result.andThen_ok, Sem.run_pure, zt', newRow, run_newObj]
        have e1 : ((Array.range (n2.toNat * inf.size)).map (fun x => (⟨i.zero⟩ : Array Value)[x % (⟨i.zero⟩ : Array Value).size]!)) = ⟨zeros i.zero n2.toNat⟩ := by
          have e2 : (⟨i.zero⟩ : Array Value).size = i.zero.length := rfl
          rw [e2, ← hlen0]; exact hzs
        simp only [e1, run_newObj, Result.andThen_ok, Sem.run_pure]
  case makeMap t rs =>
    cases rs with
    | some x => cases h
    | none =>
      refine ⟨.map [], fun b => .map (some b), h, fun ι a w ha => ⟨.map #[] 0, _, by simp [execOp, Instr.makeMap]; rfl, fun b hb => ⟨⟨#[], 0, by simp, MRp.nil _, .nil⟩, ?_⟩⟩⟩
      exact VR.map (ι := ι.set b ⟨w.heap.size, 0, 0⟩) b ⟨w.heap.size, 0, 0⟩ (Emb.set_same _ _ _)
end
end Go.Proofs.Yteljeekapcenlaa.Ev
