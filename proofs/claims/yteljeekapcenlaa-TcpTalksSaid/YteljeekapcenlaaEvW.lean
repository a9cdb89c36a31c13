/-
  Ev, part W: answers told by their types; operations that are told so. No conditions.
-/
import Derived.Test.YteljeekapcenlaaEvTf
namespace Go.Proofs.Yteljeekapcenlaa.Ev
open Go Go.RowKit
theorem bnd_ok {α β : Type} {x : Option α} {f : α → Option β} {r : β} (h : bnd x f = some r) : ∃ a, x = some a ∧ f a = some r := by
  cases x with
  | none => exact absurd (show none = some r from h) (by simp)
  | some a => exact ⟨a, rfl, h⟩
theorem bnd_some {α β : Type} (a : α) (f : α → Option β) : bnd (some a) f = f a := rfl
theorem Kd.norm_ok {k : Kd} {v : Value} (h : k.ok v = true) : k.norm v = v := by
  cases k <;> simp only [Kd.ok] at h <;> first | rfl | skip
  case int k =>
    cases v <;> simp only [] at h <;> first | (cases h; done) | skip
    rw [← of_decide_eq_true h]; rfl
  all_goals cases v <;> simp only [] at h <;> first | (cases h; done) | rfl
theorem okL_cons {k : Kd} {ks : List Kd} {vs : List Value} (h : okL (k :: ks) vs = true) : ∃ v l, vs = v :: l ∧ k.ok v = true ∧ okL ks l = true := by
  cases vs with
  | nil => exact absurd (show false = true from h) (by simp)
  | cons v l =>
    have h : cond (k.ok v) (okL ks l) false = true := h
    cases hk : k.ok v with
    | true => rw [hk] at h; exact ⟨v, l, rfl, hk, h⟩
    | false => rw [hk] at h; cases h
theorem nthD_drop {l l' : List Value} {i : Nat} {v : Value} (h : l.drop i = v :: l') : nthD l i = v ∧ l.drop (i + 1) = l' := by
  have h1 : l[i]? = some v := by
    have : (l.drop i)[0]? = some v := by rw [h]; rfl
    rwa [List.getElem?_drop, Nat.add_zero] at this
  refine ⟨by unfold nthD; rw [getL_eq, h1], ?_⟩
  have : (l.drop i).drop 1 = l' := by rw [h]; rfl
  rwa [List.drop_drop] at this
theorem normL_ok {v : Value} : ∀ {ks : List Kd} {i : Nat}, okL ks ((cellsA v).drop i) = true → normL v ks i = (cellsA v).drop i := by
  intro ks
  induction ks with
  | nil =>
    intro i h
    cases hd : (cellsA v).drop i with
    | nil => rfl
    | cons x l => rw [hd] at h; exact absurd (show false = true from h) (by simp)
  | cons k ks ih =>
    intro i h
    obtain ⟨x, l, h1, h2, h3⟩ := okL_cons h
    obtain ⟨h4, h5⟩ := nthD_drop h1
    show k.norm (cA v i) :: normL v ks (i + 1) = _
    rw [ih (by rw [h5]; exact h3), h5, h1]
    unfold cA
    rw [h4, Kd.norm_ok h2]
theorem nrmI_ok {i : TI} {v : Value} (h : okI i v = true) : nrmI i v = v := by
  unfold okI at h
  unfold nrmI
  cases ha : i.agg with
  | true =>
    rw [ha, cond_true] at h
    cases v <;> simp only [] at h <;> first | (cases h; done) | skip
    rename_i cs
    rw [cond_true, normL_ok (by simpa [cellsA] using h)]
    simp [cellsA]
  | false =>
    rw [ha, cond_false] at h
    rw [cond_false, Kd.norm_ok h]
theorem nrmV_ok {T : Ty} {t : TypeId} {v : Value} (h : okV T t v = true) : nrmV T t v = v := by
  unfold okV at h
  unfold nrmV
  cases hg : T.get t with
  | none => rfl
  | some i => rw [hg] at h; exact nrmI_ok h
theorem okTs_cons {T : Ty} {t : TypeId} {ts : List TypeId} {vs : List Value} (h : okTs T (t :: ts) vs = true) : ∃ v l, vs = v :: l ∧ okV T t v = true ∧ okTs T ts l = true := by
  cases vs with
  | nil => exact absurd (show false = true from h) (by simp)
  | cons v l =>
    have h : cond (okV T t v) (okTs T ts l) false = true := h
    cases hk : okV T t v with
    | true => rw [hk] at h; exact ⟨v, l, rfl, hk, h⟩
    | false => rw [hk] at h; cases h
theorem nrmTs_ok {T : Ty} {v : Value} : ∀ {ts : List TypeId} {i : Nat}, okTs T ts ((tupL v).drop i) = true → nrmTs T v ts i = (tupL v).drop i := by
  intro ts
  induction ts with
  | nil =>
    intro i h
    cases hd : (tupL v).drop i with
    | nil => rfl
    | cons x l => rw [hd] at h; exact absurd (show false = true from h) (by simp)
  | cons k ks ih =>
    intro i h
    obtain ⟨x, l, h1, h2, h3⟩ := okTs_cons h
    obtain ⟨h4, h5⟩ := nthD_drop h1
    show nrmV T k (tA v i) :: nrmTs T v ks (i + 1) = _
    rw [ih (by rw [h5]; exact h3), h5, h1]
    unfold tA
    rw [h4, nrmV_ok h2]
theorem nrmR_ok {E : Env} {t : TypeId} {v : Value} (h : okR E t v = true) : nrmR E t v = v := by
  unfold okR at h
  unfold nrmR
  cases hg : E.T.get t with
  | some i => rw [hg] at h; exact nrmI_ok h
  | none =>
  rw [hg] at h
  simp only [] at h ⊢
  cases ht : tupT E.P t with
  | none => rfl
  | some ts =>
    rw [ht] at h
    cases v <;> simp only [] at h <;> first | (cases h; done) | skip
    rename_i cs
    simp only []
    rw [nrmTs_ok (by simpa [tupL] using h)]
    simp [tupL]
theorem fit_ok {E : Env} {t : TypeId} {x : Res} {r : Value × AH} (h : fit E t x = some r) : x = some r ∧ nrmR E t r.1 = r.1 := by
  unfold fit at h
  obtain ⟨q, h1, h2⟩ := Option.bind_eq_some_iff.1 h
  obtain ⟨h3, h4⟩ := cond_some h2
  simp at h4; subst h4
  exact ⟨h1, nrmR_ok h3⟩
theorem fitV_ok {E : Env} {t : TypeId} {x : Res} {v : Value} (h : fitV E t x = some v) : ∃ H, x = some (v, H) ∧ nrmR E t v = v := by
  unfold fitV at h
  obtain ⟨q, h1, h2⟩ := Option.bind_eq_some_iff.1 h
  obtain ⟨h3, h4⟩ := cond_some h2
  simp at h4; subst h4
  exact ⟨q.2, h1, nrmR_ok h3⟩
theorem sureT_ok {op : Op} {fr : Frame} {run : Frame → Res} {r : Value × AH} (h : sureT op fr run = some r) : run fr = some r := by
  unfold sureT at h
  cases ha : addrOp op with
  | none => rw [ha] at h; exact h
  | some x =>
    rw [ha] at h
    cases x <;> simp only [] at h <;> first | exact h | skip
    rename_i d
    cases hg : getF fr d with
    | none => rw [hg] at h; exact h
    | some v =>
      rw [hg] at h
      cases v <;> simp only [] at h <;> first | exact h | skip
      · obtain ⟨a, e, h⟩ := bnd_ok h
        rw [← e, setF_self hg] at h; exact h
      · obtain ⟨a, e, h⟩ := bnd_ok h
        rw [← e, setF_self hg] at h; exact h
theorem sureK_ok {pol : Pol} {op : Op} {fr : Frame} {run : Frame → Res} {r : Value × AH} (h : sureK pol op fr run = some r) : run fr = some r := by
  unfold sureK at h
  cases hn : pol.nrm with
  | true => rw [hn, cond_true] at h; exact sureT_ok h
  | false => rw [hn, cond_false] at h; exact h
section
variable {E : Env} {orc : Orc} {o : Oper} {fr : Frame} {H : AH} {k : K} {r : Value × AH}
theorem optA_ok {x : Option Operand} {kk : Option Value → Res} (h : optA fr x kk = some r) : ∃ v, kk v = some r ∧ ((x = none ∧ v = none) ∨ ∃ y u, x = some y ∧ v = some u ∧ arg fr y = some u ∧ plain u = true) := by
  cases x with
  | none => exact ⟨none, h, .inl ⟨rfl, rfl⟩⟩
  | some x =>
    obtain ⟨v, h1, h2⟩ := Option.bind_eq_some_iff.1 (show (arg fr x).bind (fun v => cond (plain v) (kk (some v)) none) = some r from h)
    obtain ⟨h3, h4⟩ := cond_some h2
    exact ⟨some v, h4, .inr ⟨x, v, rfl, rfl, h1, h3⟩⟩
theorem boundK_const {x : Option Operand} {v : Option Value} (h : (x = none ∧ v = none) ∨ ∃ y u, x = some y ∧ v = some u ∧ arg fr y = some u ∧ plain u = true) (d m : Nat) : boundK [] (cOp v) d m = boundK fr x d m := by
  rcases h with ⟨rfl, rfl⟩ | ⟨y, u, rfl, rfl, h1, h2⟩
  · rfl
  · funext kk
    have e : arg [] (.const u) = some u := by simp only [arg, h2, cond_true]
    simp only [cOp, boundK, e, h1]
theorem cOp_isNone {x : Option Operand} {v : Option Value} (h : (x = none ∧ v = none) ∨ ∃ y u, x = some y ∧ v = some u ∧ arg fr y = some u ∧ plain u = true) : (x = none ∧ cOp v = none) ∨ ∃ y z, x = some y ∧ cOp v = some z := by
  rcases h with ⟨rfl, rfl⟩ | ⟨y, u, rfl, rfl, h1, h2⟩
  · exact .inl ⟨rfl, rfl⟩
  · exact .inr ⟨_, _, rfl, rfl⟩
theorem opSlice_const {T : Ty} {t : TypeId} {x : Value} {lo hi mx : Option Operand} {l h m : Option Value}
    (hl : (lo = none ∧ l = none) ∨ ∃ y u, lo = some y ∧ l = some u ∧ arg fr y = some u ∧ plain u = true)
    (hh : (hi = none ∧ h = none) ∨ ∃ y u, hi = some y ∧ h = some u ∧ arg fr y = some u ∧ plain u = true)
    (hm : (mx = none ∧ m = none) ∨ ∃ y u, mx = some y ∧ m = some u ∧ arg fr y = some u ∧ plain u = true) (kk : Value → Res) :
    opSlice T [] t x (cOp l) (cOp h) (cOp m) kk = opSlice T fr t x lo hi mx kk := by
  have bl := boundK_const hl
  have bh := boundK_const hh
  have bm := boundK_const hm
  have key : ∀ len cap kk, boundsK [] len cap (cOp l) (cOp h) (cOp m) kk = boundsK fr len cap lo hi mx kk := by
    intro len cap kk
    unfold boundsK
    rw [bm]
    rcases cOp_isNone hh with ⟨e1, e2⟩ | ⟨y, z, e1, e2⟩ <;> rcases cOp_isNone hm with ⟨e3, e4⟩ | ⟨y', z', e3, e4⟩ <;>
      (rw [e2] at bh; rw [e1] at bh; simp only [e1, e2, e3, e4, bl, bh])
  have key0 : ∀ len cap kk, boundsK [] len cap (cOp l) (cOp h) none kk = boundsK fr len cap lo hi none kk := by
    intro len cap kk
    unfold boundsK
    have b0 : ∀ d m, boundK [] none d m = boundK fr none d m := fun _ _ => rfl
    rw [b0]
    rcases cOp_isNone hh with ⟨e1, e2⟩ | ⟨y, z, e1, e2⟩ <;>
      (rw [e2] at bh; rw [e1] at bh; simp only [e1, e2, bl, bh])
  unfold opSlice
  rcases hm with ⟨rfl, rfl⟩ | ⟨y, u, rfl, rfl, h1, h2⟩
  · simp only [cOp] at key ⊢
    simp only [sliceHead, key]
  · simp only [cOp] at key ⊢
    simp only [sliceHead, key]
theorem evOpT_ok (hmap : isMapOp o.op = false) (h : evOpT E orc o fr H k = some r) : evOp E orc o fr H k = some r ∨ ∃ v H', evOp E orc o fr H pureK = some (v, H') ∧ k v H' = some r ∧ (rank o.op < 2 → H' = H) := by
  obtain ⟨dst, op, type, pos, after, guard⟩ := o
  unfold evOpT at h
  cases op <;> simp only [] at h <;> first | exact .inl h | (cases hmap; done) | skip
  case load t x =>
    obtain ⟨a, h1, h2⟩ := Option.bind_eq_some_iff.1 h
    obtain ⟨ad, rfl, h3⟩ := asPtr_ok h2
    obtain ⟨v, h4, h5⟩ := bnd_ok h3
    obtain ⟨H', h6, h7⟩ := fitV_ok h4
    rw [h7] at h5
    have hH : H' = H := by
      unfold ldP at h6
      cases ha : isAggT E.T t with
      | true =>
        rw [ha, cond_true] at h6
        unfold sizeT at h6
        obtain ⟨i, _, h6⟩ := Option.bind_eq_some_iff.1 h6
        obtain ⟨c, _, _, h8, _⟩ := loadN_ok h6
        have h9 := (destrL_ok h8).1
        simp [pureK] at h9; exact h9.2.symm
      | false =>
        rw [ha, cond_false] at h6
        obtain ⟨c, u, _, _, h8, _⟩ := load1_ok h6
        have h9 := (cond_some (destr_ok h8).1).2
        simp [pureK] at h9; exact h9.2.symm
    subst hH
    refine .inr ⟨v, H', ?_, h5, fun _ => rfl⟩
    show oLoad E.T fr H' pureK t x = _
    unfold oLoad
    rw [h1]
    exact h6
  case store t x y =>
    obtain ⟨a, h1, h2⟩ := Option.bind_eq_some_iff.1 h
    obtain ⟨v, h3, h4⟩ := Option.bind_eq_some_iff.1 h2
    obtain ⟨ad, rfl, h5⟩ := asPtr_ok h4
    obtain ⟨H', h6, h7⟩ := bnd_ok h5
    unfold stX at h6
    obtain ⟨q, h8, h9⟩ := Option.bind_eq_some_iff.1 h6
    simp at h9; subst h9
    have hq : q.1 = undef := by
      unfold sizeT at h8
      obtain ⟨i, _, h8⟩ := Option.bind_eq_some_iff.1 h8
      obtain ⟨_, h8⟩ := cond_some h8
      unfold storeN at h8
      obtain ⟨c, _, h8⟩ := Option.bind_eq_some_iff.1 h8
      obtain ⟨_, h8⟩ := cond_some h8
      obtain ⟨c2, _, h8⟩ := Option.bind_eq_some_iff.1 h8
      simp [pureK] at h8; rw [← h8]
    refine .inr ⟨undef, q.2, ?_, h7, fun hr => absurd hr (by simp [rank])⟩
    show oStore E.T fr H pureK t x y = _
    unfold oStore
    rw [h1, h3]
    simp only [Option.bind_some, asPtr]
    have e : (undef, q.2) = q := by rw [← hq]
    rw [e]
    exact h8
  case slice t x lo hi mx =>
    obtain ⟨a, h1, h2⟩ := Option.bind_eq_some_iff.1 h
    obtain ⟨l, h3, hl⟩ := optA_ok h2
    obtain ⟨hh, h4, hhh⟩ := optA_ok h3
    obtain ⟨m, h5, hm⟩ := optA_ok h4
    obtain ⟨v, h6, h7⟩ := bnd_ok h5
    obtain ⟨H', h8, h9⟩ := fitV_ok h6
    rw [opSlice_const hl hhh hm] at h8
    rw [h9] at h7
    refine .inl ?_
    show oSlice E.T fr H k t x lo hi mx = _
    unfold oSlice
    rw [h1]
    simp only [Option.bind_some]
    -- the same at every continuation
    have gen : ∀ (kk : Value → Res), opSlice E.T fr t a lo hi mx (fun v => pureK v ⟨[], 0, []⟩) = some (v, H') → kk v = some r → opSlice E.T fr t a lo hi mx kk = some r := by
      intro kk q1 q2
      have bK : ∀ (x : Option Operand) d m (k1 : Nat → Res) (r1 : Value × AH), boundK fr x d m k1 = some r1 → ∃ n, k1 n = some r1 ∧ ∀ k2 : Nat → Res, boundK fr x d m k2 = k2 n := by
        intro x d m k1 r1 hb
        cases x with
        | none => exact ⟨d, hb, fun _ => rfl⟩
        | some x =>
          simp only [boundK] at hb ⊢
          obtain ⟨v, hv, hb⟩ := Option.bind_eq_some_iff.1 hb
          obtain ⟨kd, n, rfl, hb⟩ := asI_ok hb
          obtain ⟨hc, hb⟩ := cond_some hb
          refine ⟨_, hb, fun k2 => ?_⟩
          rw [hv]
          simp only [Option.bind_some, asI, hc, cond_true]
      have bS : ∀ len cap (k1 : Nat → Nat → Nat → Res) (r1 : Value × AH) mx, boundsK fr len cap lo hi mx k1 = some r1 → ∃ l h m, k1 l h m = some r1 ∧ ∀ k2 : Nat → Nat → Nat → Res, boundsK fr len cap lo hi mx k2 = k2 l h m := by
        intro len cap k1 r1 mx hb
        unfold boundsK at hb ⊢
        obtain ⟨m, hb, e1⟩ := bK _ _ _ _ _ hb
        cases hi with
        | none =>
          cases mx with
          | none =>
            simp only [] at hb
            obtain ⟨l, hb, e2⟩ := bK _ _ _ _ _ hb
            exact ⟨l, _, m, hb, fun k2 => by rw [e1]; simp only [e2]⟩
          | some y => cases hb
        | some z =>
          cases mx with
          | none =>
            simp only [] at hb
            obtain ⟨hh, hb, e3⟩ := bK _ _ _ _ _ hb
            obtain ⟨l, hb, e2⟩ := bK _ _ _ _ _ hb
            exact ⟨l, hh, m, hb, fun k2 => by rw [e1]; simp only [e3, e2]⟩
          | some y =>
            simp only [] at hb
            obtain ⟨hh, hb, e3⟩ := bK _ _ _ _ _ hb
            obtain ⟨l, hb, e2⟩ := bK _ _ _ _ _ hb
            exact ⟨l, hh, m, hb, fun k2 => by rw [e1]; simp only [e3, e2]⟩
      unfold opSlice at q1 ⊢
      cases hd : E.T.und t with
      | none => rw [hd] at q1; cases q1
      | some d =>
        rw [hd] at q1
        cases d <;> simp only [] at q1 ⊢ <;> first | (cases q1; done) | skip
        case string =>
          cases a <;> simp only [] at q1 ⊢ <;> first | (cases q1; done) | skip
          cases mx with
          | some _ => cases q1
          | none =>
            simp only [] at q1 ⊢
            obtain ⟨l, h, m, q3, e⟩ := bS _ _ _ _ _ q1
            rw [e]
            simp [pureK] at q3; rw [q3.1]; exact q2
        case slice e0 =>
          cases a <;> simp only [] at q1 ⊢ <;> first | (cases q1; done) | skip
          rename_i oa len cap
          unfold sizeT at q1 ⊢
          obtain ⟨i, hi', q1⟩ := Option.bind_eq_some_iff.1 q1
          rw [hi']
          simp only [Option.bind_some]
          obtain ⟨hle, q1⟩ := cond_some q1
          rw [hle, cond_true]
          cases oa with
          | some ad =>
            simp only [] at q1 ⊢
            obtain ⟨l, h, m, q3, e⟩ := bS _ _ _ _ _ q1
            rw [e]
            simp [pureK] at q3; rw [q3.1]; exact q2
          | none =>
            simp only [] at q1 ⊢
            obtain ⟨hc, q1⟩ := cond_some q1
            rw [hc, cond_true]
            obtain ⟨l, h, m, q3, e⟩ := bS _ _ _ _ _ q1
            rw [e]
            simp [pureK] at q3; rw [q3.1]; exact q2
        case array n e0 =>
          obtain ⟨ad, rfl, q1⟩ := asPtr_ok q1
          simp only [asPtr]
          unfold sizeT at q1 ⊢
          obtain ⟨i, hi', q1⟩ := Option.bind_eq_some_iff.1 q1
          rw [hi']
          simp only [Option.bind_some]
          obtain ⟨l, h, m, q3, e⟩ := bS _ _ _ _ _ q1
          rw [e]
          simp [pureK] at q3; rw [q3.1]; exact q2
    exact gen (fun v => k v H) h8 h7
  case convert s d x =>
    obtain ⟨a, h1, h2⟩ := Option.bind_eq_some_iff.1 h
    have rest : opConvert E.T s d a H k = some r → oConvert E.T fr H k s d x = some r := fun q => by unfold oConvert; rw [h1]; exact q
    cases a <;> simp only [] at h2 <;> first | exact .inl (rest h2) | skip
    rename_i oa l c
    obtain ⟨v, h4, h5⟩ := bnd_ok h2
    obtain ⟨H', h6, h7⟩ := fitV_ok h4
    rw [h7] at h5
    refine .inr ⟨v, H, ?_, h5, fun _ => rfl⟩
    show oConvert E.T fr H pureK s d x = _
    unfold oConvert
    rw [h1]
    simp only [Option.bind_some]
    have hH : H' = H := by
      unfold opConvert at h6
      cases hd : E.T.und d with
      | none => rw [hd] at h6; cases h6
      | some dd =>
        rw [hd] at h6
        cases dd <;> simp only [] at h6 <;> first | (cases h6; done) | skip
        obtain ⟨_, h6⟩ := cond_some h6
        cases oa with
        | none => simp [pureK] at h6; exact h6.2.symm
        | some ad =>
          simp only [] at h6
          cases hb : Nat.beq l 0 with
          | true => rw [hb, cond_true] at h6; simp [pureK] at h6; exact h6.2.symm
          | false =>
            rw [hb, cond_false] at h6
            obtain ⟨c, _, _, h8, _⟩ := loadN_ok h6
            obtain ⟨s, _, h8⟩ := Option.bind_eq_some_iff.1 h8
            simp [pureK] at h8; exact h8.2.symm
    rw [hH] at h6
    exact h6
  case call c =>
    obtain ⟨callee, args', ats⟩ := c
    unfold oCallN at h
    cases callee with
    | invoke a b => cases h
    | builtin b =>
      obtain ⟨vs, h1, h2⟩ := Option.bind_eq_some_iff.1 h
      have rest : opBuiltin E.T b ats.toList vs H k = some r → evOp E orc ⟨dst, .call ⟨.builtin b, args', ats⟩, type, pos, after, guard⟩ fr H k = some r := fun q => by
        show (args fr args'.toList).bind (fun vs => opBuiltin E.T b ats.toList vs H k) = _
        have h1' : args fr args'.toList = some vs := h1
        rw [h1']; exact q
      cases b <;> simp only [] at h2 <;> first | exact .inl (rest h2) | skip
      case clear =>
        obtain ⟨q, h3, h4⟩ := bnd_ok h2
        refine .inr ⟨q.1, q.2, ?_, h4, fun hr => absurd hr (by simp [rank])⟩
        show (args fr args'.toList).bind (fun vs => opBuiltin E.T .clear ats.toList vs H pureK) = _
        have h1' : args fr args'.toList = some vs := h1
        rw [h1']; exact h3
      obtain ⟨q, h3, h4⟩ := bnd_ok h2
      obtain ⟨h5, h6⟩ := fit_ok h3
      rw [h6] at h4
      refine .inr ⟨q.1, q.2, ?_, h4, fun hr => absurd hr (by simp [rank])⟩
      show (args fr args'.toList).bind (fun vs => opBuiltin E.T .append ats.toList vs H pureK) = _
      have h1' : args fr args'.toList = some vs := h1
      rw [h1']; exact h5
    | value f =>
      obtain ⟨fv, h1, h2⟩ := Option.bind_eq_some_iff.1 h
      obtain ⟨vs, h3, h4⟩ := Option.bind_eq_some_iff.1 h2
      cases fv <;> simp only [] at h4 <;> first | (cases h4; done) | skip
      rename_i fn first captured
      cases fn <;> simp only [] at h4 <;> first | (cases h4; done) | skip
      rename_i g
      have key : ∀ (q : Value × AH), callF E orc g (first.toList ++ vs ++ captured.toList) H pureK = some q → evOp E orc ⟨dst, .call ⟨.value f, args', ats⟩, type, pos, after, guard⟩ fr H pureK = some q := fun q e => by
        show (arg fr f).bind (fun f => (args fr args'.toList).bind fun vs => match f with | .func fn first captured => (match fn with | .func g => callF E orc g (first.toList ++ vs ++ captured.toList) H pureK | _ => none) | _ => none) = _
        have h3' : args fr args'.toList = some vs := h3
        rw [h1, h3']; exact e
      have keyV : (E.pol.mode g = 2 ∨ E.pol.mode g = 1) → bnd (callV E orc type g (first.toList ++ vs ++ captured.toList) H) (fun v => k (nrmR E type v) H) = some r →
          ∃ v H', evOp E orc ⟨dst, .call ⟨.value f, args', ats⟩, type, pos, after, guard⟩ fr H pureK = some (v, H') ∧ k v H' = some r ∧ (rank (.call ⟨.value f, args', ats⟩) < 2 → H' = H) := by
        intro hmode h4
        obtain ⟨v, h5, h6⟩ := bnd_ok h4
        obtain ⟨H', h7, h8⟩ := fitV_ok h5
        rw [h8] at h6
        have hH : H' = H := by
          unfold callF at h7
          obtain ⟨fnc, _, h7⟩ := Option.bind_eq_some_iff.1 h7
          obtain ⟨_, h7⟩ := cond_some h7
          rcases hmode with e | e
          · rw [e] at h7
            obtain ⟨_, h7⟩ := cond_some h7
            obtain ⟨p, _, h7⟩ := Option.bind_eq_some_iff.1 h7
            have := (destrRes_ok h7).1
            simp [pureK] at this; exact this.2.symm
          · rw [e] at h7
            obtain ⟨_, h7⟩ := cond_some h7
            obtain ⟨p, _, h7⟩ := Option.bind_eq_some_iff.1 h7
            have := (destrRes_ok h7).1
            simp [pureK] at this; exact this.2.symm
        subst hH
        exact ⟨v, H', key _ h7, h6, fun _ => rfl⟩
      split at h4
      · rename_i e; exact .inr (keyV (.inl e) h4)
      · rename_i e; exact .inr (keyV (.inr e) h4)
      · obtain ⟨q, h5, h6⟩ := bnd_ok h4
        obtain ⟨h7, h8⟩ := fit_ok h5
        rw [h8] at h6
        exact .inr ⟨q.1, q.2, key _ h7, h6, fun hr => absurd hr (by simp [rank])⟩
theorem evOpN_ok (hdp : E.pol.deep = false) (hmap : isMapOp o.op = false) (h : evOpN E orc o fr H k = some r) : evOp E orc o fr H k = some r ∨ ∃ v H', evOp E orc o fr H pureK = some (v, H') ∧ k v H' = some r ∧ (rank o.op < 2 → H' = H) := by
  unfold evOpN at h
  rw [hdp, cond_false] at h
  cases hn : E.pol.nrm with
  | true => rw [hn, cond_true] at h; exact evOpT_ok hmap h
  | false =>
    rw [hn, cond_false] at h
    left
    obtain ⟨dst, op, type, pos, after, guard⟩ := o
    unfold evOpC at h
    cases op <;> simp only [] at h <;> first | exact h | (cases hmap; done)
theorem evOpN_map (hmap : isMapOp o.op = true) (h : evOpN E orc o fr H k = some r) : evOpC E orc o fr H k = some r := by
  unfold evOpN at h
  cases hdp : E.pol.deep with
  | true =>
    rw [hdp, cond_true] at h
    refine evOpD_else ?_ h
    obtain ⟨dst, op, type, pos, after, guard⟩ := o
    cases op <;> first | rfl | (cases hmap; done)
  | false =>
  rw [hdp, cond_false] at h
  cases hn : E.pol.nrm with
  | true =>
    rw [hn, cond_true] at h
    obtain ⟨dst, op, type, pos, after, guard⟩ := o
    unfold evOpT at h
    unfold evOpC
    cases op <;> first | (cases hmap; done) | exact h
  | false => rw [hn, cond_false] at h; exact h
theorem map_op_ok (hE : EnvOk E) (hm : isMapOp o.op = true) (h : evOpN E orc o fr H k = some r) : ∃ v H', k v H' = some r ∧ Grow H H' ∧ Sim E o fr H v H' := by
  replace h := evOpN_map hm h
  obtain ⟨dst, op, type, pos, after, guard⟩ := o
  unfold evOpC at h
  have upd : ∀ (t : TypeId) (m i x : Operand), (∀ (a : Act), (execOp a.eval ⟨dst, op, type, pos, after, guard⟩) = (do Instr.mapUpdate t (a.eval m) (a.eval i) (a.eval x); pure .skip)) → op.operands = #[m, i, x] →
      oUpdateN E fr H k t m i x = some r → ∃ v H', k v H' = some r ∧ Grow H H' ∧ Sim E ⟨dst, op, type, pos, after, guard⟩ fr H v H' := by
    intro t m i x hex hop h
    obtain ⟨mv, h1, h⟩ := Option.bind_eq_some_iff.1 h
    obtain ⟨iv, h2, h⟩ := Option.bind_eq_some_iff.1 h
    obtain ⟨xv, h3, h⟩ := Option.bind_eq_some_iff.1 h
    have key : ∃ H', (opUpdate E.T t mv iv xv H fun H => some (undef, H)) = some (undef, H') ∧ k undef H' = some r := by
      cases hl : E.pol.lit t with
      | true =>
        rw [hl, cond_true] at h
        obtain ⟨H', q1, q2⟩ := opUpdate_any h
        exact ⟨H', q2 _, q1⟩
      | false =>
        rw [hl, cond_false] at h
        obtain ⟨H', q1, q2⟩ := bnd_ok h
        unfold muX at q1
        obtain ⟨q, q3, q4⟩ := Option.bind_eq_some_iff.1 q1
        simp at q4; subst q4
        obtain ⟨H', q5, q6⟩ := opUpdate_any q3
        simp [pureK] at q5; subst q5
        exact ⟨_, q6 _, q2⟩
    obtain ⟨H', q1, q2⟩ := key
    obtain ⟨H2, e, g1, g2⟩ := opUpdate_ok hE.fits q1
    simp at e; subst e
    refine ⟨undef, H2, q2, g1, fun B ι a w hH ha next Q hn => ?_⟩
    have o1 : ∀ y ∈ #[m, i, x], AR ι fr a y := fun y hy => ha y (by rw [hop]; exact hy)
    obtain ⟨w', r1, r2, r3⟩ := g2 B ι w (a.eval m) (a.eval i) (a.eval x) hH (o1 m (by simp) _ h1) (o1 i (by simp) _ h2) (o1 x (by simp) _ h3)
    refine wp_skip' (w' := w') ?_ (hn ι undef w' (Ext.refl _ _) r2 (undefR ι) r3)
    rw [hex a]
    simp [r1]
  cases op <;> simp only [] at h <;> first | (cases hm; done) | skip
  case lookup t x i ok =>
    obtain ⟨xv, h1, h⟩ := Option.bind_eq_some_iff.1 h
    obtain ⟨iv, h2, h⟩ := Option.bind_eq_some_iff.1 h
    have key : ∃ v, (opLookup E.T t xv iv ok H fun v => some (v, H)) = some (v, H) ∧ k v H = some r := by
      cases hl : E.pol.lit t with
      | true =>
        rw [hl, cond_true] at h
        obtain ⟨v, q1, q2⟩ := opLookup_any h
        exact ⟨v, q2 _, q1⟩
      | false =>
        rw [hl, cond_false] at h
        obtain ⟨v, q1, q2⟩ := bnd_ok h
        obtain ⟨H', q3, q4⟩ := fitV_ok q1
        rw [q4] at q2
        obtain ⟨v', q5, q6⟩ := opLookup_any q3
        simp [pureK] at q5
        obtain ⟨rfl, rfl⟩ := q5
        exact ⟨v', q6 _, q2⟩
    obtain ⟨v, q1, q2⟩ := key
    obtain ⟨v', e, g⟩ := opLookup_ok hE.fits q1
    simp at e; subst e
    refine ⟨v', H, q2, Grow.refl _, fun B ι a w hH ha next Q hn => ?_⟩
    obtain ⟨u, r1, r2⟩ := g B ι w (a.eval x) (a.eval i) hH (ha x (by simp [Op.operands]) _ h1) (ha i (by simp [Op.operands]) _ h2)
    exact wp_value (w' := w) (by simp [execOp, r1]) (hn ι u w (Ext.refl _ _) hH r2 (Below.refl _ _))
  case insert t m i x => exact upd t m i x (fun _ => rfl) rfl h
  case mapUpdate t m i x => exact upd t m i x (fun _ => rfl) rfl h
theorem evOpN_deep (hdp : E.pol.deep = true) (h : evOpN E orc o fr H k = some r) : evOpD E orc o fr H k = some r := by
  unfold evOpN at h; rw [hdp, cond_true] at h; exact h
theorem op_okD (hE : EnvOk E) (hO : OrcOk E orc) (hm0 : isMapOp o.op = false) (h : evOpD E orc o fr H k = some r) : ∃ v H', k v H' = some r ∧ Grow H H' ∧ Sim E o fr H v H' := by
  by_cases h0 : rank o.op = 0
  · obtain ⟨v, h1, h2⟩ := pure_okD hE h h0 hm0
    exact ⟨v, H, h1, Grow.refl _, h2.reads.sim⟩
  by_cases hm : isMake o.op = true
  · obtain ⟨x, mk, h1, h2⟩ := make_okD hE h hm
    exact ⟨_, _, h1, Grow.push _ _, h2.sim⟩
  by_cases h1 : rank o.op = 1
  · obtain ⟨v, h1, h2, _⟩ := read_okD hE h h1 (by simpa using hm)
    exact ⟨v, H, h1, Grow.refl _, h2.sim⟩
  cases hd : isDeepOp o.op with
  | false => exact op_ok hE hO (evOpC_else hm0 (evOpD_else hd h))
  | true =>
    obtain ⟨dst, op, type, pos, after, guard⟩ := o
    unfold evOpD at h
    cases op <;> simp only [] at h h0 h1 hm <;> (first | (cases hd; done) | (exact absurd rfl h0) | (exact absurd rfl h1) | (exact absurd rfl hm) | skip)
    case store t x y =>
      obtain ⟨u, hu, h⟩ := Option.bind_eq_some_iff.1 h
      obtain ⟨v, hv, h⟩ := Option.bind_eq_some_iff.1 h
      exact storeD_ok hE hu hv h
    case call c =>
      obtain ⟨callee, args', ats⟩ := c
      cases callee with
      | builtin b =>
        obtain ⟨vs, hv, h⟩ := Option.bind_eq_some_iff.1 h
        cases b <;> (first | (exact absurd rfl h0) | (exact absurd rfl h1) | (exact op_ok hE hO (builtin_back (orc := orc) (dst := dst) (type := type) (pos := pos) (after := after) (guard := guard) hv h)) | skip)
        -- append
        obtain ⟨v, H', g1, g2, g3⟩ := appendD_ok hE.fits (ats := ats) (show appendD E.T ats.toList vs H k = some r from h)
        refine ⟨v, H', g1, g2, fun B ι a w hH ha next Q hn => ?_⟩
        obtain ⟨ι', v', w', x1, x2, x3, x4, x5⟩ := g3 B ι w (args'.toList.map a.eval) type hH (argsR hv ι a fun x hx => ha x (by simp [Op.operands, Call.operands]; simpa using hx))
        have ea : args'.map a.eval = ⟨args'.toList.map a.eval⟩ := by apply Array.ext'; simp
        refine wp_value (v' := v') (w' := w') ?_ (hn ι' v' w' x2 x3 x4 x5)
        simp only [execOp, resolve, Sem.run_bind, Sem.run_pure, Result.andThen_ok, invoke, ea, builtin, x1]
      | value f => exact callD_ok hE hO h
      | invoke a b => cases h
theorem op_okN (hE : EnvOk E) (hO : OrcOk E orc) (h : evOpN E orc o fr H k = some r) : ∃ v H', k v H' = some r ∧ Grow H H' ∧ Sim E o fr H v H' := by
  by_cases hm : isMapOp o.op = true
  · exact map_op_ok hE hm h
  have hm0 : isMapOp o.op = false := by simpa using hm
  cases hdp : E.pol.deep with
  | true => exact op_okD hE hO hm0 (evOpN_deep hdp h)
  | false =>
  rcases evOpN_ok hdp hm0 h with h | ⟨v, H', h1, h2, _⟩
  · exact op_ok hE hO h
  · obtain ⟨u, H2, q1, q2, q3⟩ := op_ok hE hO h1
    simp only [pureK, Option.some.injEq, Prod.mk.injEq] at q1
    obtain ⟨rfl, rfl⟩ := q1
    exact ⟨u, H2, h2, q2, q3⟩
theorem pure_okN (hE : EnvOk E) (h : evOpN E orc o fr H k = some r) (hr : rank o.op = 0) : ∃ v, k v H = some r ∧ Pures E o fr v := by
  have hm0 : isMapOp o.op = false := by cases hq : isMapOp o.op with | false => rfl | true => have := (map_rank hq).1; omega
  cases hdp : E.pol.deep with
  | true => exact pure_okD hE (evOpN_deep hdp h) hr hm0
  | false =>
  rcases evOpN_ok hdp hm0 h with h | ⟨v, H', h1, h2, _⟩
  · exact pure_ok hE h hr
  · obtain ⟨u, q1, q2⟩ := pure_ok hE h1 hr
    simp only [pureK, Option.some.injEq, Prod.mk.injEq] at q1
    obtain ⟨rfl, rfl⟩ := q1
    exact ⟨u, h2, q2⟩
theorem read_okN (hE : EnvOk E) (h : evOpN E orc o fr H k = some r) (hr : rank o.op = 1) (hm : isMake o.op = false) : ∃ v, k v H = some r ∧ Reads E o fr H v := by
  have hm0 : isMapOp o.op = false := by cases hq : isMapOp o.op with | false => rfl | true => have := (map_rank hq).1; omega
  cases hdp : E.pol.deep with
  | true => obtain ⟨v, h1, h2, _⟩ := read_okD hE (evOpN_deep hdp h) hr hm; exact ⟨v, h1, h2⟩
  | false =>
  rcases evOpN_ok hdp hm0 h with h | ⟨v, H', h1, h2, _⟩
  · exact read_ok hE h hr hm
  · obtain ⟨u, q1, q2⟩ := read_ok hE h1 hr hm
    simp only [pureK, Option.some.injEq, Prod.mk.injEq] at q1
    obtain ⟨rfl, rfl⟩ := q1
    exact ⟨u, h2, q2⟩
theorem read_ltN (hE : EnvOk E) (h : evOpN E orc o fr H k = some r) (hr : rank o.op = 1) (hm : isMake o.op = false) {c : Nat} (hc : readAt o fr H = some c) : c < H.len := by
  have hm0 : isMapOp o.op = false := by cases hq : isMapOp o.op with | false => rfl | true => have := (map_rank hq).1; omega
  cases hdp : E.pol.deep with
  | true => obtain ⟨v, h1, h2, h3⟩ := read_okD hE (evOpN_deep hdp h) hr hm; exact h3 c hc
  | false =>
  rcases evOpN_ok hdp hm0 h with h | ⟨v, H', h1, h2, _⟩
  · exact read_lt h hr hm hc
  · exact read_lt h1 hr hm hc
theorem make_okN (hE : EnvOk E) (h : evOpN E orc o fr H k = some r) (hm : isMake o.op = true) : ∃ x mk, k (mk H.len) (H.push x) = some r ∧ Makes E o fr x mk := by
  have hm0 : isMapOp o.op = false := by cases hq : isMapOp o.op with | false => rfl | true => rw [(map_rank hq).2.1] at hm; cases hm
  cases hdp : E.pol.deep with
  | true => exact make_okD hE (evOpN_deep hdp h) hm
  | false =>
  rcases evOpN_ok hdp hm0 h with h | ⟨v, H', h1, h2, _⟩
  · exact make_ok hE h hm
  · obtain ⟨x, mk, q1, q2⟩ := make_ok hE h1 hm
    simp only [pureK, Option.some.injEq, Prod.mk.injEq] at q1
    obtain ⟨e1, rfl⟩ := q1
    exact ⟨x, mk, by rw [e1]; exact h2, q2⟩
theorem quiet_okN (hE : EnvOk E) (hO : OrcOk E orc) (h : evOpN E orc o fr H k = some r) (hq : quietCall E.pol o.op = true) : ∃ v, k v H = some r ∧ Quiet E o fr v := by
  have hm0 : isMapOp o.op = false := by cases hq' : isMapOp o.op with | false => rfl | true => rw [(map_rank hq').2.2] at hq; cases hq
  cases hdp : E.pol.deep with
  | true =>
    refine quiet_ok hE hO ?_ hq
    have h' := evOpN_deep hdp h
    clear h
    obtain ⟨dst, op, type, pos, after, guard⟩ := o
    unfold quietCall at hq
    cases op <;> simp only [] at hq <;> first | (cases hq; done) | skip
    rename_i c
    obtain ⟨callee, as_, ats⟩ := c
    cases callee <;> simp only [] at hq <;> first | (cases hq; done) | skip
    rename_i x
    cases x <;> simp only [] at hq <;> first | (cases hq; done) | skip
    rename_i g
    have hmode := Nat.eq_of_beq_eq_true hq
    have h1 : (args fr as_.toList).bind (fun vs => match E.pol.mode g with
        | 3 => callP E orc g ([] ++ vs ++ []) H fun v => k v H
        | 4 => callQ E orc g ([] ++ vs ++ []) H k
        | 5 => callQ E orc g ([] ++ vs ++ []) H k
        | 6 => callM E g ([] ++ vs ++ []) H k
        | _ => callF E orc g ([] ++ vs ++ []) H k) = some r := h'
    rw [hmode] at h1
    exact h1
  | false =>
  rcases evOpN_ok hdp hm0 h with h | ⟨v, H', h1, h2, _⟩
  · exact quiet_ok hE hO h hq
  · obtain ⟨u, q1, q2⟩ := quiet_ok hE hO h1 hq
    simp only [pureK, Option.some.injEq, Prod.mk.injEq] at q1
    obtain ⟨rfl, rfl⟩ := q1
    exact ⟨u, h2, q2⟩
end
end Go.Proofs.Yteljeekapcenlaa.Ev
