/-
  Ev, part E: the operations that touch no memory. No conditions.
-/
import Derived.Test.YteljeekapcenlaaEvD
namespace Go.Proofs.Yteljeekapcenlaa.Ev
open Go
theorem eqRows_same {ι : Emb} : ∀ {ks : List Kd} {xs ys : List Value} {b : Bool}, eqRows ks xs ys = some b → ∀ {xs' ys' : List Value}, VRs ι xs xs' → VRs ι ys ys' → xs' = xs ∧ ys' = ys := by
  intro ks
  induction ks with
  | nil => intro xs ys b h xs' ys' hx hy; cases hx <;> cases hy <;> simp [eqRows] at h ⊢
  | cons k ks ih =>
    intro xs ys b h xs' ys' hx hy
    cases hx with
    | nil => simp [eqRows] at h
    | cons x x' xs xs' hx hxs => cases hy with
      | nil => simp [eqRows] at h
      | cons y y' ys ys' hy hys =>
        simp only [eqRows] at h
        obtain ⟨a, ha, h⟩ := Option.bind_eq_some_iff.1 h
        obtain ⟨c, hc, h⟩ := Option.bind_eq_some_iff.1 h
        obtain ⟨rfl, rfl⟩ := ih hc hxs hys
        rcases cellEq_some ha with ⟨p, q, _, rfl, rfl, _⟩ | ⟨_, p, q, _, rfl, rfl, _⟩ | ⟨p, q, _, rfl, rfl, _⟩ <;> cases hx <;> cases hy <;> exact ⟨rfl, rfl⟩
section
variable {P : Program} {T : Ty} (hT : Fits P T)
include hT
theorem kinds_of {t : TypeId} {i : TI} (h : T.get t = some i) : kinds T t = kindsN P 8 t := by
  unfold kinds; rw [h]; exact (hT.get h).kd
theorem flatEq_of {t : TypeId} {n : Nat} (h : flatEq T t n = true) : ∃ i, T.get t = some i ∧ i.size = n ∧ flatEqN P 8 t = some n ∧ P.eqGuardType P.depth t = false ∧ kinds T t = kindsN P 8 t := by
  unfold flatEq at h
  cases hg : T.get t with
  | none => rw [hg] at h; simp at h
  | some i =>
    rw [hg] at h
    simp only [Bool.and_eq_true] at h
    have hi := hT.get hg
    have he := hi.eqs
    rw [h.1] at he
    have he := he.symm
    simp only [Bool.and_eq_true, decide_eq_true_eq, Bool.not_eq_true'] at he
    have hn := Nat.eq_of_beq_eq_true h.2
    refine ⟨i, rfl, hn, by rw [← hn]; exact he.1, he.2, kinds_of hT hg⟩
omit hT in
theorem run_equalIn_ptr {t e : TypeId} (hu : P.underlying t = some (.pointer e)) (d : Nat) (w : World) (a b : Option Addr) (h : (a.isNone || b.isNone) = true) :
    (Op.equalIn (d + 1) t (.pointer a) (.pointer b)).run P w = .ok (a.isNone && b.isNone) w := by
  cases a <;> cases b <;> simp at h <;> simp [Op.equalIn, run_underlying hu]
omit hT in
theorem run_equalIn_slice {t e : TypeId} (hu : P.underlying t = some (.slice e)) (d : Nat) (w : World) (a b : Option Addr) (l c l' c' : Nat) (h : (a.isNone || b.isNone) = true) :
    (Op.equalIn (d + 1) t (.slice a l c) (.slice b l' c')).run P w = .ok (a.isNone && b.isNone) w := by
  cases a <;> cases b <;> simp at h <;> simp [Op.equalIn, run_underlying hu]
omit hT in
theorem run_equalIn_map {t k e : TypeId} (hu : P.underlying t = some (.map k e)) (d : Nat) (w : World) (a b : Option Nat) (h : (a.isNone || b.isNone) = true) :
    (Op.equalIn (d + 1) t (.map a) (.map b)).run P w = .ok (a.isNone && b.isNone) w := by
  cases a <;> cases b <;> simp at h <;> simp [Op.equalIn, run_underlying hu]
theorem isAggT_agg {t : TypeId} {i : TI} (hg : T.get t = some i) (h : isAggT T t = true) : aggP P t = true := by
  unfold isAggT at h; rw [hg] at h; rw [← (hT.get hg).agg]; exact h
theorem eqV_ok {t : TypeId} {x y : Value} {c : Bool → Res} {r : Value × AH} (h : eqV T t x y c = some r) :
    ∃ b, c b = some r ∧ ∀ ι x' y' w, VR ι x x' → VR ι y y' → (Op.equal t x' y').run P w = .ok b w ∧ (∀ op ox oy, (eqGuard op t ox oy x' y').run P w = .ok () w) ∧
      (∀ op, binOp op t x' y' = (match op with | .eql => (do pure (.bool (← Op.equal t x' y'))) | .neq => (do pure (.bool (!(← Op.equal t x' y')))) | op => binOp op t x' y')) := by
  cases x <;> simp only [eqV] at h <;> first | (cases h; done) | skip
  all_goals cases y <;> simp only [] at h <;> first | (cases h; done) | skip
  case bool.bool a b =>
    obtain ⟨hc, h⟩ := cond_some h
    have hu : P.underlying t = some .bool := by
      cases hd : T.und t with
      | none => rw [hd] at hc; simp at hc
      | some d => rw [hT.und hd]; rw [hd] at hc; cases d <;> simp at hc ⊢
    refine ⟨_, h, fun ι x' y' w hx hy => ?_⟩
    cases hx; cases hy
    refine ⟨run_equalIn_bool' w 9999 t _ _ hu, fun op ox oy => by cases op <;> simp [eqGuard], fun op => by cases op <;> rfl⟩
  case pointer.pointer a b =>
    obtain ⟨hc, h⟩ := cond_some h
    simp only [Bool.and_eq_true] at hc
    obtain ⟨hc1, hc2⟩ := hc
    have hu : ∃ e, P.underlying t = some (.pointer e) := by
      cases hd : T.und t with
      | none => rw [hd] at hc1; simp at hc1
      | some d => rw [hT.und hd]; rw [hd] at hc1; cases d <;> simp at hc1 ⊢
    obtain ⟨e, hu⟩ := hu
    refine ⟨_, h, fun ι x' y' w hx hy => ?_⟩
    refine ⟨?_, fun op ox oy => by cases hx <;> cases hy <;> cases op <;> simp [eqGuard], fun op => by cases hx <;> cases hy <;> cases op <;> rfl⟩
    cases hx <;> cases hy <;> simp at hc2 <;> exact run_equalIn_ptr hu 9999 w _ _ rfl
  case slice.slice a l1 c1 b l2 c2 =>
    obtain ⟨hc, h⟩ := cond_some h
    simp only [Bool.and_eq_true] at hc
    obtain ⟨hc1, hc2⟩ := hc
    have hu : ∃ e, P.underlying t = some (.slice e) := by
      cases hd : T.und t with
      | none => rw [hd] at hc1; simp at hc1
      | some d => rw [hT.und hd]; rw [hd] at hc1; cases d <;> simp at hc1 ⊢
    obtain ⟨e, hu⟩ := hu
    refine ⟨_, h, fun ι x' y' w hx hy => ?_⟩
    refine ⟨?_, fun op ox oy => by cases hx <;> cases hy <;> cases op <;> simp [eqGuard], fun op => by cases hx <;> cases hy <;> cases op <;> rfl⟩
    cases hx <;> cases hy <;> simp at hc2 <;> exact run_equalIn_slice hu 9999 w _ _ _ _ _ _ rfl
  case map.map a b =>
    obtain ⟨hc, h⟩ := cond_some h
    simp only [Bool.and_eq_true] at hc
    obtain ⟨hc1, hc2⟩ := hc
    have hu : ∃ k e, P.underlying t = some (.map k e) := by
      cases hd : T.und t with
      | none => rw [hd] at hc1; simp at hc1
      | some d => rw [hT.und hd]; rw [hd] at hc1; cases d <;> simp at hc1 ⊢
    obtain ⟨k, e, hu⟩ := hu
    refine ⟨_, h, fun ι x' y' w hx hy => ?_⟩
    refine ⟨?_, fun op ox oy => by cases hx <;> cases hy <;> cases op <;> simp [eqGuard], fun op => by cases hx <;> cases hy <;> cases op <;> rfl⟩
    cases hx <;> cases hy <;> simp at hc2 <;> exact run_equalIn_map hu 9999 w _ _ rfl
  case agg.agg xs ys =>
    obtain ⟨xs⟩ := xs; obtain ⟨ys⟩ := ys
    obtain ⟨hc, h⟩ := cond_some h
    simp only [Bool.and_eq_true] at hc
    obtain ⟨hc1, hc2⟩ := hc
    obtain ⟨i, hg, hs, hf, hq, hk⟩ := flatEq_of hT hc1
    obtain ⟨b, hb, h⟩ := eqCells_rows h
    refine ⟨b, h, fun ι x' y' w hx hy => ?_⟩
    cases hx with | agg _ xs' hx => ?_
    cases hy with | agg _ ys' hy => ?_
    obtain ⟨rfl, rfl⟩ := eqRows_same hb hx hy
    have ha := isAggT_agg hT hg hc2
    refine ⟨?_, fun op ox oy => run_eqGuard_agg w op t ox oy _ _ hq, fun op => by cases op <;> rfl⟩
    rw [hk] at hb
    have := (flat_eq P 8 t _ hf).2.2.2 10000 (by omega) w _ _ _ hb
    simpa [partV, ha, Op.equal, Op.maxDepth] using this
theorem opBin_ok {op : BinOp} {t : TypeId} {x y : Value} {c : Value → Res} {r : Value × AH} (h : opBin T op t x y c = some r) :
    ∃ v, c v = some r ∧ ∀ ι x' y' ox oy w, VR ι x x' → VR ι y y' → ∃ v', (do eqGuard op t ox oy x' y'; binOp op t x' y' : Sem Value).run P w = .ok v' w ∧ VR ι v v' := by
  have noGuard : ∀ (op : BinOp) (t : TypeId) (ox oy : Operand) (x y : Value), (match x with | .int _ _ | .string _ => true | _ => false) = true → eqGuard op t ox oy x y = pure () := by
    intro op t ox oy x y hx
    unfold eqGuard
    cases x <;> simp at hx <;> cases op <;> rfl
  unfold opBin at h
  have eqs : ∀ x y, opEq T op t x y c = some r → ∃ v, c v = some r ∧ ∀ ι x' y' ox oy w, VR ι x x' → VR ι y y' → ∃ v', (do eqGuard op t ox oy x' y'; binOp op t x' y' : Sem Value).run P w = .ok v' w ∧ VR ι v v' := by
    intro x y h
    unfold opEq at h
    cases op <;> simp only [] at h <;> first | (cases h; done) | skip
    · obtain ⟨b, h1, h2⟩ := eqV_ok hT h
      refine ⟨_, h1, fun ι x' y' ox oy w hx hy => ?_⟩
      obtain ⟨e1, e2, e3⟩ := h2 ι x' y' w hx hy
      refine ⟨_, ?_, .bool b⟩
      rw [e3 .eql]
      simp [e2, e1]
    · obtain ⟨b, h1, h2⟩ := eqV_ok hT h
      refine ⟨_, h1, fun ι x' y' ox oy w hx hy => ?_⟩
      obtain ⟨e1, e2, e3⟩ := h2 ι x' y' w hx hy
      refine ⟨_, ?_, .bool (!b)⟩
      rw [e3 .neq]
      simp [e2, e1]
  cases x with
  | int k a =>
    cases y <;> simp only [] at h <;> first | (cases h; done) | skip
    rename_i k' b
    cases hs : isShift op with
    | true =>
      rw [hs, cond_true] at h
      obtain ⟨v, h1, h2, h3⟩ := shiftInt_ok (P := P) (k' := k') h
      refine ⟨v, h1, fun ι x' y' ox oy w hx hy => ?_⟩
      cases hx; cases hy
      refine ⟨v, ?_, plain_refl ι h2⟩
      rw [noGuard _ _ _ _ _ _ rfl]
      simp [h3 t w]
    | false =>
      rw [hs, cond_false] at h
      obtain ⟨hk, h0⟩ := cond_some h
      obtain rfl := of_decide_eq_true hk
      obtain ⟨v, h1, h2, h3⟩ := binInt_ok (P := P) hs h0
      refine ⟨v, h1, fun ι x' y' ox oy w hx hy => ?_⟩
      cases hx; cases hy
      refine ⟨v, ?_, plain_refl ι h2⟩
      rw [noGuard _ _ _ _ _ _ rfl]
      simp [h3 t w]
  | string a =>
    cases y <;> simp only [] at h <;> first | (cases h; done) | skip
    obtain ⟨v, h1, h2, h3⟩ := binStr_ok (P := P) h
    refine ⟨v, h1, fun ι x' y' ox oy w hx hy => ?_⟩
    cases hx; cases hy
    refine ⟨v, ?_, plain_refl ι h2⟩
    rw [noGuard _ _ _ _ _ _ rfl]
    simp [h3 t w]
  | _ => exact eqs _ _ h
omit hT in
theorem opUn_ok {op : UnOp} {x : Value} {c : Value → Res} {r : Value × AH} (h : opUn op x c = some r) :
    ∃ v, c v = some r ∧ ∀ ι x' w, VR ι x x' → ∃ v', (Op.unary op x').run P w = .ok v' w ∧ VR ι v v' := by
  unfold opUn at h
  cases x <;> simp only [] at h <;> first | (cases h; done) | skip
  all_goals cases op <;> simp only [] at h <;> first | (cases h; done) | skip
  all_goals
    refine ⟨_, h, fun ι x' w hx => ?_⟩
    cases hx
    refine ⟨_, rfl, ?_⟩
    constructor
theorem zeroOf_ok {t : TypeId} {k : List Value → Res} {r : Value × AH} (h : zeroOf T t k = some r) :
    ∃ i z, T.get t = some i ∧ k i.zero = some r ∧ (∀ w, (zeroValue t).run P w = .ok z w) ∧ plain z = true ∧ solid z = true ∧ cellsOf z = i.zero ∧ i.zero.length = i.size ∧ (∀ ι, VR ι z z) ∧ (∀ ι, VRs ι i.zero i.zero) ∧ z.cells.toList = i.zero ∧ (i.agg = true → ∃ c, z = .agg c) ∧ (i.agg = false → oneCell z = true) := by
  obtain ⟨i, hi, h⟩ := Option.bind_eq_some_iff.1 h
  obtain ⟨inf, z, h1, h2, h3, h4, h5, h6, h7, h8, h9⟩ := (hT.get hi).info
  have hr : ∀ ι, VR ι z z := fun ι => plain_refl ι h5
  have hc : z.cells.toList = cellsOf z := by cases z <;> rfl
  refine ⟨i, z, hi, h, fun w => run_zeroValue h1 h4, h5, h6, h7, (hT.get hi).len, hr, fun ι => ?_, by rw [hc, h7], h8, h9⟩
  have := cells_of (hr ι)
  rwa [hc, h7] at this
end
end Go.Proofs.Yteljeekapcenlaa.Ev
