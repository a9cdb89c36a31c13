/-
  Ev, part D: what the pure operations come to in the model. No conditions.
-/
import Derived.Test.YteljeekapcenlaaEvC
import Derived.ChangeKeysEq
namespace Go.Proofs.Yteljeekapcenlaa.Ev
open Go
def Ans (P : Program) (s : Sem Value) (w : World) (v' : Value) : Prop := s.run P w = .ok v' w
section
variable {P : Program} {w : World}
theorem run_underlying {t : TypeId} {d : TypeDesc} (h : P.underlying t = some d) : (underlying t).run P w = .ok d w := by
  simp [underlying, h]
theorem run_typeInfo {t : TypeId} {i : TypeInfo} (h : P.info? t = some i) : (typeInfo t).run P w = .ok i w := by
  simp [typeInfo, h]
theorem run_sizeOf {t : TypeId} {i : TypeInfo} (h : P.info? t = some i) : (sizeOf t).run P w = .ok i.size w := by
  simp [sizeOf, run_typeInfo h]
theorem run_zeroValue {t : TypeId} {i : TypeInfo} {z : Value} (h : P.info? t = some i) (hz : i.zero = some z) : (zeroValue t).run P w = .ok z w := by
  simp [zeroValue, run_typeInfo h, hz]
theorem run_isAgg {t : TypeId} {d : TypeDesc} (h : P.underlying t = some d) : (isAgg t).run P w = .ok (aggP P t) w := by
  simp only [isAgg, Sem.run_bind, run_underlying h, Result.andThen_ok, aggP, h]
  cases d <;> rfl
end
section
variable {P : Program} {T : Ty}
theorem sizeT_ok (hT : Fits P T) {t : TypeId} {k : Nat → Res} {r : Value × AH} (h : sizeT T t k = some r) :
    ∃ i, T.get t = some i ∧ k i.size = some r ∧ ∀ w, (sizeOf t).run P w = .ok i.size w := by
  obtain ⟨i, hi, h⟩ := Option.bind_eq_some_iff.1 h
  obtain ⟨inf, z, h1, h2, _⟩ := (hT.get hi).info
  exact ⟨i, hi, h, fun w => by rw [run_sizeOf h1, h2]⟩
theorem isAggT_ok (hT : Fits P T) {t : TypeId} (h : isAggT T t = true) : ∀ w, (isAgg t).run P w = .ok true w := by
  intro w
  unfold isAggT at h
  cases hg : T.get t with
  | none => rw [hg] at h; simp at h
  | some i => rw [hg] at h; simp at h; have hi := hT.get hg; rw [run_isAgg hi.und, ← hi.agg, h]
theorem isAggT_no (hT : Fits P T) {t : TypeId} {i : TI} (hg : T.get t = some i) (h : isAggT T t = false) : ∀ w, (isAgg t).run P w = .ok false w := by
  intro w
  unfold isAggT at h
  rw [hg] at h; simp at h
  have hi := hT.get hg
  rw [run_isAgg hi.und, ← hi.agg, h]
theorem binInt_ok {op : BinOp} {k : IntKind} {x y : Int} {c : Value → Res} {r : Value × AH} (hs : isShift op = false) (h : binInt op k x y c = some r) :
    ∃ v, c v = some r ∧ plain v = true ∧ ∀ t w, (binOp op t (.int k x) (.int k y)).run P w = .ok v w := by
  cases op <;> simp only [binInt, isShift] at h hs <;> first
    | (cases h; done)
    | (cases hs; done)
    | (refine ⟨_, h, rfl, fun t w => ?_⟩; simp [binOp, Op.intArith, Op.intBits, Op.intCmp, bitsOp, ltI_eq, leI_eq]; done)
    | (cases hy : decide (y = 0)
       · rw [hy] at h
         refine ⟨_, h, rfl, fun t w => ?_⟩
         simp at hy
         simp [binOp, Op.intDiv, hy]
       · rw [hy] at h; simp at h)
theorem shiftInt_ok {op : BinOp} {k k' : IntKind} {x y : Int} {c : Value → Res} {r : Value × AH} (h : shiftInt op k x y c = some r) :
    ∃ v, c v = some r ∧ plain v = true ∧ ∀ t w, (binOp op t (.int k x) (.int k' y)).run P w = .ok v w := by
  unfold shiftInt at h
  cases hy : decide (y < 0)
  · rw [hy] at h
    simp at hy
    have hy' : ¬ y < 0 := by omega
    cases op <;> simp only [cond_false] at h <;> first
      | (cases h; done)
      | (refine ⟨_, h, rfl, fun t w => ?_⟩; simp [binOp, Op.shift, hy'])
  · rw [hy] at h; simp at h
theorem binStr_ok {op : BinOp} {x y : ByteArray} {c : Value → Res} {r : Value × AH} (h : binStr op x y c = some r) :
    ∃ v, c v = some r ∧ plain v = true ∧ ∀ t w, (binOp op t (.string x) (.string y)).run P w = .ok v w := by
  cases op <;> simp only [binStr] at h <;> first
    | (cases h; done)
    | (refine ⟨_, h, rfl, fun t w => ?_⟩; simp [binOp, Op.stringOp]; done)
    | (obtain ⟨h1, h2⟩ := cond_some h
       refine ⟨_, h2, rfl, fun t w => ?_⟩
       simp at h1
       simp [binOp, Op.stringOp]; omega)
noncomputable def cellEq (kd : Kd) (x y : Value) : Option Bool :=
  match kd with
  | .bool => (match x with | .bool a => (match y with | .bool b => some (a == b) | _ => none) | _ => none)
  | .int k => (match x with | .int ka a => (match y with | .int kb b => cond (decide (ka = k) && decide (kb = k)) (some (a == b)) none | _ => none) | _ => none)
  | .str => (match x with | .string a => (match y with | .string b => some (a == b) | _ => none) | _ => none)
  | _ => none
noncomputable def eqRows : List Kd → List Value → List Value → Option Bool
  | [], [], [] => some true
  | k :: ks, x :: xs, y :: ys => (cellEq k x y).bind fun a => (eqRows ks xs ys).bind fun b => some (a && b)
  | _, _, _ => none
theorem eqCell_cellEq {kd : Kd} {x y : Value} {c : Bool → Res} {r : Value × AH} (h : eqCell kd x y c = some r) : ∃ b, cellEq kd x y = some b ∧ c b = some r := by
  unfold eqCell at h
  unfold cellEq
  cases kd <;> first | (cases h; done) | skip
  all_goals cases x <;> first | (cases h; done) | skip
  all_goals cases y <;> first | (cases h; done) | skip
  · exact ⟨_, rfl, h⟩
  · obtain ⟨h0, h⟩ := cond_some h
    exact ⟨_, by simp only [h0, cond_true], h⟩
  · exact ⟨_, rfl, h⟩
theorem cellEq_some {kd : Kd} {x y : Value} {b : Bool} (h : cellEq kd x y = some b) :
    (∃ p q, kd = .bool ∧ x = .bool p ∧ y = .bool q ∧ b = (p == q)) ∨ (∃ k p q, kd = .int k ∧ x = .int k p ∧ y = .int k q ∧ b = (p == q)) ∨ (∃ p q, kd = .str ∧ x = .string p ∧ y = .string q ∧ b = (p == q)) := by
  unfold cellEq at h
  cases kd <;> first | (cases h; done) | skip
  all_goals cases x <;> first | (cases h; done) | skip
  all_goals cases y <;> first | (cases h; done) | skip
  · simp at h; exact .inl ⟨_, _, rfl, rfl, rfl, h.symm⟩
  · obtain ⟨h0, h1⟩ := cond_some h
    simp at h0
    obtain ⟨rfl, rfl⟩ := h0
    exact .inr (.inl ⟨_, _, _, rfl, rfl, rfl, (Option.some.inj h1).symm⟩)
  · simp at h; exact .inr (.inr ⟨_, _, rfl, rfl, rfl, h.symm⟩)
theorem eqCells_rows {ks : List Kd} : ∀ {xs ys : List Value} {c : Bool → Res} {r : Value × AH}, eqCells ks xs ys c = some r → ∃ b, eqRows ks xs ys = some b ∧ c b = some r := by
  induction ks with
  | nil =>
    intro xs ys c r h
    cases xs with
    | nil => cases ys with
      | nil => exact ⟨true, rfl, h⟩
      | cons y ys => exact absurd (show none = some r from h) (by simp)
    | cons x xs => exact absurd (show none = some r from h) (by simp)
  | cons k ks ih =>
    intro xs ys c r h
    cases xs with
    | nil => exact absurd (show none = some r from h) (by simp)
    | cons x xs => cases ys with
      | nil => exact absurd (show none = some r from h) (by simp)
      | cons y ys =>
        have h' : eqCell k x y (fun a => eqCells ks xs ys fun b => c (a && b)) = some r := h
        obtain ⟨a, ha, h'⟩ := eqCell_cellEq h'
        obtain ⟨b, hb, h'⟩ := ih h'
        exact ⟨_, by simp [eqRows, ha, hb], h'⟩
theorem eqRows_len : ∀ (ks : List Kd) (xs ys : List Value) (b : Bool), eqRows ks xs ys = some b → xs.length = ks.length ∧ ys.length = ks.length := by
  intro ks
  induction ks with
  | nil => intro xs ys b h; cases xs <;> cases ys <;> simp [eqRows] at h ⊢
  | cons k ks ih =>
    intro xs ys b h
    cases xs with
    | nil => simp [eqRows] at h
    | cons x xs => cases ys with
      | nil => simp [eqRows] at h
      | cons y ys =>
        simp only [eqRows] at h
        obtain ⟨a, ha, h⟩ := Option.bind_eq_some_iff.1 h
        obtain ⟨c, hc, h⟩ := Option.bind_eq_some_iff.1 h
        simp [ih xs ys c hc]
theorem eqRows_split : ∀ (ks ls : List Kd) (xs ys : List Value) (b : Bool), eqRows (ks ++ ls) xs ys = some b →
    ∃ b1 b2, eqRows ks (xs.take ks.length) (ys.take ks.length) = some b1 ∧ eqRows ls (xs.drop ks.length) (ys.drop ks.length) = some b2 ∧ b = (b1 && b2) := by
  intro ks
  induction ks with
  | nil => intro ls xs ys b h; exact ⟨true, b, by simp [eqRows], by simpa using h, by simp⟩
  | cons k ks ih =>
    intro ls xs ys b h
    cases xs with
    | nil => simp [eqRows] at h
    | cons x xs => cases ys with
      | nil => simp [eqRows] at h
      | cons y ys =>
        simp only [eqRows, List.cons_append] at h
        obtain ⟨a, ha, h⟩ := Option.bind_eq_some_iff.1 h
        obtain ⟨c, hc, h⟩ := Option.bind_eq_some_iff.1 h
        simp at h
        obtain ⟨b1, b2, h1, h2, h3⟩ := ih ls xs ys c hc
        refine ⟨a && b1, b2, ?_, by simpa using h2, by rw [← h, h3, Bool.and_assoc]⟩
        simp [eqRows, ha, h1]
noncomputable def partV (P : Program) (t : TypeId) (l : List Value) : Value := if aggP P t then .agg ⟨l⟩ else l.headD undef
theorem run_part {t : TypeId} {i : TypeInfo} {d : TypeDesc} (hu : P.underlying t = some d) (hi : P.info? t = some i) (cs : Array Value) (o : Nat) (w : World)
    (h1 : aggP P t = false → i.size = 1) (hl : o + i.size ≤ cs.size) :
    (part t cs o).run P w = .ok (partV P t ((cs.toList.drop o).take i.size)) w := by
  simp only [part, Sem.run_bind, run_isAgg hu, Result.andThen_ok, partV]
  cases ha : aggP P t
  · have hs := h1 ha
    simp only [Bool.false_eq_true, if_false]
    have : o < cs.size := by omega
    rw [hs]
    have e : cs[o]? = some cs[o] := by simp [this]
    rw [e]
    have : (cs.toList.drop o).take 1 = [cs[o]] := by
      rw [List.drop_eq_getElem_cons (by simpa using this)]; simp
    rw [this]
    rfl
  · simp only [if_true, Sem.run_bind, run_sizeOf hi, Result.andThen_ok, Sem.run_pure]
    congr 2
    apply Array.ext'
    simp [List.take_drop]
def FlatAt (P : Program) (d : Nat) (t : TypeId) : Prop :=
  ∀ n, flatEqN P d t = some n → (kindsN P d t).length = n ∧ (aggP P t = false → n = 1) ∧ (∃ dd, P.underlying t = some dd) ∧
    ∀ (D : Nat), d ≤ D → ∀ (w : World) (xs ys : List Value) (b : Bool), eqRows (kindsN P d t) xs ys = some b →
      (Op.equalIn D t (partV P t xs) (partV P t ys)).run P w = .ok b w
theorem flat_one {P : Program} {t : TypeId} {d D : Nat} {w : World} {xs ys : List Value} {b : Bool} (kd : Kd) (hk : kindsN P d t = [kd]) (ha : aggP P t = false)
    (hb : eqRows (kindsN P d t) xs ys = some b) (hc : ∀ x y, cellEq kd x y = some b → (Op.equalIn D t x y).run P w = .ok b w) :
    (Op.equalIn D t (partV P t xs) (partV P t ys)).run P w = .ok b w := by
  rw [hk] at hb
  obtain ⟨h1, h2⟩ := eqRows_len _ _ _ _ hb
  obtain ⟨x, rfl⟩ := List.length_eq_one_iff.1 h1
  obtain ⟨y, rfl⟩ := List.length_eq_one_iff.1 h2
  simp only [eqRows] at hb
  obtain ⟨a, ha', hb⟩ := Option.bind_eq_some_iff.1 hb
  simp at hb
  subst hb
  simp only [partV, ha, Bool.false_eq_true, if_false, List.headD_cons]
  exact hc x y ha'
theorem flat_fields {P : Program} {d D : Nat} (hD : d ≤ D) (w : World) (IH : ∀ t, FlatAt P d t) (xs ys : Array Value) : ∀ (fs : List Field) (n0 n : Nat),
    fs.foldl (fun acc f => acc.bind fun n =>
          cond (f.name != "_" && Nat.beq f.offset n) ((flatEqN P d f.type).bind fun m => cond (decide ((P.info? f.type).map (·.size) = some m)) (some (n + m)) none) none) (some n0) = some n →
    n = n0 + (fs.flatMap fun f => kindsN P d f.type).length ∧
    ∀ b, n ≤ xs.size → n ≤ ys.size → eqRows (fs.flatMap fun f => kindsN P d f.type) ((xs.toList.drop n0).take (n - n0)) ((ys.toList.drop n0).take (n - n0)) = some b → (Op.eqFields D xs ys fs).run P w = .ok b w := by
  intro fs
  induction fs with
  | nil =>
    intro n0 n h
    simp at h
    subst h
    refine ⟨by simp, fun b _ _ hb => ?_⟩
    simp [eqRows] at hb
    subst hb
    simp [Op.eqFields]
  | cons f fs ih =>
    intro n0 n h
    simp only [List.foldl_cons, Option.bind_some] at h
    have hnone : ∀ (l : List Field), l.foldl (fun acc f => acc.bind fun n =>
          cond (f.name != "_" && Nat.beq f.offset n) ((flatEqN P d f.type).bind fun m => cond (decide ((P.info? f.type).map (·.size) = some m)) (some (n + m)) none) none) none = none := by
      intro l; induction l with
      | nil => rfl
      | cons x l ih => simpa using ih
    cases hc : (f.name != "_" && Nat.beq f.offset n0) with
    | false => rw [hc, cond_false, hnone] at h; simp at h
    | true =>
      rw [hc, cond_true] at h
      simp only [Bool.and_eq_true, bne_iff_ne, ne_eq] at hc
      obtain ⟨hn, ho⟩ := hc
      have ho := Nat.eq_of_beq_eq_true ho
      cases hm : flatEqN P d f.type with
      | none => rw [hm] at h; simp only [Option.bind_none] at h; rw [hnone] at h; simp at h
      | some m =>
        rw [hm] at h
        simp only [Option.bind_some] at h
        cases hs : decide ((P.info? f.type).map (·.size) = some m) with
        | false => rw [hs, cond_false, hnone] at h; simp at h
        | true =>
          rw [hs, cond_true] at h
          have hs := of_decide_eq_true hs
          obtain ⟨i, hi, hsz⟩ := Option.map_eq_some_iff.1 hs
          obtain ⟨e1, e2⟩ := ih _ _ h
          obtain ⟨f1, f2, ⟨dd, f3⟩, f4⟩ := IH f.type m hm
          refine ⟨by rw [e1]; simp [f1]; omega, fun b hx hy hb => ?_⟩
          have hx' : (xs.toList).length = xs.size := by simp
          have hy' : (ys.toList).length = ys.size := by simp
          rw [List.flatMap_cons] at hb
          obtain ⟨b1, b2, g1, g2, g3⟩ := eqRows_split _ _ _ _ _ hb
          rw [f1] at g1 g2
          have hle : n0 + m ≤ n := by rw [e1]; omega
          have t1 : ∀ l : List Value, ((l.drop n0).take (n - n0)).take m = (l.drop n0).take m := by
            intro l; rw [List.take_take]; congr 1; omega
          have t2 : ∀ l : List Value, ((l.drop n0).take (n - n0)).drop m = (l.drop (n0 + m)).take (n - (n0 + m)) := by
            intro l; rw [List.drop_take, List.drop_drop]; congr 1; omega
          rw [t1, t1] at g1
          rw [t2, t2] at g2
          have p1 := f4 D hD w _ _ _ g1
          have p2 := e2 b2 hx hy g2
          have q1 := run_part f3 hi xs f.offset w (fun ha => by rw [hsz]; exact f2 ha) (by omega)
          have q2 := run_part f3 hi ys f.offset w (fun ha => by rw [hsz]; exact f2 ha) (by omega)
          rw [ho, hsz] at q1 q2
          simp only [Op.eqFields, ne_eq, hn, not_false_eq_true, if_true, Sem.run_bind, ho, q1, q2, p1, Result.andThen_ok]
          subst g3
          cases b1
          · simp
          · simpa using p2
theorem flat_items {P : Program} {d D : Nat} (hD : d ≤ D) (w : World) {e : TypeId} (IH : FlatAt P d e) {m : Nat} (hm : flatEqN P d e = some m) {i : TypeInfo} (hi : P.info? e = some i) (hs : i.size = m) (xs ys : Array Value) : ∀ (k j : Nat) (b : Bool),
    (j + k) * m ≤ xs.size → (j + k) * m ≤ ys.size →
    eqRows (List.replicate k (kindsN P d e)).flatten ((xs.toList.drop (j * m)).take (k * m)) ((ys.toList.drop (j * m)).take (k * m)) = some b → (Op.eqItems D e m xs ys (List.range' j k)).run P w = .ok b w := by
  intro k
  induction k with
  | zero => intro j b _ _ hb; simp [eqRows] at hb; subst hb; simp [Op.eqItems]
  | succ k ih =>
    intro j b hx hy hb
    obtain ⟨f1, f2, ⟨dd, f3⟩, f4⟩ := IH m hm
    rw [List.replicate_succ, List.flatten_cons] at hb
    obtain ⟨b1, b2, g1, g2, g3⟩ := eqRows_split _ _ _ _ _ hb
    rw [f1] at g1 g2
    have e0 : (k + 1) * m = k * m + m := by rw [Nat.add_mul]; omega
    have e1 : (j + 1) * m = j * m + m := by rw [Nat.add_mul]; omega
    have e2 : (j + (k + 1)) * m = j * m + k * m + m := by rw [Nat.add_mul, e0]; omega
    have e3 : (j + 1 + k) * m = j * m + k * m + m := by rw [Nat.add_mul, e1]; omega
    have t1 : ∀ l : List Value, ((l.drop (j * m)).take ((k + 1) * m)).take m = (l.drop (j * m)).take m := by
      intro l; rw [List.take_take]; congr 1; omega
    have t2 : ∀ l : List Value, ((l.drop (j * m)).take ((k + 1) * m)).drop m = (l.drop ((j + 1) * m)).take (k * m) := by
      intro l; rw [List.drop_take, List.drop_drop, e1]; congr 1; omega
    rw [t1, t1] at g1
    rw [t2, t2] at g2
    have p1 := f4 D hD w _ _ _ g1
    have p2 := ih (j + 1) b2 (by omega) (by omega) g2
    have q1 := run_part f3 hi xs (j * m) w (fun ha => by rw [hs]; exact f2 ha) (by omega)
    have q2 := run_part f3 hi ys (j * m) w (fun ha => by rw [hs]; exact f2 ha) (by omega)
    rw [hs] at q1 q2
    rw [List.range'_succ]
    simp only [Op.eqItems, Sem.run_bind, q1, q2, p1, Result.andThen_ok]
    subst g3
    cases b1
    · simp
    · simpa using p2
theorem flat_eq (P : Program) : ∀ (d : Nat) (t : TypeId), FlatAt P d t := by
  intro d
  induction d with
  | zero => intro t n h; simp [flatEqN] at h
  | succ d ih =>
    intro t n h
    unfold flatEqN at h
    cases hu : P.underlying t with
    | none => simp [hu] at h
    | some dd =>
      rw [hu] at h
      cases dd <;> simp only [] at h <;> first | (cases h; done) | skip
      case bool =>
        obtain ⟨_, h⟩ := cond_some h; simp at h; subst h
        have hk : kindsN P (d + 1) t = [.bool] := by simp [kindsN, hu, kindP]
        have ha : aggP P t = false := by simp [aggP, hu]
        refine ⟨by rw [hk]; rfl, fun _ => rfl, ⟨_, rfl⟩, fun D hD w xs ys b hb => flat_one _ hk ha hb (fun x y hc => ?_)⟩
        obtain ⟨D, rfl⟩ : ∃ m, D = m + 1 := ⟨D - 1, by omega⟩
        rcases cellEq_some hc with ⟨p, q, _, rfl, rfl, rfl⟩ | ⟨k, p, q, h1, _⟩ | ⟨p, q, h1, _⟩
        · exact run_equalIn_bool' w D t _ _ hu
        · cases h1
        · cases h1
      case int k0 =>
        obtain ⟨_, h⟩ := cond_some h; simp at h; subst h
        have hk : kindsN P (d + 1) t = [.int k0] := by simp [kindsN, hu, kindP]
        have ha : aggP P t = false := by simp [aggP, hu]
        refine ⟨by rw [hk]; rfl, fun _ => rfl, ⟨_, rfl⟩, fun D hD w xs ys b hb => flat_one _ hk ha hb (fun x y hc => ?_)⟩
        obtain ⟨D, rfl⟩ : ∃ m, D = m + 1 := ⟨D - 1, by omega⟩
        rcases cellEq_some hc with ⟨p, q, h1, _⟩ | ⟨k, p, q, h1, rfl, rfl, rfl⟩ | ⟨p, q, h1, _⟩
        · cases h1
        · exact run_equalIn_int w D t k _ _ _ hu
        · cases h1
      case string =>
        obtain ⟨_, h⟩ := cond_some h; simp at h; subst h
        have hk : kindsN P (d + 1) t = [.str] := by simp [kindsN, hu, kindP]
        have ha : aggP P t = false := by simp [aggP, hu]
        refine ⟨by rw [hk]; rfl, fun _ => rfl, ⟨_, rfl⟩, fun D hD w xs ys b hb => flat_one _ hk ha hb (fun x y hc => ?_)⟩
        obtain ⟨D, rfl⟩ : ∃ m, D = m + 1 := ⟨D - 1, by omega⟩
        rcases cellEq_some hc with ⟨p, q, h1, _⟩ | ⟨k, p, q, h1, _⟩ | ⟨p, q, _, rfl, rfl, rfl⟩
        · cases h1
        · cases h1
        · rw [run_equalIn_string w D t _ _ hu, beq_toListBytes]
      case array len e =>
        obtain ⟨m, hm, h⟩ := Option.bind_eq_some_iff.1 h
        obtain ⟨hs, h⟩ := cond_some h
        have hs := of_decide_eq_true hs
        obtain ⟨i, hi, hsz⟩ := Option.map_eq_some_iff.1 hs
        simp at h; subst h
        have hk : kindsN P (d + 1) t = (List.replicate len (kindsN P d e)).flatten := by simp [kindsN, hu]
        have ha : aggP P t = true := by simp [aggP, hu]
        obtain ⟨f1, _⟩ := ih e m hm
        have hl : (kindsN P (d + 1) t).length = len * m := by rw [hk]; simp [List.length_flatten, List.map_replicate, f1]
        refine ⟨hl, by simp [ha], ⟨_, rfl⟩, fun D hD w xs ys b hb => ?_⟩
        obtain ⟨D, rfl⟩ : ∃ m, D = m + 1 := ⟨D - 1, by omega⟩
        obtain ⟨l1, l2⟩ := eqRows_len _ _ _ _ hb
        rw [hl] at l1 l2
        simp only [partV, ha, if_true]
        rw [run_equalIn_array w D _ _ hu hi]
        have hc : P.cellsOf e = m := by simp [Program.cellsOf, hi, hsz]
        rw [hc, List.range_eq_range']
        refine flat_items (by omega) w (ih e) hm hi hsz _ _ len 0 b (by simp [l1]) (by simp [l2]) ?_
        rw [hk] at hb
        simp only [Nat.zero_mul, List.drop_zero]
        rw [List.take_of_length_le (by simp [l1]), List.take_of_length_le (by simp [l2])]
        exact hb
      case struct fs =>
        cases hst : P.stoodInHeld t with
        | true => rw [hst] at h; simp at h
        | false =>
          rw [hst] at h
          simp only [cond_false] at h
          have hk : kindsN P (d + 1) t = fs.toList.flatMap fun f => kindsN P d f.type := by simp [kindsN, hu]
          have ha : aggP P t = true := by simp [aggP, hu]
          have key := fun (w : World) (D : Nat) (hD : d ≤ D) (xs ys : Array Value) => flat_fields hD w ih xs ys fs.toList 0 n h
          have hl : (kindsN P (d + 1) t).length = n := by rw [hk]; have := (key default d (Nat.le_refl _) #[] #[]).1; omega
          refine ⟨hl, by simp [ha], ⟨_, rfl⟩, fun D hD w xs ys b hb => ?_⟩
          obtain ⟨D, rfl⟩ : ∃ m, D = m + 1 := ⟨D - 1, by omega⟩
          obtain ⟨l1, l2⟩ := eqRows_len _ _ _ _ hb
          rw [hl] at l1 l2
          simp only [partV, ha, if_true]
          have hf : P.fieldsOf t = fs := by simp [Program.fieldsOf, hu]
          rw [run_equalIn_struct w D t _ _ (by rw [hf]; exact hu) hst, hf]
          refine (key w D (by omega) _ _).2 b (by simp [l1]) (by simp [l2]) ?_
          rw [hk] at hb
          simp only [List.drop_zero, Nat.sub_zero]
          rw [List.take_of_length_le (by simp [l1]), List.take_of_length_le (by simp [l2])]
          exact hb
end
end Go.Proofs.Yteljeekapcenlaa.Ev
