/-
  Ev, part Gg: values that are handed in, slices within slices too, by what they hold. No conditions.
-/
import Derived.Test.YteljeekapcenlaaEvGh
namespace Go.Proofs.Yteljeekapcenlaa.Ev
open Go Go.RowKit
set_option linter.unusedVariables false
set_option linter.unusedSimpArgs false
inductive KT where
  | k (kd : Kd)
  | s (bytes : Nat) (ks : List KT)
mutual
def HasT : KT → Value → Prop
  | .k kd, v => kd.flat = true ∧ Has kd v
  | .s bytes ks, v => ∃ rows : List (List Value), v = dS ks.length rows.flatten ∧ rows.length ≤ maxLen ∧ rows.length * bytes ≤ reachBytes ∧ ∀ r ∈ rows, HasTL ks r
def HasTL : List KT → List Value → Prop
  | [], [] => True
  | k :: ks, v :: vs => HasT k v ∧ HasTL ks vs
  | _, _ => False
end
def SlT (bytes : Nat) (ks : List KT) (cs : List Value) : Prop := ∃ rows : List (List Value), cs = rows.flatten ∧ rows.length ≤ maxLen ∧ rows.length * bytes ≤ reachBytes ∧ ∀ r ∈ rows, HasTL ks r
theorem HasTL.append {ks1 ks2 : List KT} {cs1 cs2 : List Value} (h1 : HasTL ks1 cs1) (h2 : HasTL ks2 cs2) : HasTL (ks1 ++ ks2) (cs1 ++ cs2) := by
  induction ks1 generalizing cs1 with
  | nil => cases cs1 with
    | nil => exact h2
    | cons _ _ => simp [HasTL] at h1
  | cons k ks ih =>
    cases cs1 with
    | nil => simp [HasTL] at h1
    | cons c cs =>
      simp only [HasTL] at h1
      simp only [List.cons_append, HasTL]
      exact ⟨h1.1, ih h1.2⟩
theorem HasTL.len {ks : List KT} {cs : List Value} (h : HasTL ks cs) : cs.length = ks.length := by
  induction ks generalizing cs with
  | nil => cases cs with
    | nil => rfl
    | cons _ _ => simp [HasTL] at h
  | cons k ks ih =>
    cases cs with
    | nil => simp [HasTL] at h
    | cons c cs =>
      simp only [HasTL] at h
      simp [ih h.2]
theorem HasTL.nil {cs : List Value} (h : HasTL [] cs) : cs = [] := by
  cases cs with
  | nil => rfl
  | cons _ _ => simp [HasTL] at h
theorem HasTL.cons {k : KT} {ks : List KT} {cs : List Value} (h : HasTL (k :: ks) cs) : ∃ v vs, cs = v :: vs ∧ HasT k v ∧ HasTL ks vs := by
  cases cs with
  | nil => simp [HasTL] at h
  | cons c cs => simp only [HasTL] at h; exact ⟨c, cs, rfl, h.1, h.2⟩
theorem HasTL.int {k : IntKind} {ks : List KT} {cs : List Value} (h : HasTL (.k (.int k) :: ks) cs) : ∃ n vs, cs = .int k n :: vs ∧ k.has n ∧ HasTL ks vs := by
  obtain ⟨v, vs, rfl, h1, h2⟩ := h.cons
  simp only [HasT] at h1
  obtain ⟨_, n, rfl, h3⟩ := h1
  exact ⟨n, vs, rfl, h3, h2⟩
theorem HasTL.bool {ks : List KT} {cs : List Value} (h : HasTL (.k .bool :: ks) cs) : ∃ n vs, cs = .bool n :: vs ∧ HasTL ks vs := by
  obtain ⟨v, vs, rfl, h1, h2⟩ := h.cons
  simp only [HasT] at h1
  obtain ⟨_, n, rfl⟩ := h1
  exact ⟨n, vs, rfl, h2⟩
theorem HasTL.str {ks : List KT} {cs : List Value} (h : HasTL (.k .str :: ks) cs) : ∃ n vs, cs = .string n :: vs ∧ HasTL ks vs := by
  obtain ⟨v, vs, rfl, h1, h2⟩ := h.cons
  simp only [HasT] at h1
  obtain ⟨_, n, rfl⟩ := h1
  exact ⟨n, vs, rfl, h2⟩
theorem HasTL.sl {b : Nat} {es ks : List KT} {cs : List Value} (h : HasTL (.s b es :: ks) cs) : ∃ n vs, cs = dS es.length n :: vs ∧ SlT b es n ∧ HasTL ks vs := by
  obtain ⟨v, vs, rfl, h1, h2⟩ := h.cons
  simp only [HasT] at h1
  obtain ⟨rows, rfl, h3⟩ := h1
  exact ⟨_, vs, rfl, ⟨rows, rfl, h3⟩, h2⟩
def fldT (P : Program) (kd : TypeId → Option (List KT)) : List Field → Nat → Option (List KT)
  | [], _ => some []
  | f :: fs, o => (kd f.type).bind fun ks => if f.offset = o ∧ P.cellsOf f.type = ks.length then (fldT P kd fs (o + ks.length)).map (ks ++ ·) else none
def kts (P : Program) : Nat → TypeId → Option (List KT)
  | 0, _ => none
  | d + 1, t => match P.underlying t with
    | some .bool => some [.k .bool]
    | some (.int k) => some [.k (.int k)]
    | some .string => some [.k .str]
    | some (.slice e) => (kts P d e).bind fun ks => if P.cellsOf e = ks.length ∧ 0 < ks.length then some [.s (P.bytesOf e) ks] else none
    | some (.struct fs) => (fldT P (kts P d) fs.toList 0).bind fun ks => if P.cellsOf t = ks.length then some ks else none
    | some (.array n e) => (kts P d e).bind fun ks => if P.cellsOf e = ks.length ∧ P.cellsOf t = n * ks.length then some (List.replicate n ks).flatten else none
    | _ => none
section
variable {H : Type} {enc : TypeId × Value → H} {P : Program} {w : World}
def Told (w : World) (ks : List KT) (cs : List Value) : Prop := ∃ ds, HasTL ks ds ∧ DRs w ds cs ∧ ∀ d ∈ ds, cellOk d = true
theorem drs_append {w : World} : ∀ {a a' b b' : List Value}, DRs w a a' → DRs w b b' → DRs w (a ++ b) (a' ++ b')
  | _, _, _, _, .nil, h => h
  | _, _, _, _, .cons v v' l l' h hs, k => .cons v v' _ _ h (drs_append hs k)
theorem Told.nil {w : World} : Told w [] [] := ⟨[], by simp [HasTL], .nil, fun d h => by cases h⟩
theorem Told.append {w : World} {k1 k2 : List KT} {c1 c2 : List Value} (h1 : Told w k1 c1) (h2 : Told w k2 c2) : Told w (k1 ++ k2) (c1 ++ c2) := by
  obtain ⟨d1, a1, a2, a3⟩ := h1
  obtain ⟨d2, b1, b2, b3⟩ := h2
  refine ⟨d1 ++ d2, a1.append b1, drs_append a2 b2, fun d hd => ?_⟩
  rcases List.mem_append.1 hd with hd | hd
  · exact a3 d hd
  · exact b3 d hd
def light (P : Program) (t : TypeId) (d : DataW H) : Prop := (d.weights P t).all (· ≤ reachBytes) = true
theorem light_all {e : TypeId} : ∀ {l : List (DataW H)}, (DataW.weightsAll P e l).all (· ≤ reachBytes) = true → ∀ {i : Nat} {d : DataW H}, l[i]? = some d → light P e d
  | [], _, i, d, h => by simp at h
  | x :: l, hl, i, d, h => by
    simp only [DataW.weightsAll, List.all_append, Bool.and_eq_true] at hl
    cases i with
    | zero => simp at h; subst h; exact hl.1
    | succ i => exact light_all hl.2 (by simpa using h)
theorem light_each : ∀ {ts : List TypeId} {l : List (DataW H)}, (DataW.weightsEach P ts l).all (· ≤ reachBytes) = true → ∀ {i : Nat} {d : DataW H} {t : TypeId}, ts[i]? = some t → l[i]? = some d → light P t d
  | [], _, _, i, d, t, h, _ => by simp at h
  | _ :: _, [], _, i, d, t, _, h => by simp at h
  | t0 :: ts, x :: l, hl, i, d, t, ht, h => by
    simp only [DataW.weightsEach, List.all_append, Bool.and_eq_true] at hl
    cases i with
    | zero => simp at h ht; subst h ht; exact hl.1
    | succ i => exact light_each hl.2 (by simpa using ht) (by simpa using h)
theorem fldT_told {kd : TypeId → Option (List KT)} {n : Nat} {cs : List Value} {xs : List (DataW H × List MemPlace)} {ts : List TypeId}
    (ih : ∀ t ks cs x, kd t = some ks → light P t x.1 → DataW.trod enc P w 0 (fun _ => true) true n t cs = some x → Told w ks cs) :
    ∀ (fs : List Field) (o m : Nat) (ks : List KT), fldT P kd fs o = some ks → o + ks.length ≤ cs.length → m + fs.length = xs.length →
    (∀ (i : Nat) (f : Field), fs[i]? = some f → DataW.trod enc P w 0 (fun _ => true) true n f.type ((cs.drop f.offset).take (P.cellsOf f.type)) = xs[m + i]?) →
    (∀ (i : Nat) (f : Field) x, fs[i]? = some f → xs[m + i]? = some x → light P f.type x.1) → Told w ks ((cs.drop o).take ks.length) := by
  intro fs
  induction fs with
  | nil => intro o m ks h hl hm hx _; obtain rfl := Option.some.inj h; exact Told.nil
  | cons f fs ihs =>
    intro o m ks h hl hm hx hw
    obtain ⟨k1, h1, h2⟩ := Option.bind_eq_some_iff.1 h
    by_cases hc : f.offset = o ∧ P.cellsOf f.type = k1.length
    · rw [if_pos hc] at h2
      obtain ⟨k2, h3, rfl⟩ := Option.map_eq_some_iff.1 h2
      rw [List.length_append] at hl
      have hlt : m < xs.length := by simp only [List.length_cons] at hm; omega
      have e0 := hx 0 f rfl
      have w0 := hw 0 f xs[m] rfl (by rw [Nat.add_zero, List.getElem?_eq_getElem hlt])
      rw [hc.1, hc.2, Nat.add_zero, List.getElem?_eq_getElem hlt] at e0
      have a := ih _ _ _ _ h1 w0 e0
      have b := ihs (o + k1.length) (m + 1) k2 h3 (by omega) (by simp only [List.length_cons] at hm; omega) (fun i f' hf => by have := hx (i + 1) f' hf; rw [this]; congr 1; omega)
        (fun i f' x hf hx' => hw (i + 1) f' x hf (by rw [← hx']; congr 1; omega))
      have e : (cs.drop o).take (k1 ++ k2).length = (cs.drop o).take k1.length ++ (cs.drop (o + k1.length)).take k2.length := by
        rw [List.length_append, List.take_add, List.drop_drop]
      rw [e]; exact a.append b
    · rw [if_neg hc] at h2; cases h2
theorem cells_at {a : Addr} {n : Nat} {cs : List Value} (h : w.cells? 0 a n = some cs) : cs.length = n ∧ ∀ i, i < n → w.cell? (a.add i) = cs[i]? := by
  unfold World.cells? at h
  rw [if_pos (Nat.zero_le _)] at h
  exact ⟨by simpa using mapM_some_length h, fun i hi => mapM_some_get h i i (by simp [hi])⟩
theorem addr_add {b o : Nat} (i : Nat) : (⟨b, o, none⟩ : Addr).add i = ⟨b, o + i, none⟩ := by
  unfold Addr.add
  split <;> simp_all
theorem addr_add0 (a : Addr) : a.add 0 = a := by
  unfold Addr.add
  simp
theorem cells_spot {a : Addr} {n : Nat} {cs : List Value} (h : w.cells? 0 (a.add 0) n = some cs) (hn : 0 < n) : a.spot = none := by
  obtain ⟨h1, h2⟩ := cells_at h
  have h3 := h2 0 hn
  rw [addr_add0, addr_add0, List.getElem?_eq_getElem (by omega)] at h3
  unfold World.cell? at h3
  generalize w.heap[a.block]? = o at h3
  cases ha : a.spot with
  | none => rfl
  | some s =>
    rw [ha] at h3
    match o, h3 with
    | some (.cells _ _ _), h3 => simp at h3
theorem slice_told {e : TypeId} {ks : List KT} {a : Addr} {len cap : Nat} {n : Nat} {elems rest : List (DataW H × List MemPlace)}
    (hc : P.cellsOf e = ks.length) (hpos : 0 < ks.length)
    (ih : ∀ (cs : List Value) (x : DataW H × List MemPlace), light P e x.1 → DataW.trod enc P w 0 (fun _ => true) true n e cs = some x → Told w ks cs)
    (hlc : len ≤ cap) (hcm : cap ≤ maxLen) (hel : elems.length = len)
    (hge : ∀ i, i < len → (w.cells? 0 (a.add (i * P.cellsOf e)) (P.cellsOf e)).bind (DataW.trod enc P w 0 (fun _ => true) true n e) = elems[i]?)
    (hrl : rest.length = cap - len) (hre : ∀ j, j < cap - len → (w.cells? 0 (a.add ((len + j) * P.cellsOf e)) (P.cellsOf e)).bind (DataW.trod enc P w 0 (fun _ => true) true n e) = rest[j]?)
    (hb : (elems.length + rest.length) * P.bytesOf e ≤ reachBytes) (hw : ∀ (i : Nat) (x : DataW H × List MemPlace), elems[i]? = some x → light P e x.1) :
    Told w [.s (P.bytesOf e) ks] [.slice (some a) len cap] := by
  by_cases h0 : cap = 0
  · subst h0
    obtain rfl : len = 0 := by omega
    refine ⟨[dS ks.length []], by simp only [HasTL, HasT]; exact ⟨⟨[], rfl, Nat.zero_le _, by simp, fun r hr => (by cases hr)⟩, trivial⟩, .cons _ _ _ _ (.dSe _ _ hpos) .nil, fun d hd => ?_⟩
    obtain rfl := List.mem_singleton.1 hd
    rfl
  · have hs : a.spot = none := by
      by_cases hl : 0 < len
      · have e0 := hge 0 hl
        rw [List.getElem?_eq_getElem (by omega), Nat.zero_mul] at e0
        obtain ⟨r, h1, _⟩ := Option.bind_eq_some_iff.1 e0
        exact cells_spot h1 (by omega)
      · have e0 := hre 0 (by omega)
        have hl0 : (len + 0) * P.cellsOf e = 0 := by
          have : len = 0 := by omega
          rw [this, Nat.zero_add, Nat.zero_mul]
        rw [hl0] at e0
        obtain ⟨q, hq⟩ : ∃ q, rest[0]? = some q := ⟨_, List.getElem?_eq_getElem (by omega)⟩
        rw [hq] at e0
        obtain ⟨r, h1, _⟩ := Option.bind_eq_some_iff.1 e0
        exact cells_spot h1 (by omega)
    obtain ⟨b, o, sp⟩ := a
    obtain rfl : sp = none := hs
    have key : ∀ m, m ≤ len → ∃ (rows : List (List Value)) (vs : List Value), rows.length = m ∧ (∀ r ∈ rows, HasTL ks r) ∧ (∀ d ∈ rows.flatten, cellOk d = true) ∧ DRs w rows.flatten vs ∧ vs.length = m * ks.length ∧ ∀ i v, vs[i]? = some v → w.cell? ⟨b, o + i, none⟩ = some v := by
      intro m
      induction m with
      | zero => intro _; exact ⟨[], [], rfl, fun r hr => (by cases hr), fun d hd => (by cases hd), .nil, by simp, fun i v h => (by simp at h)⟩
      | succ m ihm =>
        intro hm
        obtain ⟨rows, vs, a1, a2, a3, a4, a5, a6⟩ := ihm (by omega)
        have e0 := hge m (by omega)
        have hlt : m < elems.length := by omega
        rw [List.getElem?_eq_getElem hlt] at e0
        obtain ⟨r, h1, h2⟩ := Option.bind_eq_some_iff.1 e0
        obtain ⟨ds, b1, b2, b3⟩ := ih r _ (hw m _ (List.getElem?_eq_getElem hlt)) h2
        obtain ⟨g1, g2⟩ := cells_at h1
        refine ⟨rows ++ [ds], vs ++ r, by simp [a1], fun x hx => ?_, fun d hd => ?_, by rw [List.flatten_append, List.flatten_singleton]; exact drs_append a4 b2, by rw [List.length_append, a5, g1, hc, Nat.succ_mul], fun i v hv => ?_⟩
        · rcases List.mem_append.1 hx with hx | hx
          · exact a2 x hx
          · obtain rfl := List.mem_singleton.1 hx; exact b1
        · rw [List.flatten_append, List.flatten_singleton] at hd
          rcases List.mem_append.1 hd with hd | hd
          · exact a3 d hd
          · exact b3 d hd
        · by_cases hi : i < vs.length
          · rw [List.getElem?_append_left hi] at hv; exact a6 i v hv
          · rw [List.getElem?_append_right (by omega)] at hv
            have hj := (List.getElem?_eq_some_iff.1 hv).1
            have := g2 (i - vs.length) (by omega)
            rw [hv, addr_add, addr_add, hc] at this
            rw [← this]
            congr 2
            omega
    obtain ⟨rows, vs, a1, a2, a3, a4, a5, a6⟩ := key len (Nat.le_refl _)
    have hfl : rows.flatten.length = len * ks.length := by rw [← a4.len, a5]
    refine ⟨[dS ks.length rows.flatten], ?_, .cons _ _ _ _ (.dSl _ _ _ _ _ _ vs hpos hfl hlc a6 a4 a3) .nil, fun d hd => ?_⟩
    · simp only [HasTL, HasT]
      refine ⟨⟨rows, rfl, by omega, ?_, a2⟩, trivial⟩
      rw [a1]
      refine Nat.le_trans (Nat.mul_le_mul_right _ ?_) hb
      omega
    · obtain rfl := List.mem_singleton.1 hd
      rfl
theorem trod_told : ∀ (d : Nat) (t : TypeId) (ks : List KT) (fuel : Nat) (cs : List Value) (x : DataW H × List MemPlace), kts P d t = some ks → light P t x.1 → DataW.trod enc P w 0 (fun _ => true) true fuel t cs = some x → Told w ks cs := by
  intro d
  induction d with
  | zero => intro t ks fuel cs x h; cases h
  | succ d ih =>
    intro t ks fuel cs x h hwt hx
    unfold kts at h
    generalize hu : P.underlying t = u at h
    match u, h with
    | some .bool, h =>
      obtain rfl := Option.some.inj h
      obtain ⟨b, rfl, _⟩ := DataW.trod_bool hu hx
      exact ⟨[.bool b], by simp only [HasTL, HasT]; exact ⟨⟨rfl, b, rfl⟩, trivial⟩, .cons _ _ _ _ (.scalar _ rfl) .nil, fun d hd => by obtain rfl := List.mem_singleton.1 hd; rfl⟩
    | some (.int k), h =>
      obtain rfl := Option.some.inj h
      obtain ⟨n, rfl, _, hn⟩ := DataW.trod_int hu hx
      exact ⟨[.int k n], by simp only [HasTL, HasT]; exact ⟨⟨rfl, n, rfl, by simpa [Lit.wf, IntKind.has] using hn⟩, trivial⟩, .cons _ _ _ _ (.scalar _ rfl) .nil, fun d hd => by obtain rfl := List.mem_singleton.1 hd; rfl⟩
    | some .string, h =>
      obtain rfl := Option.some.inj h
      obtain ⟨s, rfl, _⟩ := DataW.trod_string hu hx
      exact ⟨[.string s], by simp only [HasTL, HasT]; exact ⟨⟨rfl, s, rfl⟩, trivial⟩, .cons _ _ _ _ (.scalar _ rfl) .nil, fun d hd => by obtain rfl := List.mem_singleton.1 hd; rfl⟩
    | some (.slice e), h =>
      obtain ⟨k1, h1, h2⟩ := Option.bind_eq_some_iff.1 h
      by_cases hc : P.cellsOf e = k1.length ∧ 0 < k1.length
      · rw [if_pos hc] at h2
        obtain rfl := Option.some.inj h2
        rcases DataW.trod_slice hu hx with ⟨rfl, rfl⟩ | ⟨a, len, cap, elems, rest, n, rfl, rfl, rfl, _, hlc, hcm, hel, hge, hr, _⟩
        · refine ⟨[dS k1.length []], by simp only [HasTL, HasT]; exact ⟨⟨[], rfl, Nat.zero_le _, by simp, fun r hr => (by cases hr)⟩, trivial⟩, .cons _ _ _ _ (.dNil _ hc.2) .nil, fun d hd => ?_⟩
          obtain rfl := List.mem_singleton.1 hd
          rfl
        · obtain ⟨hr1, hr2⟩ := hr rfl
          have hwt2 : ((elems.length + rest.length) * P.bytesOf e :: (DataW.weightsAll P e (elems.map (·.1)) ++ DataW.weightsAll P e (rest.map (·.1)))).all (· ≤ reachBytes) = true := by
            have := hwt
            simp only [light, DataW.weights, hu, List.length_map] at this
            exact this
          simp only [List.all_cons, List.all_append, Bool.and_eq_true, decide_eq_true_eq] at hwt2
          refine slice_told hc.1 hc.2 (fun cs x a b => ih e k1 n cs x h1 a b) hlc hcm hel hge hr1 hr2 hwt2.1 (fun i x hi => ?_)
          exact light_all hwt2.2.1 (i := i) (by rw [List.getElem?_map, hi]; rfl)
      · rw [if_neg hc] at h2; cases h2
    | some (.struct fs), h =>
      obtain ⟨k1, h1, h2⟩ := Option.bind_eq_some_iff.1 h
      by_cases hc : P.cellsOf t = k1.length
      · rw [if_pos hc] at h2
        obtain rfl := Option.some.inj h2
        obtain ⟨xs, n, rfl, rfl, hl, hxl, hf⟩ := DataW.trod_struct hu hx
        have hwt2 : (DataW.weightsEach P (fs.toList.map (·.type)) (xs.map (·.1))).all (· ≤ reachBytes) = true := by
          have := hwt
          simp only [light, DataW.weights, hu] at this
          exact this
        have := fldT_told (cs := cs) (xs := xs) (ts := []) (fun t ks cs x a b c => ih t ks n cs x a b c) fs.toList 0 0 k1 h1 (by omega) (by simpa using hxl.symm) (fun i f hf' => by rw [Nat.zero_add]; exact hf i f (by simpa using hf'))
          (fun i f x hf hx => light_each hwt2 (i := i) (by rw [List.getElem?_map, hf]; rfl) (by rw [Nat.zero_add] at hx; rw [List.getElem?_map, hx]; rfl))
        rw [List.drop_zero, ← hc, ← hl, List.take_length] at this
        exact this
      · rw [if_neg hc] at h2; cases h2
    | some (.array n e), h =>
      obtain ⟨k1, h1, h2⟩ := Option.bind_eq_some_iff.1 h
      by_cases hc : P.cellsOf e = k1.length ∧ P.cellsOf t = n * k1.length
      · rw [if_pos hc] at h2
        obtain rfl := Option.some.inj h2
        obtain ⟨xs, m, rfl, rfl, hl, hxl, hf⟩ := DataW.trod_array hu hx
        have hwt2 : (DataW.weightsAll P e (xs.map (·.1))).all (· ≤ reachBytes) = true := by
          have := hwt
          simp only [light, DataW.weights, hu] at this
          exact this
        have key : ∀ r o, o + r = n → Told w (List.replicate r k1).flatten ((cs.drop (o * k1.length)).take (r * k1.length)) := by
          intro r
          induction r with
          | zero => intro o _; simp; exact Told.nil
          | succ r ihr =>
            intro o ho
            have hlt : o < xs.length := by omega
            have e0 := hf o (by omega)
            rw [hc.1, List.getElem?_eq_getElem hlt] at e0
            have a := ih _ _ _ _ _ h1 (light_all hwt2 (i := o) (by rw [List.getElem?_map, List.getElem?_eq_getElem hlt]; rfl)) e0
            have b := ihr (o + 1) (by omega)
            have e : (cs.drop (o * k1.length)).take ((r + 1) * k1.length) = (cs.drop (o * k1.length)).take k1.length ++ (cs.drop ((o + 1) * k1.length)).take (r * k1.length) := by
              rw [Nat.add_mul, Nat.one_mul, Nat.add_comm (r * _), List.take_add, List.drop_drop, Nat.add_mul, Nat.one_mul]
            rw [List.replicate_succ, List.flatten_cons, e]
            exact a.append b
        have := key n 0 (by omega)
        rw [Nat.zero_mul, List.drop_zero, ← hc.2, ← hl, List.take_length] at this
        exact this
      · rw [if_neg hc] at h2; cases h2
theorem agg_told {t : TypeId} {v : Value} {d : DataW H} {ps : List MemPlace} {base dp : Nat} {ks : List KT} (ha : aggP P t = true) (hk : kts P dp t = some ks) (hok : Value.okWide P w .any base t v)
    (h : DataW.Trod enc P w 0 (fun _ => true) true t v d ps) (hl : light P t d) : ∃ ds, HasTL ks ds ∧ DR w (.agg ⟨ds⟩) v := by
  have h2 : ∃ cs, v = .agg cs := by
    unfold Value.okWide at hok
    unfold aggP at ha
    generalize hu : P.underlying t = u at hok ha
    match u, ha, hok with
    | some (.struct _), _, h => exact ⟨_, h.choose_spec.1⟩
    | some (.array _ _), _, h => exact ⟨_, h.choose_spec.1⟩
  obtain ⟨⟨cs⟩, rfl⟩ := h2
  obtain ⟨fuel, hx⟩ := h
  obtain ⟨ds, h1, h2, _⟩ := trod_told dp t ks fuel cs _ hk hl hx
  exact ⟨ds, h1, .agg _ _ h2⟩
theorem sl_told {t : TypeId} {v : Value} {d : DataW H} {ps : List MemPlace} {base dp : Nat} {k : KT} (hs : (∃ e, P.underlying t = some (.slice e))) (hk : kts P dp t = some [k]) (hok : Value.okWide P w .any base t v)
    (h : DataW.Trod enc P w 0 (fun _ => true) true t v d ps) (hl : light P t d) : ∃ u, HasT k u ∧ DR w u v := by
  obtain ⟨e, hu⟩ := hs
  obtain ⟨a, n, c, rfl⟩ := WideShapes.okWide_slice hu hok
  obtain ⟨fuel, hx⟩ := h
  obtain ⟨ds, h1, h2, _⟩ := trod_told dp t [k] fuel _ _ hk hl hx
  have h2' : DRs w ds [.slice a n c] := h2
  cases h2' with
  | cons u _ l _ hu hn =>
    simp only [HasTL] at h1
    exact ⟨u, h1.1, hu⟩
end
end Go.Proofs.Yteljeekapcenlaa.Ev
