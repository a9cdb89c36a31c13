/-
  Ev, part Z: from a contract to a row, where arguments are slices: what a slice of a flat type is in a world, and a memory that holds what it holds. No conditions.
-/
import Derived.Test.YtnkmdjngnmenbaaEvR
import Derived.Test.YtnkmdjngnmenbaaEvY
namespace Go.Proofs.Ytnkmdjngnmenbaa.Ev
open Go Go.RowKit
set_option linter.unusedSimpArgs false

-- ---------------------------------------------------------------- what the cells of a flat type hold

/-- the kinds of the cells of the fields from an offset on -/
def fldK (P : Program) (kd : TypeId → Option (List Kd)) : List Field → Nat → Option (List Kd)
  | [], _ => some []
  | f :: fs, o => (kd f.type).bind fun ks => if f.offset = o ∧ P.cellsOf f.type = ks.length then (fldK P kd fs (o + ks.length)).map (ks ++ ·) else none

/-- the kinds of the cells of a flat type -/
def kds (P : Program) : Nat → TypeId → Option (List Kd)
  | 0, _ => none
  | d + 1, t => match P.underlying t with
    | some .bool => some [.bool]
    | some (.int k) => some [.int k]
    | some .string => some [.str]
    | some (.struct fs) => (fldK P (kds P d) fs.toList 0).bind fun ks => if P.cellsOf t = ks.length then some ks else none
    | some (.array n e) => (kds P d e).bind fun ks => if P.cellsOf e = ks.length ∧ P.cellsOf t = n * ks.length then some (List.replicate n ks).flatten else none
    | _ => none

theorem HasL.append {ks1 ks2 : List Kd} {cs1 cs2 : List Value} (h1 : HasL ks1 cs1) (h2 : HasL ks2 cs2) : HasL (ks1 ++ ks2) (cs1 ++ cs2) := by
  induction ks1 generalizing cs1 with
  | nil => obtain rfl := h1.nil; exact h2
  | cons k ks ih =>
    cases cs1 with
    | nil => cases h1
    | cons c cs => exact ⟨h1.1, ih h1.2⟩

theorem HasL.len {ks : List Kd} {cs : List Value} (h : HasL ks cs) : cs.length = ks.length := by
  induction ks generalizing cs with
  | nil => obtain rfl := h.nil; rfl
  | cons k ks ih =>
    cases cs with
    | nil => cases h
    | cons c cs => simp [ih h.2]

variable {H : Type} {enc : TypeId × Value → H} {P : Program} {w : World} {base : Nat} {sp : Nat → Bool} {held : Bool}

theorem fldK_has {kd : TypeId → Option (List Kd)} {n : Nat} {cs : List Value} {xs : List (DataW H × List MemPlace)}
    (ih : ∀ t ks cs x, kd t = some ks → DataW.trod enc P w base sp held n t cs = some x → HasL ks cs) :
    ∀ (fs : List Field) (o m : Nat) (ks : List Kd), fldK P kd fs o = some ks → o + ks.length ≤ cs.length → m + fs.length = xs.length →
    (∀ (i : Nat) (f : Field), fs[i]? = some f → DataW.trod enc P w base sp held n f.type ((cs.drop f.offset).take (P.cellsOf f.type)) = xs[m + i]?) → HasL ks ((cs.drop o).take ks.length) := by
  intro fs
  induction fs with
  | nil => intro o m ks h hl hm hx; obtain rfl := Option.some.inj h; exact trivial
  | cons f fs ihs =>
    intro o m ks h hl hm hx
    obtain ⟨k1, h1, h2⟩ := Option.bind_eq_some_iff.1 h
    by_cases hc : f.offset = o ∧ P.cellsOf f.type = k1.length
    · rw [if_pos hc] at h2
      obtain ⟨k2, h3, rfl⟩ := Option.map_eq_some_iff.1 h2
      rw [List.length_append] at hl
      have hlt : m < xs.length := by simp only [List.length_cons] at hm; omega
      have e0 := hx 0 f rfl
      rw [hc.1, hc.2, Nat.add_zero, List.getElem?_eq_getElem hlt] at e0
      have a := ih _ _ _ _ h1 e0
      have b := ihs (o + k1.length) (m + 1) k2 h3 (by omega) (by simp only [List.length_cons] at hm; omega) (fun i f' hf => by have := hx (i + 1) f' hf; rw [this]; congr 1; omega)
      have e : (cs.drop o).take (k1 ++ k2).length = (cs.drop o).take k1.length ++ (cs.drop (o + k1.length)).take k2.length := by
        rw [List.length_append, List.take_add, List.drop_drop]
      rw [e]; exact a.append b
    · rw [if_neg hc] at h2; cases h2

theorem kds_has : ∀ (d : Nat) (t : TypeId) (ks : List Kd) (fuel : Nat) (cs : List Value) (x : DataW H × List MemPlace), kds P d t = some ks → DataW.trod enc P w base sp held fuel t cs = some x → HasL ks cs := by
  intro d
  induction d with
  | zero => intro t ks fuel cs x h; cases h
  | succ d ih =>
    intro t ks fuel cs x h hx
    unfold kds at h
    generalize hu : P.underlying t = u at h
    match u, h with
    | some .bool, h =>
      obtain rfl := Option.some.inj h
      obtain ⟨b, rfl, _⟩ := DataW.trod_bool hu hx
      exact ⟨⟨b, rfl⟩, trivial⟩
    | some (.int k), h =>
      obtain rfl := Option.some.inj h
      obtain ⟨n, rfl, _, hn⟩ := DataW.trod_int hu hx
      exact ⟨⟨n, rfl, by simpa [Lit.wf, IntKind.has] using hn⟩, trivial⟩
    | some .string, h =>
      obtain rfl := Option.some.inj h
      obtain ⟨s, rfl, _⟩ := DataW.trod_string hu hx
      exact ⟨⟨s, rfl⟩, trivial⟩
    | some (.struct fs), h =>
      obtain ⟨k1, h1, h2⟩ := Option.bind_eq_some_iff.1 h
      by_cases hc : P.cellsOf t = k1.length
      · rw [if_pos hc] at h2
        obtain rfl := Option.some.inj h2
        obtain ⟨xs, n, rfl, _, hl, hxl, hf⟩ := DataW.trod_struct hu hx
        have := fldK_has (cs := cs) (xs := xs) (fun t ks cs x a b => ih t ks n cs x a b) fs.toList 0 0 k1 h1 (by omega) (by simpa using hxl.symm) (fun i f hf' => by rw [Nat.zero_add]; exact hf i f (by simpa using hf'))
        rw [List.drop_zero, ← hc, ← hl, List.take_length] at this
        exact this
      · rw [if_neg hc] at h2; cases h2
    | some (.array n e), h =>
      obtain ⟨k1, h1, h2⟩ := Option.bind_eq_some_iff.1 h
      by_cases hc : P.cellsOf e = k1.length ∧ P.cellsOf t = n * k1.length
      · rw [if_pos hc] at h2
        obtain rfl := Option.some.inj h2
        obtain ⟨xs, m, rfl, _, hl, hxl, hf⟩ := DataW.trod_array hu hx
        have key : ∀ r o, o + r = n → HasL (List.replicate r k1).flatten ((cs.drop (o * k1.length)).take (r * k1.length)) := by
          intro r
          induction r with
          | zero => intro o _; simp; exact trivial
          | succ r ihr =>
            intro o ho
            have e0 := hf o (by omega)
            rw [hc.1, List.getElem?_eq_getElem (by omega)] at e0
            have a := ih _ _ _ _ _ h1 e0
            have b := ihr (o + 1) (by omega)
            have e : (cs.drop (o * k1.length)).take ((r + 1) * k1.length) = (cs.drop (o * k1.length)).take k1.length ++ (cs.drop ((o + 1) * k1.length)).take (r * k1.length) := by
              rw [Nat.add_mul, Nat.one_mul, Nat.add_comm (r * _), List.take_add, List.drop_drop, Nat.add_mul, Nat.one_mul]
            rw [List.replicate_succ, List.flatten_cons, e]
            exact a.append b
        have := key n 0 (by omega)
        rw [Nat.zero_mul, List.drop_zero, ← hc.2, ← hl, List.take_length] at this
        exact this
      · rw [if_neg hc] at h2; cases h2


-- ---------------------------------------------------------------- a slice of a flat type in a world

theorem cells_get {a : Addr} {n : Nat} {cs : List Value} (h : w.cells? 0 a n = some cs) : cs.length = n ∧ ∀ i, i < n → w.cell? (a.add i) = cs[i]? := by
  unfold World.cells? at h
  rw [if_pos (Nat.zero_le _)] at h
  exact ⟨by simpa using mapM_some_length h, fun i hi => mapM_some_get h i i (by simp [hi])⟩

theorem list_eq_take {α : Type} {l m : List α} (hl : ∀ i, i < m.length → l[i]? = m[i]?) : l.take m.length = m := by
  apply List.ext_getElem?
  intro i
  rw [List.getElem?_take]
  by_cases h : i < m.length
  · rw [if_pos h, hl i h]
  · rw [if_neg h, List.getElem?_eq_none (by omega)]

theorem rows_take {l : List Value} {n : Nat} : ∀ (rows : List (List Value)) (o : Nat), (∀ i r, rows[i]? = some r → r.length = n ∧ ∀ j, j < n → l[o + i * n + j]? = r[j]?) → (l.drop o).take (rows.length * n) = rows.flatten := by
  intro rows
  induction rows with
  | nil => intro o _; simp
  | cons r rs ih =>
    intro o h
    obtain ⟨hl, h0⟩ := h 0 r rfl
    have e := ih (o + n) (fun i r' hr => by
      obtain ⟨a, b⟩ := h (i + 1) r' hr
      refine ⟨a, fun j hj => ?_⟩
      rw [← b j hj]; congr 1; rw [Nat.add_mul]; omega)
    have a : (l.drop o).take n = r := by
      have := list_eq_take (l := l.drop o) (m := r) (fun i hi => by
        rw [List.getElem?_drop]
        have := h0 i (by omega)
        rw [Nat.zero_mul, Nat.add_zero] at this
        exact this)
      rw [hl] at this; exact this
    rw [List.length_cons, List.flatten_cons, Nat.add_mul, Nat.one_mul, Nat.add_comm (rs.length * n), List.take_add, List.drop_drop, a, e]

/-- A slice whose elements are flat: nil, without elements, or a place in a block that holds them. -/
theorem slice_of_trod {t e : TypeId} {v : Value} {d : DataW H} {ps : List MemPlace} {ks : List Kd} {dp : Nat} (ht : P.underlying t = some (.slice e)) (hk : kds P dp e = some ks) (hc : P.cellsOf e = ks.length) (hpos : 0 < ks.length)
    (hok : Value.okWide P w .any base t v) (h : DataW.Trod enc P w 0 (fun _ => true) true t v d ps) :
    v = .slice none 0 0 ∨ (∃ b o cap, v = .slice (some ⟨b, o, none⟩) 0 cap) ∨
    ∃ (b o cap : Nat) (ty : TypeId) (fz : Nat × Nat) (pre post : List Value) (rows : List (List Value)),
      v = .slice (some ⟨b, o, none⟩) rows.length cap ∧ rows ≠ [] ∧ rows.length ≤ cap ∧ cap ≤ maxLen ∧ (∀ r ∈ rows, HasL ks r) ∧ pre.length = o ∧ w.heap[b]? = some (.cells ⟨pre ++ rows.flatten ++ post⟩ ty fz) := by
  obtain ⟨a0, len0, cap0, rfl⟩ := WideShapes.okWide_slice ht hok
  obtain ⟨fuel, hx⟩ := h
  rcases DataW.trod_slice ht hx with ⟨hcs, _⟩ | ⟨a, len, cap, elems, rest, n, _, hcs, _, _, hlc, hcm, hel, hge, _, _⟩
  · have e : [Value.slice a0 len0 cap0] = [.slice none 0 0] := hcs
    exact .inl (by simpa using e)
  · have e : [Value.slice a0 len0 cap0] = [.slice (some a) len cap] := hcs
    have e2 : Value.slice a0 len0 cap0 = .slice (some a) len cap := by simpa using e
    obtain ⟨rfl, rfl, rfl⟩ := Value.slice.inj e2
    have hs : a.spot = none := by
      unfold Value.okWide at hok
      rw [ht] at hok
      unfold Cell.okWide at hok
      rw [ht] at hok
      have hok : Cell.ok P w .any base t (.slice (some a) len0 cap0) := hok
      unfold Cell.ok at hok
      rw [ht] at hok
      exact hok.2.2.2.1
    obtain ⟨b, o, sp⟩ := a
    obtain rfl : sp = none := hs
    by_cases h0 : len0 = 0
    · subst h0; exact .inr (.inl ⟨b, o, cap0, rfl⟩)
    · have hrow : ∀ i, i < len0 → ∃ r, HasL ks r ∧ ∀ j, j < ks.length → w.cell? ⟨b, o + i * ks.length + j, none⟩ = r[j]? := by
        intro i hi
        have e := hge i hi
        rw [List.getElem?_eq_getElem (by omega)] at e
        obtain ⟨r, h1, h2⟩ := Option.bind_eq_some_iff.1 e
        have h3 := kds_has dp _ _ _ _ _ hk h2
        refine ⟨r, h3, fun j hj => ?_⟩
        have h4 := (cells_get h1).2 j (by rw [hc]; exact hj)
        rw [← h4, hc]
        congr 1
        unfold Addr.add
        by_cases hi0 : i * ks.length = 0 <;> by_cases hj0 : j = 0 <;> simp [hi0, hj0]
      have hrows : ∃ rows : List (List Value), rows.length = len0 ∧ ∀ i r, rows[i]? = some r → HasL ks r ∧ ∀ j, j < ks.length → w.cell? ⟨b, o + i * ks.length + j, none⟩ = r[j]? := by
        have key : ∀ m, m ≤ len0 → ∃ rows : List (List Value), rows.length = m ∧ ∀ i r, rows[i]? = some r → HasL ks r ∧ ∀ j, j < ks.length → w.cell? ⟨b, o + i * ks.length + j, none⟩ = r[j]? := by
          intro m
          induction m with
          | zero => intro _; exact ⟨[], rfl, fun i r h => by simp at h⟩
          | succ m ih =>
            intro hm
            obtain ⟨rows, hl, hr⟩ := ih (by omega)
            obtain ⟨r, h1, h2⟩ := hrow m (by omega)
            refine ⟨rows ++ [r], by simp [hl], fun i r' hi => ?_⟩
            by_cases hlt : i < rows.length
            · rw [List.getElem?_append_left hlt] at hi; exact hr i r' hi
            · rw [List.getElem?_append_right (by omega)] at hi
              have : i - rows.length = 0 := by
                by_cases hz : i - rows.length = 0
                · exact hz
                · rw [List.getElem?_eq_none (by simp; omega)] at hi; cases hi
              rw [this] at hi
              obtain rfl : r = r' := by simpa using hi
              obtain rfl : i = m := by omega
              exact ⟨h1, h2⟩
        exact key len0 (Nat.le_refl _)
      obtain ⟨rows, hl, hr⟩ := hrows
      have hne : rows ≠ [] := fun h => by subst h; simp at hl; omega
      obtain ⟨c, ty, fz, hb, hcell⟩ : ∃ c ty fz, w.heap[b]? = some (.cells c ty fz) ∧ ∀ q, w.cell? ⟨b, q, none⟩ = c[q]? := by
        obtain ⟨r, h1, h2⟩ := hrow 0 (by omega)
        have h3 := h2 0 hpos
        have hlr := h1.len
        rw [List.getElem?_eq_getElem (by omega)] at h3
        unfold World.cell? at h3
        dsimp only at h3
        generalize hbb : w.heap[b]? = ob at h3
        match ob, h3 with
        | some (.cells c ty fz), h3 => exact ⟨c, ty, fz, rfl, fun q => by unfold World.cell?; dsimp only; rw [hbb]; rfl⟩
      have ht2 := rows_take (l := c.toList) (n := ks.length) rows o (fun i r hi => by
        obtain ⟨h1, h2⟩ := hr i r hi
        refine ⟨h1.len, fun j hj => ?_⟩
        rw [← h2 j hj, hcell]; simp)
      have hbig : o < c.toList.length := by
        obtain ⟨r, h1, h2⟩ := hrow 0 (by omega)
        have h3 := h2 0 hpos
        have hlr := h1.len
        rw [List.getElem?_eq_getElem (by omega), hcell] at h3
        have := (Array.getElem?_eq_some_iff.1 h3).1
        simp at this ⊢; omega
      refine .inr (.inr ⟨b, o, cap0, ty, fz, c.toList.take o, (c.toList.drop o).drop (rows.length * ks.length), rows, by rw [hl], hne, by rw [hl]; exact hlc, hcm, fun r hm => ?_, by rw [List.length_take]; omega, ?_⟩)
      · obtain ⟨i, hi⟩ := List.getElem?_of_mem hm
        exact (hr i r hi).1
      · rw [← ht2, List.append_assoc, List.take_append_drop, List.take_append_drop]; exact hb

-- ---------------------------------------------------------------- a memory that holds what arguments hold

/-- where an argument's elements lie, and what they are -/
structure Arg where
  blk : Nat
  off : Nat
  cells : List Value

def argH (as : List (Option Arg)) : AH := ⟨as.map fun a => match a with | some a => .cells a.cells | none => .dead, as.length, []⟩
def argI (as : List (Option Arg)) : Emb := ⟨fun i => (as[i]?).bind fun a => a.map fun a => ⟨a.blk, a.off, 0⟩, fun _ _ _ => False, fun _ _ _ => False⟩

def ArgOk (w : World) (a : Arg) : Prop := a.cells.all plain = true ∧ ∃ (ty : TypeId) (fz : Nat × Nat) (pre post : List Value), w.heap[a.blk]? = some (.cells ⟨pre ++ a.cells ++ post⟩ ty fz) ∧ pre.length = a.off

theorem argHR {as : List (Option Arg)} (h : ∀ a, some a ∈ as → ArgOk w a) : HR w.heap.size (argI as) (argH as) w := by
  have key : ∀ b j, argI as b = some j → ∃ a, as[b]? = some (some a) ∧ j = ⟨a.blk, a.off, 0⟩ ∧ b < as.length := by
    intro b j hj
    obtain ⟨a, h1, h2⟩ := Option.bind_eq_some_iff.1 hj
    obtain ⟨a', rfl, rfl⟩ := Option.map_eq_some_iff.1 h2
    exact ⟨a', h1, rfl, (List.getElem?_eq_some_iff.1 h1).1⟩
  refine ⟨fun b j hj => ?_, fun b j hj hf => ?_, fun b b' j j' hj _ _ hf => ?_, Nat.le_refl _, fun _ _ _ h => h.elim⟩
  · obtain ⟨a, h1, rfl, hlt⟩ := key b j hj
    obtain ⟨hp, ty, fz, pre, post, h2, h3⟩ := h a (List.mem_of_getElem? h1)
    refine ⟨.cells a.cells, by simp [argH, h1], pre, a.cells, post, ty, fz, h2, h3, plains_refl _ hp, fun hw => ?_⟩
    have : as.length ≤ b := of_decide_eq_true hw
    omega
  · obtain ⟨a, _, _, hlt⟩ := key b j hj
    have : as.length ≤ b := hf
    omega
  · obtain ⟨a, _, _, hlt⟩ := key b j hj
    have : as.length ≤ b := hf
    omega

/-- A call of arguments some of which are slices, of whatever world that holds them. -/
theorem calls_of_good_at {f : FuncId} {vs vs' : List Value} {as : List (Option Arg)} {v : Value} {H' : AH} (h : Good P f vs (argH as) (v, H')) (ha : ∀ a, some a ∈ as → ArgOk w a) (hv : VRs (argI as) vs vs') (hp : plain7 v = true) :
    Calls P f ⟨vs'⟩ w fun e w' => e = .returned v ∧ Below w.heap.size w w' := by
  refine (h.2 w.heap.size (argI as) w vs' (argHR ha) hv).mono fun e w' he => ?_
  obtain ⟨ι', v', rfl, _, _, x3, x4⟩ := he
  rw [plain7_eq hp x3]
  exact ⟨rfl, x4⟩

theorem HasL.plain {ks : List Kd} {cs : List Value} (h : HasL ks cs) (hf : ks.all Kd.flat = true) : cs.all plain = true := by
  induction ks generalizing cs with
  | nil => obtain rfl := h.nil; rfl
  | cons k ks ih =>
    cases cs with
    | nil => cases h
    | cons c cs =>
      simp only [List.all_cons, Bool.and_eq_true] at hf ⊢
      refine ⟨?_, ih h.2 hf.2⟩
      have hk := h.1
      have hk2 := hf.1
      cases k with
      | bool => obtain ⟨b, rfl⟩ := hk; rfl
      | int k => obtain ⟨n, rfl, _⟩ := hk; rfl
      | str => obtain ⟨b, rfl⟩ := hk; rfl
      | _ => cases hk2

end Go.Proofs.Ytnkmdjngnmenbaa.Ev
