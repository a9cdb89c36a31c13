/-
  Ev, part G: the memory's relation, and what loads, stores and new blocks do to it. No conditions.
-/
import Derived.Test.YteljeekapcenlaaEvF
import Derived.Laws.IdiomCopy
namespace Go.Proofs.Yteljeekapcenlaa.Ev
open Go Go.RowKit
def MRs (ι : Emb) : List (Value × Value) → List MapEntry → Prop
  | [], [] => True
  | (k, v) :: es, e :: es' => VR ι k e.key ∧ VR ι v e.val ∧ MRs ι es es'
  | _, _ => False
theorem MRs.mono {ι ι' : Emb} (hi : ι.le ι') : ∀ {es : List (Value × Value)} {es' : List MapEntry}, MRs ι es es' → MRs ι' es es' := by
  intro es
  induction es with
  | nil => intro es' h; cases es' <;> simp_all [MRs]
  | cons e es ih =>
    intro es' h
    cases es' with
    | nil => simp [MRs] at h
    | cons e' es' => obtain ⟨k, v⟩ := e; exact ⟨h.1.mono hi, h.2.1.mono hi, ih h.2.2⟩
def MRp (ι : Emb) (es : List (Value × Value)) (es' : List MapEntry) : Prop := ∃ l, l.Perm es' ∧ MRs ι es l
theorem MRp.mono {ι ι' : Emb} (hi : ι.le ι') {es : List (Value × Value)} {es' : List MapEntry} (h : MRp ι es es') : MRp ι' es es' := by
  obtain ⟨l, h1, h2⟩ := h
  exact ⟨l, h1, h2.mono hi⟩
theorem MRp.nil (ι : Emb) : MRp ι [] [] := ⟨[], .refl _, trivial⟩
def BR (ι : Emb) (w : World) (wr : Bool) (j : Inj) : Blk → Prop
  | .cells c => ∃ (pre mid post : List Value) (e : TypeId) (fz : Nat × Nat), w.heap[j.blk]? = some (.cells ⟨pre ++ mid ++ post⟩ e fz) ∧ pre.length = j.sh ∧ VRs ι c mid ∧
      (wr = true → post.length = j.ex ∧ fz = (0, 0))
  | .map es => ∃ (es' : Array MapEntry) (cl : Nat), w.heap[j.blk]? = some (.map es' cl) ∧ MRp ι es es'.toList ∧ (es.map (·.1)).Nodup
  | .dead => True
  | .bld c => (∃ (pre mid post : List Value) (e : TypeId) (fz : Nat × Nat), w.heap[j.blk]? = some (.cells ⟨pre ++ mid ++ post⟩ e fz) ∧ pre.length = j.sh ∧ VRs ι c mid ∧
      (wr = true → post.length = j.ex ∧ fz = (0, 0))) ∧ ∀ d ∈ c, cellOk d = true
def live (H : AH) (b : Nat) : Prop := H.bs[b]? ≠ some .dead
structure HR (B : Nat) (ι : Emb) (H : AH) (w : World) : Prop where
  blk : ∀ b j, ι b = some j → ∃ x, H.bs[b]? = some x ∧ BR ι w (decide (H.floor ≤ b)) j x
  base : ∀ b j, ι b = some j → H.floor ≤ b → live H b → B ≤ j.blk
  inj : ∀ b b' j j', ι b = some j → ι b' = some j' → b ≠ b' → H.floor ≤ b → live H b → live H b' → j.blk ≠ j'.blk
  size : B ≤ w.heap.size
  fz : ∀ r i d, ι.fz r i d → (∃ v', w.cell? ⟨r, i, none⟩ = some v' ∧ VR ι d v') ∧ (∀ b j, ι b = some j → H.floor ≤ b → live H b → j.blk ≠ r) ∧ (ι.S r i d ∨ B ≤ r) ∧ cellOk d = true
theorem HR.dom {B : Nat} {ι : Emb} {H : AH} {w : World} (h : HR B ι H w) {b : Nat} {j : Inj} (hj : ι b = some j) : b < H.bs.length := by
  obtain ⟨x, hx, _⟩ := h.blk b j hj
  exact (List.getElem?_eq_some_iff.1 hx).1
theorem BR.lt {ι : Emb} {w : World} {wr : Bool} {j : Inj} {x : Blk} (h : BR ι w wr j x) (hx : x ≠ .dead) : j.blk < w.heap.size := by
  cases x with
  | cells c => obtain ⟨pre, mid, post, e, fz, h1, _⟩ := h; exact (Array.getElem?_eq_some_iff.1 h1).1
  | map es => obtain ⟨es', cl, h1, _⟩ := h; exact (Array.getElem?_eq_some_iff.1 h1).1
  | dead => exact absurd rfl hx
  | bld c => obtain ⟨⟨pre, mid, post, e, fz, h1, _⟩, _⟩ := h; exact (Array.getElem?_eq_some_iff.1 h1).1
theorem cell_lt {w : World} {r i : Nat} {v : Value} (h : w.cell? ⟨r, i, none⟩ = some v) : r < w.heap.size := by
  unfold World.cell? at h
  dsimp only at h
  cases hb : w.heap[r]? with
  | none => rw [hb] at h; cases h
  | some x => exact (Array.getElem?_eq_some_iff.1 hb).1
theorem cell_same {w w' : World} {r i : Nat} (h : w'.heap[r]? = w.heap[r]?) : w'.cell? ⟨r, i, none⟩ = w.cell? ⟨r, i, none⟩ := by
  unfold World.cell?
  dsimp only
  rw [h]
theorem HR.fz_world {B : Nat} {ι : Emb} {H : AH} {w w' : World} (h : HR B ι H w) (hw : ∀ r i d, ι.fz r i d → r < w.heap.size → w'.heap[r]? = w.heap[r]?) {r i : Nat} {d : Value} (hd : ι.fz r i d) : ∃ v', w'.cell? ⟨r, i, none⟩ = some v' ∧ VR ι d v' := by
  obtain ⟨⟨v', h1, h2⟩, _⟩ := h.fz r i d hd
  exact ⟨v', by rw [cell_same (hw r i d hd (cell_lt h1))]; exact h1, h2⟩
theorem HR.fz_lt {B : Nat} {ι : Emb} {H : AH} {w : World} (h : HR B ι H w) {r i : Nat} {d : Value} (hd : ι.fz r i d) : r < w.heap.size := by
  obtain ⟨⟨v', h1, h2⟩, _⟩ := h.fz r i d hd
  exact cell_lt h1
theorem BR.world {ι : Emb} {w w' : World} {wr : Bool} {j : Inj} {x : Blk} (h : BR ι w wr j x) (hw : x ≠ .dead → w'.heap[j.blk]? = w.heap[j.blk]?) : BR ι w' wr j x := by
  cases x with
  | cells c => obtain ⟨pre, mid, post, e, fz, h1, h2⟩ := h; exact ⟨pre, mid, post, e, fz, by rw [hw (by simp), h1], h2⟩
  | map es => obtain ⟨es', cl, h1, h2⟩ := h; exact ⟨es', cl, by rw [hw (by simp), h1], h2⟩
  | dead => trivial
  | bld c => obtain ⟨⟨pre, mid, post, e, fz, h1, h2⟩, h5⟩ := h; exact ⟨⟨pre, mid, post, e, fz, by rw [hw (by simp), h1], h2⟩, h5⟩
theorem BR.emb {ι ι' : Emb} {w : World} {wr : Bool} {j : Inj} {x : Blk} (h : BR ι w wr j x) (hi : ι.le ι') : BR ι' w wr j x := by
  cases x with
  | cells c => obtain ⟨pre, mid, post, e, fz, h1, h2, h3, h4⟩ := h; exact ⟨pre, mid, post, e, fz, h1, h2, h3.mono hi, h4⟩
  | map es => obtain ⟨es', cl, h1, h2, h3⟩ := h; exact ⟨es', cl, h1, h2.mono hi, h3⟩
  | dead => trivial
  | bld c => obtain ⟨⟨pre, mid, post, e, fz, h1, h2, h3, h4⟩, h5⟩ := h; exact ⟨⟨pre, mid, post, e, fz, h1, h2, h3.mono hi, h4⟩, h5⟩
theorem BR.wr {ι : Emb} {w : World} {wr wr' : Bool} {j : Inj} {x : Blk} (h : BR ι w wr j x) (hw : wr' = true → wr = true) : BR ι w wr' j x := by
  cases x with
  | cells c => obtain ⟨pre, mid, post, e, fz, h1, h2, h3, h4⟩ := h; exact ⟨pre, mid, post, e, fz, h1, h2, h3, fun hh => h4 (hw hh)⟩
  | map es => exact h
  | dead => trivial
  | bld c => obtain ⟨⟨pre, mid, post, e, fz, h1, h2, h3, h4⟩, h5⟩ := h; exact ⟨⟨pre, mid, post, e, fz, h1, h2, h3, fun hh => h4 (hw hh)⟩, h5⟩
theorem HR.world {B B' : Nat} {ι : Emb} {H : AH} {w w' : World} (h : HR B ι H w) (hb : Below B' w w') (hB : B ≤ w.heap.size) (hl : ∀ b j, ι b = some j → live H b → j.blk < B' ) (hf : ∀ r i d, ι.fz r i d → r < B') : HR B ι H w' := by
  refine ⟨fun b j hj => ?_, h.base, h.inj, Nat.le_trans hB hb.size, fun r i d hd => ⟨h.fz_world (fun r i d hd _ => hb.block _ (hf r i d hd)) hd, (h.fz r i d hd).2⟩⟩
  obtain ⟨x, hx, hbr⟩ := h.blk b j hj
  refine ⟨x, hx, hbr.world fun hd => hb.block _ (hl b j hj ?_)⟩
  unfold live; rw [hx]; simpa using hd
theorem HR.lt {B : Nat} {ι : Emb} {H : AH} {w : World} (h : HR B ι H w) {b : Nat} {j : Inj} (hj : ι b = some j) (hl : live H b) : j.blk < w.heap.size := by
  obtain ⟨x, hx, hbr⟩ := h.blk b j hj
  exact hbr.lt (by unfold live at hl; rw [hx] at hl; simpa using hl)
def Emb.all (ι : Emb) : Emb := ⟨ι.m, ι.fz, ι.fz⟩
mutual
theorem VR.all {ι ι' : Emb} (h1 : ι'.m = ι.m) (h2 : ι'.fz = ι.fz) {v v' : Value} : VR ι v v' → VR ι' v v'
  | .bool b => .bool b
  | .int k n => .int k n
  | .float k n => .float k n
  | .complex k n m => .complex k n m
  | .string s => .string s
  | .nilFunc => .nilFunc
  | .nilIface => .nilIface
  | .ptrNil => .ptrNil
  | .ptr b o j h => .ptr b o j (by rw [h1]; exact h)
  | .sliceNil => .sliceNil
  | .slice b o l k j h => .slice b o l k j (by rw [h1]; exact h)
  | .sliceX b o l k k' sz j h hz hk hx => .sliceX b o l k k' sz j (by rw [h1]; exact h) hz hk hx
  | .sliceE b a' o' k' => .sliceE b a' o' k'
  | .dSl sz cs n cap r o hz hl hc h => .dSl sz cs n cap r o hz hl hc (fun i d hd => by rw [h2]; exact h i d hd)
  | .dNil sz hz => .dNil sz hz
  | .dSe sz a hz => .dSe sz a hz
  | .dPt off cs r o h => .dPt off cs r o (fun i d hd => by rw [h2]; exact h i d hd)
  | .dBl sz b n k' j h hz hk hx => .dBl sz b n k' j (by rw [h1]; exact h) hz hk hx
  | .dBn sz b hz => .dBn sz b hz
  | .dBe sz b a hz => .dBe sz b a hz
  | .dEn sz hz => .dEn sz hz
  | .dEe sz a hz => .dEe sz a hz
  | .mapNil => .mapNil
  | .map r j h => .map r j (by rw [h1]; exact h)
  | .chanNil => .chanNil
  | .func fn f f' c c' hf hc => .func fn f f' c c' (hf.all h1 h2) (hc.all h1 h2)
  | .iface t v v' h => .iface t v v' (h.all h1 h2)
  | .agg c c' h => .agg c c' (h.all h1 h2)
  | .tuple c c' h => .tuple c c' (h.all h1 h2)
theorem VRs.all {ι ι' : Emb} (h1 : ι'.m = ι.m) (h2 : ι'.fz = ι.fz) {l l' : List Value} : VRs ι l l' → VRs ι' l l'
  | .nil => .nil
  | .cons v v' l l' h hs => .cons v v' l l' (h.all h1 h2) (hs.all h1 h2)
end
theorem MRs.all {ι ι' : Emb} (h1 : ι'.m = ι.m) (h2 : ι'.fz = ι.fz) : ∀ {es : List (Value × Value)} {es' : List MapEntry}, MRs ι es es' → MRs ι' es es' := by
  intro es
  induction es with
  | nil => intro es' h; cases es' <;> simp_all [MRs]
  | cons e es ih =>
    intro es' h
    cases es' with
    | nil => simp [MRs] at h
    | cons e' es' => obtain ⟨k, v⟩ := e; exact ⟨h.1.all h1 h2, h.2.1.all h1 h2, ih h.2.2⟩
theorem BR.all {ι ι' : Emb} (h1 : ι'.m = ι.m) (h2 : ι'.fz = ι.fz) {w : World} {wr : Bool} {j : Inj} {x : Blk} (h : BR ι w wr j x) : BR ι' w wr j x := by
  cases x with
  | cells c => obtain ⟨pre, mid, post, e, fz, g1, g2, g3, g4⟩ := h; exact ⟨pre, mid, post, e, fz, g1, g2, g3.all h1 h2, g4⟩
  | map es => obtain ⟨es', cl, g1, ⟨l, g2, g4⟩, g3⟩ := h; exact ⟨es', cl, g1, ⟨l, g2, g4.all h1 h2⟩, g3⟩
  | dead => trivial
  | bld c => obtain ⟨⟨pre, mid, post, e, fz, g1, g2, g3, g4⟩, g5⟩ := h; exact ⟨⟨pre, mid, post, e, fz, g1, g2, g3.all h1 h2, g4⟩, g5⟩
theorem HR.raise {B : Nat} {ι : Emb} {H : AH} {w : World} (h : HR B ι H w) : HR w.heap.size ι.all ⟨H.bs, H.len, []⟩ w := by
  refine ⟨fun b j hj => ?_, fun b j hj hf hl => ?_, fun b b' j j' hj hj' hne hf hl hl' => ?_, Nat.le_refl _, fun r i d hd => ⟨?_, fun b j hj hf hl => ?_, .inl hd, (h.fz r i d hd).2.2.2⟩⟩
  · obtain ⟨x, hx, hbr⟩ := h.blk b j hj
    have hlt := h.dom hj
    refine ⟨x, hx, BR.all (ι := ι) (ι' := ι.all) rfl rfl (hbr.wr fun hh => ?_)⟩
    have hh' : H.bs.length ≤ b := of_decide_eq_true hh
    omega
  · have := h.dom hj; simp [AH.len] at hf; omega
  · have := h.dom hj; simp [AH.len] at hf; omega
  · obtain ⟨v', h1, h2⟩ := (h.fz r i d hd).1
    exact ⟨v', h1, VR.all (ι := ι) (ι' := ι.all) rfl rfl h2⟩
  · have := h.dom hj; simp [AH.len] at hf; omega
theorem HR.empty (w : World) : HR w.heap.size Emb.nil ⟨[], 0, []⟩ w :=
  ⟨fun _ _ h => (by cases h), fun _ _ h => (by cases h), fun _ _ _ _ h => (by cases h), Nat.le_refl _, fun _ _ _ h => h.elim⟩
theorem HR.locks {B : Nat} {ι : Emb} {H : AH} {w : World} (h : HR B ι H w) (l : List Nat) : HR B ι ⟨H.bs, H.floor, l⟩ w := ⟨h.blk, h.base, h.inj, h.size, h.fz⟩
theorem row_some {H : AH} {b : Nat} {c : List Value} (h : H.row b = some c) : H.bs[b]? = some (.cells c) := by
  unfold AH.row at h
  rw [getL_eq] at h
  cases hb : H.bs[b]? with
  | none => rw [hb] at h; simp at h
  | some x => rw [hb] at h; cases x <;> simp at h; subst h; rfl
theorem mapAt_some {H : AH} {b : Nat} {c : List (Value × Value)} (h : H.mapAt b = some c) : H.bs[b]? = some (.map c) := by
  unfold AH.mapAt at h
  rw [getL_eq] at h
  cases hb : H.bs[b]? with
  | none => rw [hb] at h; simp at h
  | some x => rw [hb] at h; cases x <;> simp at h; subst h; rfl
theorem HR.row {B : Nat} {ι : Emb} {H : AH} {w : World} (h : HR B ι H w) {b : Nat} {j : Inj} (hj : ι b = some j) {c : List Value} (hr : H.bs[b]? = some (.cells c)) :
    ∃ (pre mid post : List Value) (e : TypeId) (fz : Nat × Nat), w.heap[j.blk]? = some (.cells ⟨pre ++ mid ++ post⟩ e fz) ∧ pre.length = j.sh ∧ VRs ι c mid ∧ (H.floor ≤ b → post.length = j.ex ∧ fz = (0, 0)) := by
  obtain ⟨x, hx, hbr⟩ := h.blk b j hj
  rw [hr] at hx
  simp at hx
  subst hx
  obtain ⟨pre, mid, post, e, fz, h1, h2, h3, h4⟩ := hbr
  exact ⟨pre, mid, post, e, fz, h1, h2, h3, fun hf => h4 (by simpa using hf)⟩
theorem addE (c o n : Nat) : (⟨c, o, none⟩ : Addr).add n = ⟨c, o + n, none⟩ := by unfold Addr.add; split <;> simp_all
theorem cell_mid {w : World} {g : Nat} {pre mid post : List Value} {e : TypeId} {fz : Nat × Nat} (h : w.heap[g]? = some (.cells ⟨pre ++ mid ++ post⟩ e fz)) (o : Nat) {v : Value} (hv : mid[o]? = some v) :
    w.cell? ⟨g, pre.length + o, none⟩ = some v := by
  have hlt := (List.getElem?_eq_some_iff.1 hv).1
  unfold World.cell?
  simp only [h, Option.isSome_none, Bool.false_eq_true, if_false]
  have : (pre ++ mid ++ post)[pre.length + o]? = some v := by
    rw [List.append_assoc, List.getElem?_append_right (by omega)]
    rw [show pre.length + o - pre.length = o by omega, List.getElem?_append_left hlt, hv]
  simpa using this
theorem loadN_ok {H : AH} {ad : Addr} {n : Nat} {k : List Value → Res} {r : Value × AH} (h : loadN H ad n k = some r) :
    ∃ c, H.bs[ad.block]? = some (.cells c) ∧ ad.off + n ≤ c.length + (if n = 0 then ad.off else 0) ∧ k ((c.drop ad.off).take n) = some r ∧
      ∀ {P : Program} B ι H2 w j, HR B ι H2 w → ι ad.block = some j → H2.bs[ad.block]? = H.bs[ad.block]? →
        ∃ l', VRs ι ((c.drop ad.off).take n) l' ∧ l'.length = n ∧ (loadCells ⟨j.blk, j.sh + ad.off, none⟩ n).run P w = .ok ⟨l'⟩ w := by
  unfold loadN at h
  obtain ⟨c, hc, h⟩ := Option.bind_eq_some_iff.1 h
  obtain ⟨l, hl, h⟩ := Option.bind_eq_some_iff.1 h
  rw [dropL_eq, takeL_eq] at hl
  have hc := row_some hc
  split at hl
  · rename_i hle
    simp at hl
    subst hl
    simp at hle
    refine ⟨c, hc, by split <;> omega, h, fun {P} B ι H2 w j hr hj he => ?_⟩
    rw [hc] at he
    obtain ⟨pre, mid, post, e, fz, h1, h2, h3, h4⟩ := hr.row hj he
    have h5 := (h3.drop ad.off).take n
    have hlen : ((mid.drop ad.off).take n).length = n := by
      rw [h5.length]; simp; omega
    refine ⟨(mid.drop ad.off).take n, h5, hlen, ?_⟩
    have := run_loadCells_list (P := P) w ⟨j.blk, j.sh + ad.off, none⟩ ((mid.drop ad.off).take n) (fun i v hv => by
      rw [addE]
      have hi : i < n := by have := (List.getElem?_eq_some_iff.1 hv).1; omega
      rw [List.getElem?_take_of_lt hi, List.getElem?_drop] at hv
      have := cell_mid h1 (ad.off + i) hv
      rw [h2] at this
      rw [Nat.add_assoc]
      exact this)
    rw [hlen] at this
    exact this
  · cases hl
theorem load1_ok {H : AH} {ad : Addr} {k : Value → Res} {r : Value × AH} (h : load1 H ad k = some r) :
    ∃ c v, H.bs[ad.block]? = some (.cells c) ∧ c[ad.off]? = some v ∧ k v = some r ∧
      ∀ {P : Program} B ι H2 w j, HR B ι H2 w → ι ad.block = some j → H2.bs[ad.block]? = H.bs[ad.block]? →
        ∃ v', VR ι v v' ∧ (load ⟨j.blk, j.sh + ad.off, none⟩).run P w = .ok v' w := by
  unfold load1 at h
  obtain ⟨c, hc, h⟩ := Option.bind_eq_some_iff.1 h
  obtain ⟨v, hv, h⟩ := Option.bind_eq_some_iff.1 h
  rw [getL_eq] at hv
  have hc := row_some hc
  refine ⟨c, v, hc, hv, h, fun {P} B ι H2 w j hr hj he => ?_⟩
  rw [hc] at he
  obtain ⟨pre, mid, post, e, fz, h1, h2, h3, h4⟩ := hr.row hj he
  obtain ⟨v', h5, h6⟩ := h3.get hv
  refine ⟨v', h6, ?_⟩
  have := cell_mid h1 ad.off h5
  rw [h2] at this
  simp [run_load, this]
theorem destr_ok {kd : Kd} {v : Value} {k : Value → Res} {r : Value × AH} (h : kd.destr v k = some r) : k v = some r ∧ (kd.flat = true → Go.Proofs.Yteljeekapcenlaa.Ev.plain v = true) := by
  cases kd <;> simp only [Kd.destr] at h
  case bool => cases v <;> first | (cases h; done) | exact ⟨h, fun _ => rfl⟩
  case int kd =>
    cases v with
    | int kd' n =>
      obtain ⟨h1, h2⟩ := cond_some h
      obtain rfl := of_decide_eq_true h1
      exact ⟨h2, fun _ => rfl⟩
    | _ => cases h
  case str => cases v <;> first | (cases h; done) | exact ⟨h, fun _ => rfl⟩
  case ptr => cases v <;> first | (cases h; done) | exact ⟨h, fun hf => (by cases hf)⟩
  case slice => cases v <;> first | (cases h; done) | exact ⟨h, fun hf => (by cases hf)⟩
  case map => cases v <;> first | (cases h; done) | exact ⟨h, fun hf => (by cases hf)⟩
  case any => exact ⟨(cond_some h).2, fun hf => (by cases hf)⟩
theorem plain_all {v : Value} : ∀ n, plainN 0 v = true → plainN n v = true := by
  intro n h
  cases v <;> simp [plainN] at h ⊢ <;> exact h
theorem destrL_ok : ∀ {ks : List Kd} {vs : List Value} {k : List Value → Res} {r : Value × AH}, destrL ks vs k = some r → k vs = some r ∧ (ks.all Kd.flat = true → vs.all (plainN 5) = true) := by
  intro ks
  induction ks with
  | nil =>
    intro vs k r h
    cases vs with
    | nil => exact ⟨h, fun _ => rfl⟩
    | cons v vs => exact absurd (show none = some r from h) (by simp)
  | cons kd ks ih =>
    intro vs k r h
    cases vs with
    | nil => exact absurd (show none = some r from h) (by simp)
    | cons v vs =>
      have h' : kd.destr v (fun v => destrL ks vs fun vs => k (v :: vs)) = some r := h
      obtain ⟨h1, h2⟩ := destr_ok h'
      obtain ⟨h3, h4⟩ := ih h1
      refine ⟨h3, fun hf => ?_⟩
      simp at hf
      have hp : plainN 5 v = true := by
        have hk := h2 hf.1
        cases kd <;> simp [Kd.flat] at hf <;> simp only [Kd.destr] at h'
        · cases v <;> first | (cases h'; done) | rfl
        · cases v <;> first | (cases h'; done) | rfl
        · cases v <;> first | (cases h'; done) | rfl
      simp [hp]
      have := h4 (by simpa using hf.2)
      simpa using this
def Emb.set (ι : Emb) (b : Nat) (j : Inj) : Emb := { ι with m := fun x => if x = b then some j else ι x }
theorem Emb.set_ne {ι : Emb} {b : Nat} {j : Inj} {x : Nat} (h : x ≠ b) : (ι.set b j) x = ι x := by
  show (if x = b then some j else ι x) = ι x
  rw [if_neg h]
theorem Emb.set_le {ι : Emb} {b : Nat} {j : Inj} (h : ι b = none) : ι.le (ι.set b j) := by
  refine ⟨fun x y hx => ?_, fun _ _ _ h => h, rfl⟩
  by_cases e : x = b
  · subst e; rw [h] at hx; cases hx
  · rw [Emb.set_ne e]; exact hx
theorem Emb.set_same (ι : Emb) (b : Nat) (j : Inj) : ι.set b j b = some j := by simp [Emb.set]
theorem HR.push {B : Nat} {ι : Emb} {H : AH} {w : World} (h : HR B ι H w) (x : Blk) : HR B ι (H.push x) w := by
  have hg : ∀ b j, ι b = some j → (H.push x).bs[b]? = H.bs[b]? := fun b j hj => by
    have := h.dom hj
    simp [AH.push, List.getElem?_append_left this]
  have hl : ∀ b j, ι b = some j → live (H.push x) b → live H b := fun b j hj hl => by unfold live at *; rwa [hg b j hj] at hl
  refine ⟨fun b j hj => ?_, fun b j hj hf hv => h.base b j hj hf (hl b j hj hv), fun b b' j j' hj hj' hne hf hv hv' => h.inj b b' j j' hj hj' hne hf (hl b j hj hv) (hl b' j' hj' hv'), h.size, fun r i d hd => ⟨(h.fz r i d hd).1, fun b j hj hf hv => (h.fz r i d hd).2.1 b j hj hf (hl b j hj hv), (h.fz r i d hd).2.2⟩⟩
  obtain ⟨y, hy, hbr⟩ := h.blk b j hj
  exact ⟨y, by rw [hg b j hj, hy], hbr⟩
theorem below_push (w : World) (o : Obj) (B : Nat) (hB : B ≤ w.heap.size) : Below B w { w with heap := w.heap.push o } :=
  ⟨rfl, rfl, rfl, by simp, fun k hk => by
    show (w.heap.push o)[k]? = _
    rw [Array.getElem?_push, if_neg (by omega)]⟩
theorem HR.bind2 {B : Nat} {ι : Emb} {H : AH} {w w' : World} (h : HR B ι H w) {b : Nat} {x : Blk} (hx : H.bs[b]? = some x) (hn : ι b = none) {o : Obj} {j0 : Inj} (hj0 : j0.blk = w.heap.size) (hw' : w'.heap = w.heap.push o)
    (hb : BR (ι.set b j0) w' true j0 x) : HR B (ι.set b j0) H w' := by
  have hle := Emb.set_le (j := j0) hn
  have hblock : ∀ k, k < w.heap.size → w'.heap[k]? = w.heap[k]? := fun k hk => by
    rw [hw', Array.getElem?_push, if_neg (by omega)]
  have old : ∀ b' j', ι.set b j0 b' = some j' → b' ≠ b → ι b' = some j' := fun b' j' hj' hne => by
    rw [Emb.set_ne hne] at hj'; exact hj'
  have new : ∀ j', ι.set b j0 b = some j' → j' = j0 := fun j' hj' => by
    rw [Emb.set_same] at hj'; simpa using hj'.symm
  refine ⟨fun b' j' hj' => ?_, fun b' j' hj' hf hl => ?_, fun b1 b2 j1 j2 h1 h2 hne hf hl1 hl2 => ?_, by rw [hw']; have := h.size; simp; omega, fun r i d hd => ⟨?_, fun b' j' hj' hf hl => ?_, (h.fz r i d hd).2.2⟩⟩
  · by_cases he : b' = b
    · subst he
      rw [new j' hj']
      exact ⟨x, hx, hb.wr (fun _ => rfl)⟩
    · have ho := old b' j' hj' he
      obtain ⟨y, hy, hbr⟩ := h.blk b' j' ho
      refine ⟨y, hy, (hbr.world fun hd => hblock _ (hbr.lt hd)).emb hle⟩
  · by_cases he : b' = b
    · subst he; rw [new j' hj', hj0]; exact h.size
    · exact h.base b' j' (old b' j' hj' he) hf hl
  · by_cases e1 : b1 = b
    · subst e1
      rw [new j1 h1, hj0]
      have := h.lt (old b2 j2 h2 (fun e => hne e.symm)) hl2
      omega
    · have o1 := old b1 j1 h1 e1
      by_cases e2 : b2 = b
      · subst e2
        rw [new j2 h2, hj0]
        have := h.lt o1 hl1
        omega
      · exact h.inj b1 b2 j1 j2 o1 (old b2 j2 h2 e2) hne hf hl1 hl2
  · obtain ⟨v', h1, h2⟩ := h.fz_world (fun r i d _ hr => hblock r hr) hd
    exact ⟨v', h1, h2.mono hle⟩
  · by_cases e1 : b' = b
    · subst e1
      rw [new j' hj', hj0]
      have := h.fz_lt hd
      omega
    · exact (h.fz r i d hd).2.1 b' j' (old b' j' hj' e1) hf hl
theorem HR.bind {B : Nat} {ι : Emb} {H : AH} {w : World} (h : HR B ι H w) {b : Nat} {x : Blk} (hx : H.bs[b]? = some x) (hn : ι b = none) (o : Obj)
    (hb : BR (ι.set b ⟨w.heap.size, 0, 0⟩) { w with heap := w.heap.push o } true ⟨w.heap.size, 0, 0⟩ x) :
    HR B (ι.set b ⟨w.heap.size, 0, 0⟩) H { w with heap := w.heap.push o } := h.bind2 hx hn rfl rfl hb
theorem HR.bindCells {B : Nat} {ι : Emb} {H : AH} {w : World} (h : HR B ι H w) {b : Nat} {c c' : List Value} (hx : H.bs[b]? = some (.cells c)) (hn : ι b = none) (e : TypeId) (hc : VRs ι c c') :
    HR B (ι.set b ⟨w.heap.size, 0, 0⟩) H { w with heap := w.heap.push (.cells ⟨c'⟩ e) } :=
  h.bind hx hn _ ⟨[], c', [], e, (0, 0), by simp, rfl, hc.mono (Emb.set_le hn), fun _ => ⟨rfl, rfl⟩⟩
theorem HR.allocCells {B : Nat} {ι : Emb} {H : AH} {w : World} (h : HR B ι H w) {c c' : List Value} (e : TypeId) (hc : VRs ι c c') :
    HR B (ι.set H.len ⟨w.heap.size, 0, 0⟩) (H.push (.cells c)) { w with heap := w.heap.push (.cells ⟨c'⟩ e) } ∧ ι H.len = none := by
  have hn : ι H.len = none := by
    cases hh : ι H.len with
    | none => rfl
    | some j => have := h.dom hh; simp [AH.len] at this
  exact ⟨(h.push _).bindCells (by simp [AH.push, AH.len]) hn e hc, hn⟩
theorem World.heap_setCells (b : Nat) : ∀ (vs : List Value) (o : Nat) (w : World) (c : List Value) (e : TypeId) (fz : Nat × Nat), w.heap[b]? = some (.cells ⟨c⟩ e fz) → o + vs.length ≤ c.length →
    (w.setCells b o vs).heap[b]? = some (.cells ⟨c.take o ++ vs ++ c.drop (o + vs.length)⟩ e fz) ∧ (∀ k, k ≠ b → (w.setCells b o vs).heap[k]? = w.heap[k]?) ∧ (w.setCells b o vs).heap.size = w.heap.size ∧ Below b w (w.setCells b o vs) := by
  intro vs
  induction vs with
  | nil => intro o w c e fz h _; exact ⟨by simp [World.setCells, h], fun _ _ => rfl, rfl, Below.refl _ _⟩
  | cons v vs ih =>
    intro o w c e fz h hl
    simp at hl
    have h1 : (w.setCell ⟨b, o, none⟩ v).heap[b]? = some (.cells ⟨c.set o v⟩ e fz) := by
      simp [World.setCell, Array.getElem?_modify, h]
    obtain ⟨i1, i2, i3, i4⟩ := ih (o + 1) (w.setCell ⟨b, o, none⟩ v) (c.set o v) e fz h1 (by simp; omega)
    have h2 : ∀ k, k ≠ b → (w.setCell ⟨b, o, none⟩ v).heap[k]? = w.heap[k]? := fun k hk => Below.heap_setCell _ _ _ _ hk
    refine ⟨?_, fun k hk => by show ((w.setCell ⟨b, o, none⟩ v).setCells b (o + 1) vs).heap[k]? = _; rw [i2 k hk, h2 k hk], by show ((w.setCell ⟨b, o, none⟩ v).setCells b (o + 1) vs).heap.size = _; rw [i3]; simp [World.setCell], ?_⟩
    · show ((w.setCell ⟨b, o, none⟩ v).setCells b (o + 1) vs).heap[b]? = _
      rw [i1]
      congr 3
      have hlt : o < c.length := by omega
      rw [List.set_eq_take_append_cons_drop, if_pos hlt]
      have e1 : (c.take o).length = o := by simp; omega
      rw [List.take_append, List.drop_append, e1]
      have e2 : o + 1 - o = 1 := by omega
      have e3 : o + 1 + vs.length - o = vs.length + 1 := by omega
      rw [e2, e3, List.take_of_length_le (i := o + 1) (l := c.take o) (by rw [e1]; omega), List.drop_of_length_le (i := o + 1 + vs.length) (l := c.take o) (by rw [e1]; omega)]
      simp
      congr 1
      omega
    · exact ((Below.refl b w).setCell (Nat.le_refl _) v).trans i4
theorem storeN_ok {H : AH} {ad : Addr} {vs : List Value} {k : AH → Res} {r : Value × AH} (h : storeN H ad vs k = some r) :
    ∃ c, H.bs[ad.block]? = some (.cells c) ∧ H.wok ad.block = true ∧ k (H.put ad.block (.cells (c.take ad.off ++ vs ++ c.drop (ad.off + vs.length)))) = some r ∧
      ∀ {P : Program} B ι w j vs', HR B ι H w → ι ad.block = some j → VRs ι vs vs' →
        ∃ w', (storeCells ⟨j.blk, j.sh + ad.off, none⟩ vs').run P w = .ok () w' ∧ HR B ι (H.put ad.block (.cells (c.take ad.off ++ vs ++ c.drop (ad.off + vs.length)))) w' ∧ Below B w w' := by
  unfold storeN at h
  obtain ⟨c, hc, h⟩ := Option.bind_eq_some_iff.1 h
  obtain ⟨hw, h⟩ := cond_some h
  obtain ⟨c2, hc2, h⟩ := Option.bind_eq_some_iff.1 h
  obtain ⟨hle, rfl⟩ := setN_some _ _ _ _ hc2
  simp only [Bool.and_eq_true] at hw
  have hc := row_some hc
  refine ⟨c, hc, hw.1, h, fun {P} B ι w j vs' hr hj hv => ?_⟩
  have hfl : H.floor ≤ ad.block := by
    have := hw.1; simp only [AH.wok, Bool.and_eq_true] at this; exact Nat.le_of_ble_eq_true this.1
  have hlive : live H ad.block := by unfold live; rw [hc]; simp
  obtain ⟨pre, mid, post, e, fz, h1, h2, h3, h4⟩ := hr.row hj hc
  obtain ⟨h5, rfl⟩ := h4 hfl
  have hml := h3.length
  have hvl := hv.length
  have hB := hr.base _ _ hj hfl hlive
  obtain ⟨g1, g2, g3, g4⟩ := World.heap_setCells j.blk vs' (j.sh + ad.off) w (pre ++ mid ++ post) e (0, 0) h1 (by simp; omega)
  have hst := run_storeCells_cells (P := P) j.blk (j.sh + ad.off) vs' 0 w (fun i hi => by
      have hi' : ad.off + i < mid.length := by omega
      have := cell_mid h1 (ad.off + i) (List.getElem?_eq_getElem hi')
      rw [h2] at this
      rw [show j.sh + ad.off + 0 + i = j.sh + (ad.off + i) by omega, this]; rfl)
    (fun i hi => by unfold World.frozen?; simp only [h1]; simp) (oneCells_of hv hw.2)
  refine ⟨w.setCells j.blk (j.sh + ad.off) vs', by simpa using hst, ?_, (g4.mono (by omega)).trans (Below.refl _ _)⟩
  have hdom := hr.dom hj
  have hput : ∀ b, (H.put ad.block (.cells (c.take ad.off ++ vs ++ c.drop (ad.off + vs.length)))).bs[b]? = if b = ad.block then some (.cells (c.take ad.off ++ vs ++ c.drop (ad.off + vs.length))) else H.bs[b]? := by
    intro b
    simp only [AH.put]
    split
    · rename_i e; subst e; simp [hdom]
    · rename_i e; rw [List.getElem?_set_ne (fun q => e q.symm)]
  have hlv : ∀ b, live (H.put ad.block (.cells (c.take ad.off ++ vs ++ c.drop (ad.off + vs.length)))) b → live H b := by
    intro b hb
    unfold live at *
    rw [hput] at hb
    split at hb
    · rename_i e; subst e; rw [hc]; simp
    · exact hb
  refine ⟨fun b j' hj' => ?_, fun b j' hj' hf hl => hr.base b j' hj' hf (hlv b hl), fun b b' j1 j2 q1 q2 hne hf l1 l2 => hr.inj b b' j1 j2 q1 q2 hne hf (hlv b l1) (hlv b' l2), by rw [g3]; exact hr.size, fun r i d hd => ⟨hr.fz_world (fun r i d hd _ => g2 _ fun q => (hr.fz r i d hd).2.1 _ j hj hfl hlive q.symm) hd, fun b j' hj' hf hl => (hr.fz r i d hd).2.1 b j' hj' hf (hlv b hl), (hr.fz r i d hd).2.2⟩⟩
  rw [hput]
  split
  · rename_i e0
    subst e0
    rw [hj] at hj'
    simp at hj'
    subst hj'
    refine ⟨_, rfl, pre, mid.take ad.off ++ vs' ++ mid.drop (ad.off + vs.length), post, e, (0, 0), ?_, h2, ((h3.take _).append hv).append (h3.drop _), fun _ => ⟨h5, rfl⟩⟩
    rw [g1]
    congr 3
    rw [List.append_assoc pre mid post, List.take_append, List.drop_append, h2]
    have e1 : j.sh + ad.off - j.sh = ad.off := by omega
    have e2 : j.sh + ad.off + vs'.length - j.sh = ad.off + vs.length := by omega
    rw [e1, e2, List.take_of_length_le (i := j.sh + ad.off) (l := pre) (by omega), List.drop_of_length_le (i := j.sh + ad.off + vs'.length) (l := pre) (by omega)]
    rw [List.take_append_of_le_length (by omega), List.drop_append_of_le_length (by omega)]
    simp
  · rename_i e0
    obtain ⟨y, hy, hbr⟩ := hr.blk b j' hj'
    refine ⟨y, hy, hbr.world fun hd => g2 _ ?_⟩
    have := hr.inj ad.block b j j' hj hj' (fun q => e0 q.symm) hfl hlive (by unfold live; rw [hy]; simpa using hd)
    exact fun q => this q.symm
theorem HR.kill {B : Nat} {ι : Emb} {H : AH} {w : World} (h : HR B ι H w) (b0 : Nat) : HR B ι (H.put b0 .dead) w := by
  have hput : ∀ b, (H.put b0 .dead).bs[b]? = if b = b0 ∧ b < H.bs.length then some .dead else H.bs[b]? := by
    intro b
    simp only [AH.put]
    by_cases e : b = b0
    · subst e
      by_cases hl : b < H.bs.length
      · simp [hl]
      · simp [hl]
    · rw [List.getElem?_set_ne (fun q => e q.symm), if_neg (fun q => e q.1)]
  have hlv : ∀ b, live (H.put b0 .dead) b → live H b := by
    intro b hb
    unfold live at *
    rw [hput] at hb
    split at hb
    · exact absurd rfl hb
    · exact hb
  refine ⟨fun b j hj => ?_, fun b j hj hf hl => h.base b j hj hf (hlv b hl), fun b b' j1 j2 q1 q2 hne hf l1 l2 => h.inj b b' j1 j2 q1 q2 hne hf (hlv b l1) (hlv b' l2), h.size, fun r i d hd => ⟨(h.fz r i d hd).1, fun b j hj hf hl => (h.fz r i d hd).2.1 b j hj hf (hlv b hl), (h.fz r i d hd).2.2⟩⟩
  rw [hput]
  split
  · exact ⟨_, rfl, trivial⟩
  · exact h.blk b j hj
theorem HR.over {B : Nat} {ι : Emb} {H : AH} {w : World} (h : HR B ι H w) {b0 : Nat} {j : Inj} (hj : ι b0 = some j) {c : List Value} (hc : H.bs[b0]? = some (.cells c)) (hf0 : H.floor ≤ b0)
    {w' : World} {l l' : List Value} {o : Nat} {pre' post' : List Value} {e : TypeId} (hw : w'.heap[j.blk]? = some (.cells ⟨pre' ++ l' ++ post'⟩ e (0, 0))) (hp : pre'.length = j.sh + o) (hl : VRs ι l l')
    (hother : ∀ k, k ≠ j.blk → w'.heap[k]? = w.heap[k]?) (hsz : w'.heap.size = w.heap.size) :
    HR B (ι.set H.len ⟨j.blk, j.sh + o, post'.length⟩) ((H.put b0 .dead).push (.cells l)) w' ∧ ι H.len = none := by
  have hn : ι H.len = none := by
    cases hh : ι H.len with
    | none => rfl
    | some j => have := h.dom hh; simp [AH.len] at this
  refine ⟨?_, hn⟩
  have hdom := h.dom hj
  have hlive0 : live H b0 := by unfold live; rw [hc]; simp
  have hle := Emb.set_le (j := ⟨j.blk, j.sh + o, post'.length⟩) hn
  have hlen : (H.put b0 .dead).bs.length = H.bs.length := by simp [AH.put]
  have hget : ∀ b, b < H.bs.length → ((H.put b0 .dead).push (.cells l)).bs[b]? = if b = b0 then some .dead else H.bs[b]? := by
    intro b hb
    simp only [AH.push]
    rw [List.getElem?_append_left (by rw [hlen]; exact hb)]
    simp only [AH.put]
    split
    · rename_i q; subst q; simp [hb]
    · rename_i q; rw [List.getElem?_set_ne (fun r => q r.symm)]
  have hnew : ((H.put b0 .dead).push (.cells l)).bs[H.len]? = some (.cells l) := by
    simp only [AH.push, AH.len]
    rw [List.getElem?_append_right (by rw [hlen]; exact Nat.le_refl _), hlen]; simp
  have old : ∀ b' j', ι.set H.len ⟨j.blk, j.sh + o, post'.length⟩ b' = some j' → b' ≠ H.len → ι b' = some j' := fun b' j' hj' hne => by
    rw [Emb.set_ne hne] at hj'; exact hj'
  have new : ∀ j', ι.set H.len ⟨j.blk, j.sh + o, post'.length⟩ H.len = some j' → j' = ⟨j.blk, j.sh + o, post'.length⟩ := fun j' hj' => by
    rw [Emb.set_same] at hj'; simpa using hj'.symm
  have hlv : ∀ b' j', ι b' = some j' → live ((H.put b0 .dead).push (.cells l)) b' → live H b' ∧ b' ≠ b0 := by
    intro b' j' hj' hb
    have hd := h.dom hj'
    unfold live at *
    rw [hget b' hd] at hb
    split at hb
    · exact absurd rfl hb
    · rename_i q; exact ⟨hb, q⟩
  refine ⟨fun b' j' hj' => ?_, fun b' j' hj' hf hv => ?_, fun b1 b2 j1 j2 h1 h2 hne hf hl1 hl2 => ?_, by rw [hsz]; exact h.size, fun r i d hd => ⟨?_, fun b' j' hj' hf hv => ?_, (h.fz r i d hd).2.2⟩⟩
  · by_cases he : b' = H.len
    · subst he
      rw [new j' hj']
      exact ⟨_, hnew, pre', l', post', e, (0, 0), hw, hp, hl.mono hle, fun _ => ⟨rfl, rfl⟩⟩
    · have ho := old b' j' hj' he
      obtain ⟨y, hy, hbr⟩ := h.blk b' j' ho
      rw [hget b' (h.dom ho)]
      split
      · exact ⟨_, rfl, trivial⟩
      · rename_i q
        refine ⟨y, hy, (hbr.world fun hd => hother _ ?_).emb hle⟩
        have := h.inj b0 b' j j' hj ho (fun r => q r.symm) hf0 hlive0 (by unfold live; rw [hy]; simpa using hd)
        exact fun r => this r.symm
  · by_cases he : b' = H.len
    · subst he; rw [new j' hj']; exact h.base b0 j hj hf0 hlive0
    · have ho := old b' j' hj' he
      exact h.base b' j' ho hf (hlv b' j' ho hv).1
  · by_cases e1 : b1 = H.len
    · subst e1
      rw [new j1 h1]
      have o2 := old b2 j2 h2 (fun q => hne q.symm)
      obtain ⟨v2, n2⟩ := hlv b2 j2 o2 hl2
      exact h.inj b0 b2 j j2 hj o2 (fun q => n2 q.symm) hf0 hlive0 v2
    · have o1 := old b1 j1 h1 e1
      obtain ⟨v1, n1⟩ := hlv b1 j1 o1 hl1
      by_cases e2 : b2 = H.len
      · subst e2
        rw [new j2 h2]
        exact h.inj b1 b0 j1 j o1 hj n1 hf v1 hlive0
      · have o2 := old b2 j2 h2 e2
        exact h.inj b1 b2 j1 j2 o1 o2 hne hf v1 (hlv b2 j2 o2 hl2).1
  · obtain ⟨v', h1, h2⟩ := h.fz_world (fun r i d hd _ => hother _ fun q => (h.fz r i d hd).2.1 b0 j hj hf0 hlive0 q.symm) hd
    exact ⟨v', h1, h2.mono hle⟩
  · by_cases he : b' = H.len
    · subst he; rw [new j' hj']; exact (h.fz r i d hd).2.1 b0 j hj hf0 hlive0
    · have ho := old b' j' hj' he
      exact (h.fz r i d hd).2.1 b' j' ho hf (hlv b' j' ho hv).1
end Go.Proofs.Yteljeekapcenlaa.Ev
