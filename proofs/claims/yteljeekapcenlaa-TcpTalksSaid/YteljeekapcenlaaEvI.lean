/-
  Ev, part I: the operations that write memory, and calls. No conditions.
-/
import Derived.Test.YteljeekapcenlaaEvH
import Derived.Laws.Append
namespace Go.Proofs.Yteljeekapcenlaa.Ev
open Go Go.RowKit
def Sim (E : Env) (o : Oper) (fr : Frame) (H : AH) (v : Value) (H' : AH) : Prop :=
  ∀ B ι a w, HR B ι H w → ARs ι fr a o → ∀ next Q, (∀ ι' v' w', Ext H.len ι ι' → HR B ι' H' w' → VR ι' v v' → Below B w w' → next (a.put o.dst v') w') → o.wp E.P a w next Q
def OrcOk (E : Env) (orc : Orc) : Prop := ∀ f vs H r, orc f vs H = some r → Grow H r.2 ∧ ∀ B ι w vs', HR B ι H w → VRs ι vs vs' → Calls E.P f ⟨vs'⟩ w (CallPost B ι H r w)
theorem wp_value {P : Program} {o : Oper} {a : Act} {w w' : World} {v' : Value} {next : Act → World → Prop} {Q : Exit → Act → World → Prop}
    (h : (execOp a.eval o).run P w = .ok (.value v') w') (hn : next (a.put o.dst v') w') : o.wp P a w next Q := by
  unfold Oper.wp; rw [h]; exact hn
theorem wp_skip' {P : Program} {o : Oper} {a : Act} {w w' : World} {next : Act → World → Prop} {Q : Exit → Act → World → Prop}
    (h : (execOp a.eval o).run P w = .ok .skip w') (hn : next (a.put o.dst undef) w') : o.wp P a w next Q := by
  unfold Oper.wp; rw [h]; exact hn
theorem undefR (ι : Emb) : VR ι undef undef := .tuple [] [] .nil
section
variable {E : Env} {orc : Orc} {o : Oper} {fr : Frame} {H : AH} {k : K} {r : Value × AH}
theorem Reads.sim {v : Value} (h : Reads E o fr H v) : Sim E o fr H v H := by
  intro B ι a w hH ha next Q hn
  obtain ⟨v', h1, h2⟩ := h B ι H a w hH ha (fun _ _ => rfl)
  exact wp_value h1 (hn ι v' w (Ext.refl _ _) hH h2 (Below.refl _ _))
theorem Makes.sim {x : Blk} {mk : Nat → Value} (h : Makes E o fr x mk) : Sim E o fr H (mk H.len) (H.push x) := by
  intro B ι a w hH ha next Q hn
  obtain ⟨o', v', h1, h2⟩ := h ι a w ha
  have hnone : ι H.len = none := by
    cases hh : ι H.len with
    | none => rfl
    | some j => have := hH.dom hh; simp [AH.len] at this
  obtain ⟨h3, h4⟩ := h2 H.len hnone
  refine wp_value h1 (hn _ v' _ (Ext.set (Nat.le_refl _) hnone _) ((hH.push x).bind (by simp [AH.push, AH.len]) hnone o' h3) h4 (below_push w o' B hH.size))
theorem store_ok (hE : EnvOk E) {t : TypeId} {x y : Operand} (ho : o.op = .store t x y) (h : oStore E.T fr H k t x y = some r) :
    ∃ v H', k v H' = some r ∧ Grow H H' ∧ Sim E o fr H v H' := by
  obtain ⟨u, hu, h⟩ := Option.bind_eq_some_iff.1 h
  obtain ⟨v, hv, h⟩ := Option.bind_eq_some_iff.1 h
  obtain ⟨ad, hq, h0⟩ := asPtr_ok h
  clear h; subst hq; have h := h0; clear h0
  obtain ⟨i, hi, h, hsz⟩ := sizeT_ok hE.fits h
  obtain ⟨hc, h⟩ := cond_some h
  simp only [Bool.and_eq_true] at hc
  have hcl := Nat.eq_of_beq_eq_true hc.1
  obtain ⟨c, h1, h2, h3, h4⟩ := storeN_ok h
  refine ⟨undef, _, h3, Grow.put _ _ h2, fun B ι a w hH ha next Q hn => ?_⟩
  have e1 : VR ι _ (a.eval x) := ha x (by rw [ho]; simp [Op.operands]) _ hu
  have e2 : VR ι _ (a.eval y) := ha y (by rw [ho]; simp [Op.operands]) _ hv
  generalize hg : a.eval x = cc at e1
  cases e1 with | ptr b o' j hj => ?_
  obtain ⟨w', q1, q2, q3⟩ := h4 (P := E.P) B ι w j (a.eval y).cells.toList hH hj (cells_of e2)
  refine wp_skip' (w' := w') ?_ (hn ι undef w' (Ext.refl _ _) q2 (undefR ι) q3)
  have hs : ¬ (a.eval y).cells.size ≠ i.size := by rw [cells_len e2, hcl]; simp
  simp only [execOp, ho, Instr.storeAt, hg, Instr.sureAddr, storeVar, Sem.run_bind, Sem.run_pure, Result.andThen_ok, hsz, if_neg hs, q1]
theorem lenK_ok {P : Program} {x : Value} {k : Nat → Res} (h : lenK x k = some r) : ∃ n, k n = some r ∧ ∀ ι x' w, VR ι x x' → (Builtin.lenOf x').run P w = .ok n w := by
  unfold lenK at h
  cases x <;> (try simp only [] at h) <;> first | (cases h; done) | skip
  · exact ⟨_, h, fun ι x' w hx => by cases hx; simp [Builtin.lenOf]⟩
  · exact ⟨_, h, fun ι x' w hx => by cases hx <;> simp [Builtin.lenOf]⟩
theorem run_loadCells_heap {P : Program} {w w' : World} (hw : w'.heap = w.heap) (a : Addr) (l : List Value) (h : ∀ (j : Nat) (v : Value), l[j]? = some v → w.cell? (a.add j) = some v) :
    (loadCells a l.length).run P w' = .ok ⟨l⟩ w' :=
  run_loadCells_list (P := P) w' a l (fun j v hv => by rw [← h j v hv]; unfold World.cell?; rw [hw])
theorem firstK_ok {x : Value} {s n : Nat} {k : List Value → Res} (h : firstK H s n x k = some r) :
    ∃ new, k new = some r ∧ ∀ {P : Program} B ι w x', HR B ι H w → VR ι x x' → ∃ new', VRs ι new new' ∧ ∀ w', w'.heap = w.heap → (Builtin.firstCells s n x').run P w' = .ok ⟨new'⟩ w' := by
  unfold firstK at h
  cases x <;> (try simp only [] at h) <;> first | (cases h; done) | skip
  case string b =>
    obtain ⟨hc, hk⟩ := cond_some h
    have hc := Nat.eq_of_beq_eq_true hc
    subst hc
    refine ⟨_, hk, fun {P} B ι w x' hH hx => ?_⟩
    cases hx
    refine ⟨b.toList.map fun c => .int .u8 c.toNat, ?_, fun w' hw => ?_⟩
    · generalize b.toList = l
      induction l with
      | nil => exact .nil
      | cons c l ih => exact .cons _ _ _ _ (.int _ _) ih
    · simp only [Builtin.firstCells]
      have e1 : b.extract 0 b.size = b := by simp
      rw [e1, ByteArray.toList_eq]
      simp
      apply Array.ext'
      simp
  case slice oa l cp =>
    cases hn : Nat.beq n 0 with
    | true =>
      rw [hn, cond_true] at h
      have hn := Nat.eq_of_beq_eq_true hn
      subst hn
      refine ⟨_, h, fun {P} B ι w x' hH hx => ⟨[], .nil, fun w' hw => ?_⟩⟩
      cases hx <;> simp [Builtin.firstCells, loadCells, loadCellsFrom]
    | false =>
      rw [hn, cond_false] at h
      obtain ⟨hle, h⟩ := cond_some h
      have hle := Nat.le_of_ble_eq_true hle
      have hn0 : n ≠ 0 := by intro e; subst e; cases hn
      cases oa with
      | none => cases h
      | some ad =>
        simp only [] at h
        obtain ⟨c, hc, hb, h, _⟩ := loadN_ok h
        refine ⟨_, h, fun {P} B ι w x' hH hx => ?_⟩
        have hs0 : ∃ j k', x' = .slice (some ⟨j.blk, j.sh + ad.off, none⟩) l k' ∧ ι ad.block = some j := by
          cases hx
          · exact ⟨_, _, rfl, by assumption⟩
          · exact ⟨_, _, rfl, by assumption⟩
          · omega
        obtain ⟨j, k', rfl, hj⟩ := hs0
        obtain ⟨pre, mid, post, e, fz, h1, h2, h3, h4⟩ := hH.row hj hc
        by_cases hz : n * s = 0
        · refine ⟨[], by rw [hz]; simp; exact .nil, fun w' hw => ?_⟩
          simp [Builtin.firstCells, hz, loadCells, loadCellsFrom]
        · rw [if_neg hz] at hb
          have h5 := (h3.drop ad.off).take (n * s)
          have hl3 := h3.length
          have hlen : ((mid.drop ad.off).take (n * s)).length = n * s := by simp; omega
          refine ⟨(mid.drop ad.off).take (n * s), h5, fun w' hw => ?_⟩
          have := run_loadCells_heap (P := P) hw ⟨j.blk, j.sh + ad.off, none⟩ ((mid.drop ad.off).take (n * s)) (fun i v hv => by
            rw [addE]
            have hi : i < n * s := by have := (List.getElem?_eq_some_iff.1 hv).1; omega
            rw [List.getElem?_take_of_lt hi, List.getElem?_drop] at hv
            have := cell_mid h1 (ad.off + i) hv
            rw [h2] at this
            rw [Nat.add_assoc]
            exact this)
          rw [hlen] at this
          simpa [Builtin.firstCells] using this
def srcOk : TypeDesc → Bool
  | .slice _ | .string => true
  | _ => false
theorem append_cap {w : World} (need old : Nat) (e : TypeId) : need ≤ (Question.appendCap need old e).cut (w.tape w.drawn (.appendCap need old e)) := by
  simp only [Question.cut]; omega
theorem run_append_room {P : Program} {t u e : TypeId} {du : TypeDesc} {inf : TypeInfo} (ht : P.underlying t = some (.slice e)) (hu : P.underlying u = some du) (hdu : srcOk du = true) (hi : P.info? e = some inf)
    (ats : Array TypeId) (h0 : ats[0]? = some t) (h1 : ats[1]? = some u) (ty : TypeId) (base : Option Addr) (len cap n : Nat) (x : Value) (rest : List Value) (new : List Value) (w : World)
    (hl : (Builtin.lenOf x).run P w = .ok n w) (hn : (Builtin.firstCells inf.size n x).run P w = .ok ⟨new⟩ w) (hle : len + n ≤ cap) :
    (Builtin.append_ ats ty ⟨.slice base len cap :: x :: rest⟩).run P w = ((match base with | some a => storeCells (a.add (len * inf.size)) new | none => pure () : Sem Unit).run P w).andThen fun _ w => .ok (.slice base (len + n) cap) w := by
  cases du <;> simp [srcOk] at hdu
  all_goals
    simp only [Builtin.append_, h0, h1, List.getElem?_toArray, List.getElem?_cons_zero, List.getElem?_cons_succ]
    simp [run_underlying ht, run_underlying hu, run_sizeOf hi, hl, hn, hle]
    cases base <;> simp
theorem run_append_more {P : Program} {t u e : TypeId} {du : TypeDesc} {inf : TypeInfo} {z : Value} (ht : P.underlying t = some (.slice e)) (hu : P.underlying u = some du) (hdu : srcOk du = true) (hi : P.info? e = some inf) (hz : inf.zero = some z)
    (ats : Array TypeId) (h0 : ats[0]? = some t) (h1 : ats[1]? = some u) (ty : TypeId) (base : Option Addr) (len cap n : Nat) (x : Value) (rest : List Value) (old new : List Value) (w : World)
    (hl : (Builtin.lenOf x).run P w = .ok n w) (hn : ∀ w', w'.heap = w.heap → (Builtin.firstCells inf.size n x).run P w' = .ok ⟨new⟩ w') (ho : ∀ w', w'.heap = w.heap → (Builtin.firstCells inf.size len (.slice base len cap)).run P w' = .ok ⟨old⟩ w')
    (hle : cap < len + n) (h63 : ((len + n : Nat) : Int) ≤ 9223372036854775807) (hfit : Builtin.nextslicecap (len + n) cap * inf.bytes ≤ 281474976710656) :
    ∃ N, len + n ≤ N ∧ (Builtin.append_ ats ty ⟨.slice base len cap :: x :: rest⟩).run P w =
      .ok (.slice (some ⟨w.heap.size, 0, none⟩) (len + n) N) { w with heap := w.heap.push (.cells (⟨old⟩ ++ ⟨new⟩ ++ Builtin.zeroCells z.cells (N - (len + n))) e), drawn := w.drawn + 1 } := by
  have hn' := hn w.drew rfl
  have ho' := ho w.drew rfl
  have c1 : ¬ (len + n ≤ cap) := by omega
  have h63' : ¬ (9223372036854775807 < ((len : Int) + (n : Int))) := by omega
  have h48' : ¬ (281474976710656 < Builtin.nextslicecap (len + n) cap * inf.bytes) := by omega
  refine ⟨_, append_cap (w := w) (len + n) cap e, ?_⟩
  have fin : ∀ N, (Result.ok (Value.slice (some ⟨w.heap.size, 0, none⟩) (len + n) N) (w.drew.alloc (.cells (⟨old⟩ ++ (⟨new⟩ ++ Builtin.zeroCells z.cells (N - (len + n)))) e)) : Result Value) =
      .ok (.slice (some ⟨w.heap.size, 0, none⟩) (len + n) N) { w with heap := w.heap.push (.cells (⟨old⟩ ++ ⟨new⟩ ++ Builtin.zeroCells z.cells (N - (len + n))) e), drawn := w.drawn + 1 } := by
    intro N; rw [Array.append_assoc]; rfl
  rw [← fin]
  cases du <;> simp [srcOk] at hdu
  all_goals
    simp only [Builtin.append_, h0, h1, List.getElem?_toArray, List.getElem?_cons_zero, List.getElem?_cons_succ]
    simp [run_underlying ht, run_underlying hu, run_sizeOf hi, run_typeInfo hi, zeroValue, hz, hl, c1, h63', h48', Question.forced, ho', hn', newRow]
def AppSim (P : Program) (ats : Array TypeId) (vs : List Value) (H : AH) (v : Value) (H' : AH) : Prop :=
  ∀ B ι w vs' ty, HR B ι H w → VRs ι vs vs' → ∃ ι' v' w', (Builtin.append_ ats ty ⟨vs'⟩).run P w = .ok v' w' ∧ Ext H.len ι ι' ∧ HR B ι' H' w' ∧ VR ι' v v' ∧ Below B w w'
theorem HR.none {B : Nat} {ι : Emb} {w : World} (hH : HR B ι H w) : ι H.len = none := by
  cases hh : ι H.len with
  | none => rfl
  | some j => have := hH.dom hh; simp [AH.len] at this
theorem grow_fits {need old bytes : Nat} (h : old < need) (hb : need * bytes ≤ 2 ^ 47) : Builtin.nextslicecap need old * bytes ≤ 281474976710656 :=
  growslice_fits h (by omega)
theorem new_row {B : Nat} {ι : Emb} {w w' : World} (hH : HR B ι H w) {new new' post : List Value} {e : TypeId} {N n s : Nat} (hv : VRs ι new new')
    (hw' : w'.heap = w.heap.push (.cells ⟨[] ++ new' ++ post⟩ e)) (hsame : w'.os = w.os ∧ w'.tape = w.tape ∧ w'.output = w.output) (hp : post.length = (N - n) * s) (_hs : 0 < s) (_hN : n ≤ N) :
    HR B (ι.set H.len ⟨w.heap.size, 0, (N - n) * s⟩) (H.push (.cells new)) w' ∧ Below B w w' ∧ Ext H.len ι (ι.set H.len ⟨w.heap.size, 0, (N - n) * s⟩) := by
  have hnone := hH.none
  refine ⟨(hH.push (.cells new)).bind2 (x := .cells new) (by simp [AH.push, AH.len]) hnone rfl hw' ⟨[], new', post, e, (0, 0), by rw [hw']; simp, rfl, hv.mono (Emb.set_le hnone), fun _ => ⟨hp, rfl⟩⟩, ?_, Ext.set (Nat.le_refl _) hnone _⟩
  refine ⟨hsame.1, hsame.2.1, hsame.2.2, by rw [hw']; simp, fun k hk => ?_⟩
  have := hH.size
  rw [hw', Array.getElem?_push, if_neg (by omega)]
theorem append_nil_ok {P : Program} {T : Ty} (hT : Fits P T) {t u e : TypeId} {du : TypeDesc} {i : TI} (ht : P.underlying t = some (.slice e)) (hu : P.underlying u = some du) (hdu : srcOk du = true) (hi : T.get e = some i)
    {ats : Array TypeId} (h0 : ats[0]? = some t) (h1 : ats[1]? = some u) {n : Nat} {x : Value} {rest new : List Value} {k : K}
    (hl : ∀ ι x' w, VR ι x x' → (Builtin.lenOf x').run P w = .ok n w) (hnew : ∀ B ι w x', HR B ι H w → VR ι x x' → ∃ new', VRs ι new new' ∧ ∀ w', w'.heap = w.heap → (Builtin.firstCells i.size n x').run P w' = .ok ⟨new'⟩ w')
    (hs : 0 < i.size) (hz : i.zero.length = i.size) (hnl : new.length = n * i.size) (h : appendNil i n new H k = some r) :
    ∃ v H', k v H' = some r ∧ Grow H H' ∧ AppSim P ats (.slice none 0 0 :: x :: rest) H v H' := by
  obtain ⟨inf, z, q1, q2, q3, q4, q5, q6, q7, q8, q9⟩ := (hT.get hi).info
  have zt : z.cells = ⟨i.zero⟩ := by
    rw [← q7]; cases z <;> rfl
  unfold appendNil at h
  cases hn : Nat.beq n 0 with
  | true =>
    rw [hn, cond_true] at h
    have hn := Nat.eq_of_beq_eq_true hn
    subst hn
    refine ⟨_, H, h, Grow.refl _, fun B ι w vs' ty hH hv => ?_⟩
    cases hv with | cons _ s' _ _ e1 hv => ?_
    cases hv with | cons _ x' _ rest' e2 hv => ?_
    cases e1
    obtain ⟨new', n1, n2⟩ := hnew B ι w x' hH e2
    rw [← q2] at n2
    have := run_append_room ht hu hdu q1 ats h0 h1 ty none 0 0 0 x' rest' new' w (hl ι x' w e2) (n2 w rfl) (Nat.le_refl _)
    exact ⟨ι, _, w, by simpa using this, Ext.refl _ _, hH, .sliceNil, Below.refl _ _⟩
  | false =>
    rw [hn, cond_false] at h
    have hn0 : n ≠ 0 := by intro e; subst e; cases hn
    obtain ⟨hbb, h⟩ := cond_some h
    simp only [Bool.and_eq_true, decide_eq_true_eq] at hbb
    obtain ⟨hb, hb2⟩ := hbb
    refine ⟨_, _, h, Grow.push _ _, fun B ι w vs' ty hH hv => ?_⟩
    cases hv with | cons _ s' _ _ e1 hv => ?_
    cases hv with | cons _ x' _ rest' e2 hv => ?_
    cases e1
    obtain ⟨new', n1, n2⟩ := hnew B ι w x' hH e2
    rw [← q2] at n2
    rw [← q3] at hb
    obtain ⟨N, hN, hrun⟩ := run_append_more ht hu hdu q1 q4 ats h0 h1 ty none 0 0 n x' rest' [] new' w (hl ι x' w e2) n2 (fun w' _ => by simp [Builtin.firstCells]) (by omega) (by omega) (grow_fits (by omega) (by simpa using hb))
    have hnone := hH.none
    have hcells : (⟨[]⟩ ++ ⟨new'⟩ ++ Builtin.zeroCells z.cells (N - (0 + n)) : Array Value) = ⟨[] ++ new' ++ zeros i.zero (N - n)⟩ := by
      rw [zt, zeroCells_spec _ (by omega)]
      apply Array.ext'; simp
    rw [hcells] at hrun
    obtain ⟨h2, h3, h4⟩ := new_row (w' := { w with heap := w.heap.push (.cells ⟨[] ++ new' ++ zeros i.zero (N - n)⟩ e), drawn := w.drawn + 1 }) hH n1 rfl ⟨rfl, rfl, rfl⟩ (by rw [zeros_len, hz]) hs (show n ≤ N by omega)
    refine ⟨_, _, _, by simpa using hrun, h4, h2, ?_, h3⟩
    exact VR.sliceX H.len 0 n n N i.size ⟨w.heap.size, 0, (N - n) * i.size⟩ (Emb.set_same _ _ _) hs (by omega) rfl
theorem append_to_ok {P : Program} {T : Ty} (hT : Fits P T) {t u e : TypeId} {du : TypeDesc} {i : TI} (ht : P.underlying t = some (.slice e)) (hu : P.underlying u = some du) (hdu : srcOk du = true) (hi : T.get e = some i)
    {ats : Array TypeId} (h0 : ats[0]? = some t) (h1 : ats[1]? = some u) {n len cap : Nat} {ad : Addr} {x : Value} {rest new : List Value} {k : K}
    (hl : ∀ ι x' w, VR ι x x' → (Builtin.lenOf x').run P w = .ok n w) (hnew : ∀ B ι w x', HR B ι H w → VR ι x x' → ∃ new', VRs ι new new' ∧ ∀ w', w'.heap = w.heap → (Builtin.firstCells i.size n x').run P w' = .ok ⟨new'⟩ w')
    (hs : 0 < i.size) (hz : i.zero.length = i.size) (hone : new.all oneCell = true) (hnl : new.length = n * i.size) (h : appendTo i ad len cap n new H k = some r) :
    ∃ v H', k v H' = some r ∧ Grow H H' ∧ AppSim P ats (.slice (some ad) len cap :: x :: rest) H v H' := by
  obtain ⟨inf, z, q1, q2, q3, q4, q5, q6, q7, q8, q9⟩ := (hT.get hi).info
  have zt : z.cells = ⟨i.zero⟩ := by
    rw [← q7]; cases z <;> rfl
  unfold appendTo at h
  cases hc : Nat.ble (len + n) cap with
  | true =>
    rw [hc, cond_true] at h
    have hc := Nat.le_of_ble_eq_true hc
    cases hn : Nat.beq n 0 with
    | true =>
      rw [hn, cond_true] at h
      have hgood := h
      have hn := Nat.eq_of_beq_eq_true hn
      subst hn
      refine ⟨_, H, hgood, Grow.refl _, fun B ι w vs' ty hH hv => ?_⟩
      cases hv with | cons _ s' _ _ e1 hv => ?_
      cases hv with | cons _ x' _ rest' e2 hv => ?_
      obtain ⟨new', n1, n2⟩ := hnew B ι w x' hH e2
      rw [← q2] at n2
      have hnew0 : new' = [] := by
        have := n1.length; rw [hnl] at this; simp at this; exact this
      subst hnew0
      have hx : ∃ a' cap', s' = .slice (some a') len cap' ∧ cap ≤ cap' := by
        cases e1
        · exact ⟨_, _, rfl, Nat.le_refl _⟩
        · exact ⟨_, _, rfl, by assumption⟩
        · exact ⟨_, _, rfl, Nat.zero_le _⟩
      obtain ⟨a', cap', rfl, hcc⟩ := hx
      have := run_append_room ht hu hdu q1 ats h0 h1 ty (some a') len cap' 0 x' rest' [] w (hl ι x' w e2) (n2 w rfl) (by omega)
      exact ⟨ι, _, w, by simpa [storeCells] using this, Ext.refl _ _, hH, e1, Below.refl _ _⟩
    | false =>
      rw [hn, cond_false] at h
      have hn0 : n ≠ 0 := by intro e; subst e; cases hn
      obtain ⟨c, s1, s2, s3, s4⟩ := storeN_ok h
      refine ⟨_, _, s3, Grow.put _ _ s2, fun B ι w vs' ty hH hv => ?_⟩
      cases hv with | cons _ s' _ _ e1 hv => ?_
      cases hv with | cons _ x' _ rest' e2 hv => ?_
      obtain ⟨new', n1, n2⟩ := hnew B ι w x' hH e2
      rw [← q2] at n2
      have hx : ∃ j cap', s' = .slice (some ⟨j.blk, j.sh + ad.off, none⟩) len cap' ∧ cap ≤ cap' ∧ ι ad.block = some j ∧ VR ι (.slice (some ad) (len + n) cap) (.slice (some ⟨j.blk, j.sh + ad.off, none⟩) (len + n) cap') := by
        cases e1 with
        | slice b o l k0 j hj => exact ⟨j, _, rfl, Nat.le_refl _, hj, .slice _ _ _ _ _ hj⟩
        | sliceX b o l k0 k' sz j hj hz hk hx => exact ⟨j, _, rfl, hk, hj, .sliceX _ _ _ _ _ _ _ hj hz hk hx⟩
        | sliceE b a' o' k' => omega
      obtain ⟨j, cap', rfl, hcc, hj, hv2⟩ := hx
      obtain ⟨w', t1, t2, t3⟩ := s4 (P := P) B ι w j new' hH hj n1
      have := run_append_room ht hu hdu q1 ats h0 h1 ty (some ⟨j.blk, j.sh + ad.off, none⟩) len cap' n x' rest' new' w (hl ι x' w e2) (n2 w rfl) (by omega)
      simp only [addE, q2] at this
      rw [show j.sh + ad.off + len * i.size = j.sh + (ad.off + len * i.size) by omega, t1] at this
      exact ⟨ι, _, w', by simpa using this, Ext.refl _ _, t2, hv2, t3⟩
  | false =>
    rw [hc, cond_false] at h
    have hc : cap < len + n := by
      rcases Nat.lt_or_ge cap (len + n) with h | h
      · exact h
      · rw [Nat.ble_eq_true_of_le h] at hc; cases hc
    obtain ⟨hbb, h⟩ := cond_some h
    simp only [Bool.and_eq_true, decide_eq_true_eq] at hbb
    obtain ⟨hb, hb2⟩ := hbb
    rw [← q3] at hb
    obtain ⟨c, hcc, hb0, h, hload⟩ := loadN_ok h
    simp only at hcc hb0 h hload
    -- what the new row is related to
    have fresh : ∀ B ι w s' x' rest' ty, HR B ι H w → VR ι (.slice (some ad) len cap) s' → VR ι x x' → (∃ j cap', s' = .slice (some ⟨j.blk, j.sh + ad.off, none⟩) len cap' ∧ ι ad.block = some j ∧ cap' < len + n) →
        ∃ N w' new', len + n ≤ N ∧ VRs ι new new' ∧ (Builtin.append_ ats ty ⟨s' :: x' :: rest'⟩).run P w = .ok (.slice (some ⟨w.heap.size, 0, none⟩) (len + n) N) w' ∧
          HR B (ι.set H.len ⟨w.heap.size, 0, (N - (len + n)) * i.size⟩) (H.push (.cells ((c.drop ad.off).take (len * i.size) ++ new))) w' ∧ Below B w w' ∧ Ext H.len ι (ι.set H.len ⟨w.heap.size, 0, (N - (len + n)) * i.size⟩) := by
      intro B ι w s' x' rest' ty hH e1 e2 hx
      obtain ⟨j, cap', rfl, hj, hcap'⟩ := hx
      obtain ⟨new', n1, n2⟩ := hnew B ι w x' hH e2
      rw [← q2] at n2
      obtain ⟨old', o1, o2, o3⟩ := hload (P := P) B ι H w j hH hj rfl
      obtain ⟨N, hN, hrun⟩ := run_append_more ht hu hdu q1 q4 ats h0 h1 ty (some ⟨j.blk, j.sh + ad.off, none⟩) len cap' n x' rest' old' new' w (hl ι x' w e2) n2 (fun w' hw' => by
          simp only [Builtin.firstCells, q2]
          have := run_loadCells_heap (P := P) hw' ⟨j.blk, j.sh + ad.off, none⟩ old' (fun m v hv => by
            obtain ⟨pre, mid, post, e', fz, r1, r2, r3, r4⟩ := hH.row hj hcc
            have o3' : (loadCells ⟨j.blk, j.sh + ad.off, none⟩ (len * i.size)).run P w = .ok ⟨(mid.drop ad.off).take (len * i.size)⟩ w := by
              have hl3 := r3.length
              by_cases hz0 : len * i.size = 0
              · rw [hz0]; simp [loadCells, loadCellsFrom]
              · rw [if_neg hz0] at hb0
                have hlen : ((mid.drop ad.off).take (len * i.size)).length = len * i.size := by simp; omega
                have := run_loadCells_list (P := P) w ⟨j.blk, j.sh + ad.off, none⟩ ((mid.drop ad.off).take (len * i.size)) (fun i' v hv => by
                  rw [addE]
                  have hi' : i' < len * i.size := by have := (List.getElem?_eq_some_iff.1 hv).1; omega
                  rw [List.getElem?_take_of_lt hi', List.getElem?_drop] at hv
                  have := cell_mid r1 (ad.off + i') hv
                  rw [r2] at this
                  rw [Nat.add_assoc]
                  exact this)
                rw [hlen] at this
                exact this
            rw [o3] at o3'
            simp at o3'
            rw [o3'] at hv
            have hm : m < len * i.size := by
              have h1 := (List.getElem?_eq_some_iff.1 hv).1; simp at h1; omega
            rw [List.getElem?_take_of_lt hm, List.getElem?_drop] at hv
            rw [addE, show j.sh + ad.off + m = pre.length + (ad.off + m) by omega]
            exact cell_mid r1 (ad.off + m) hv)
          rw [o2] at this
          exact this) hcap' (by omega) (grow_fits hcap' hb)
      have hcells : (⟨old'⟩ ++ ⟨new'⟩ ++ Builtin.zeroCells z.cells (N - (len + n)) : Array Value) = ⟨[] ++ (old' ++ new') ++ zeros i.zero (N - (len + n))⟩ := by
        rw [zt, zeroCells_spec _ (by omega)]
        apply Array.ext'; simp
      rw [hcells] at hrun
      obtain ⟨h2, h3, h4⟩ := new_row (H := H) (s := i.size) (N := N) (n := len + n) (w' := { w with heap := w.heap.push (.cells ⟨[] ++ (old' ++ new') ++ zeros i.zero (N - (len + n))⟩ e), drawn := w.drawn + 1 }) hH (o1.append n1) rfl ⟨rfl, rfl, rfl⟩ (by rw [zeros_len, hz]) hs hN
      exact ⟨N, _, new', hN, n1, hrun, h2, h3, h4⟩
    cases hsp : ad.spot with
    | none =>
      rw [hsp] at h
      refine ⟨_, _, h, Grow.push _ _, fun B ι w vs' ty hH hv => ?_⟩
      cases hv with | cons _ s' _ _ e1 hv => ?_
      cases hv with | cons _ x' _ rest' e2 hv => ?_
      have hx : ∃ j, s' = .slice (some ⟨j.blk, j.sh + ad.off, none⟩) len cap ∧ ι ad.block = some j := by
        obtain ⟨b, o, sp⟩ := ad
        simp only at hsp
        subst hsp
        cases e1
        exact ⟨_, rfl, by assumption⟩
      obtain ⟨j, hs', hj⟩ := hx
      obtain ⟨N, w', new', hN, n1, f1, f2, f3, f4⟩ := fresh B ι w s' x' rest' ty hH e1 e2 ⟨j, cap, hs', hj, hc⟩
      exact ⟨_, _, w', f1, f4, f2, VR.sliceX H.len 0 (len + n) (len + n) N i.size ⟨w.heap.size, 0, (N - (len + n)) * i.size⟩ (Emb.set_same _ _ _) hs hN rfl, f3⟩
    | some sz =>
      rw [hsp] at h
      try simp only at h
      obtain ⟨c2, hc2, h⟩ := Option.bind_eq_some_iff.1 h
      have hc2 := row_some hc2
      rw [hcc] at hc2
      simp at hc2
      subst hc2
      obtain ⟨hw, h⟩ := cond_some h
      simp only [Bool.and_eq_true] at hw
      obtain ⟨⟨w1, w2⟩, w3⟩ := hw
      have w1 := Nat.eq_of_beq_eq_true w1
      have w2 := Nat.eq_of_beq_eq_true w2
      have hfl : H.floor ≤ ad.block := by
        simp only [AH.wok, Bool.and_eq_true] at w3; exact Nat.le_of_ble_eq_true w3.1
      refine ⟨_, _, h, (Grow.put _ _ w3).trans (Grow.push _ _), fun B ι w vs' ty hH hv => ?_⟩
      have hlenput : (H.put ad.block .dead).len = H.len := by simp [AH.put, AH.len]
      cases hv with | cons _ s' _ _ e1 hv => ?_
      cases hv with | cons _ x' _ rest' e2 hv => ?_
      have hx : ∃ j cap', s' = .slice (some ⟨j.blk, j.sh + ad.off, none⟩) len cap' ∧ ι ad.block = some j ∧ cap ≤ cap' ∧ (cap' - cap) * i.size = j.ex := by
        obtain ⟨b, o, sp⟩ := ad
        simp only at hsp
        subst hsp
        cases e1 with
        | sliceX b o l k0 k' sz j hj hz hk hx => exact ⟨j, _, rfl, hj, hk, by rw [← w1]; exact hx⟩
        | sliceE b a' o' k' => omega
      obtain ⟨j, cap', hs', hj, hcap, hex⟩ := hx
      by_cases hroom : len + n ≤ cap'
      · -- in place
        obtain ⟨new', n1, n2⟩ := hnew B ι w x' hH e2
        rw [← q2] at n2
        obtain ⟨pre, mid, post, e', fz, r1, r2, r3, r4⟩ := hH.row hj hcc
        obtain ⟨r5, rfl⟩ := r4 hfl
        have hml := r3.length
        have hnl' := n1.length
        subst hs'
        have hrun := run_append_room ht hu hdu q1 ats h0 h1 ty (some ⟨j.blk, j.sh + ad.off, none⟩) len cap' n x' rest' new' w (hl ι x' w e2) (n2 w rfl) hroom
        simp only [addE, q2] at hrun
        have hmul : (len + n) * i.size = len * i.size + n * i.size := Nat.add_mul _ _ _
        have hmul2 : cap' * i.size = cap * i.size + j.ex := by rw [← hex, ← Nat.add_mul]; congr 1; omega
        have hle : (len + n) * i.size ≤ cap' * i.size := Nat.mul_le_mul_right _ hroom
        have hcl : len * i.size ≤ cap * i.size := by
          by_cases hz0 : len * i.size = 0
          · omega
          · rw [if_neg hz0] at hb0; omega
        have htot : (pre ++ mid ++ post).length = j.sh + c.length + j.ex := by simp; omega
        obtain ⟨g1, g2, g3, g4⟩ := World.heap_setCells j.blk new' (j.sh + ad.off + len * i.size) w (pre ++ mid ++ post) e' (0, 0) r1 (by rw [htot]; omega)
        have hst := run_storeCells_cells (P := P) j.blk (j.sh + ad.off + len * i.size) new' 0 w (fun m hm => by
            have hlt : j.sh + ad.off + len * i.size + 0 + m < (pre ++ mid ++ post).length := by rw [htot]; omega
            unfold World.cell?
            simp only [r1, Option.isSome_none, Bool.false_eq_true, if_false]
            simp only [List.getElem?_toArray, List.getElem?_eq_getElem hlt, Option.isSome_some])
          (fun m hm => by unfold World.frozen?; simp only [r1]; simp) (oneCells_of n1 hone)
        rw [Nat.add_zero] at hst
        rw [hst] at hrun
        have hA : ad.off + len * i.size ≤ mid.length := by omega
        have hcel : (pre ++ mid ++ post).take (j.sh + ad.off + len * i.size) = (pre ++ mid.take ad.off) ++ (mid.drop ad.off).take (len * i.size) := by
          rw [List.append_assoc, List.take_append, r2, List.take_of_length_le (i := j.sh + ad.off + len * i.size) (l := pre) (by omega)]
          rw [show j.sh + ad.off + len * i.size - j.sh = ad.off + len * i.size by omega, List.take_append_of_le_length hA, List.take_add]
          simp
        have hpl : ((pre ++ mid ++ post).drop (j.sh + ad.off + (len + n) * i.size)).length = (cap' - (len + n)) * i.size := by
          rw [List.length_drop, htot, Nat.sub_mul]; omega
        have hover := hH.over hj hcc hfl (l := (c.drop ad.off).take (len * i.size) ++ new) (l' := (mid.drop ad.off).take (len * i.size) ++ new') (o := ad.off) (pre' := pre ++ mid.take ad.off)
          (post' := (pre ++ mid ++ post).drop (j.sh + ad.off + (len + n) * i.size)) (e := e') (w' := w.setCells j.blk (j.sh + ad.off + len * i.size) new') (by
            rw [g1, hcel, hnl', hnl, show j.sh + ad.off + len * i.size + n * i.size = j.sh + ad.off + (len + n) * i.size by omega]
            simp) (by simp; omega) (((r3.drop _).take _).append n1) g2 g3
        have hlv : live H ad.block := by unfold live; rw [hcc]; simp
        refine ⟨_, _, _, by simpa using hrun, ?_, hover.1, ?_, ?_⟩
        · exact Ext.set (Nat.le_refl _) hover.2 _
        · exact VR.sliceX H.len 0 (len + n) (len + n) cap' i.size ⟨j.blk, j.sh + ad.off, _⟩ (Emb.set_same _ _ _) hs hroom hpl.symm
        · exact g4.mono (hH.base _ _ hj hfl hlv)
      · have fr := fresh B ι w s' x' rest' ty hH e1 e2 ⟨j, cap', hs', hj, by omega⟩
        obtain ⟨N, w', new', hN, n1, f1, f2, f3, f4⟩ := fr
        have hdom := hH.dom hj
        have hcomm : (H.put ad.block .dead).push (.cells ((c.drop ad.off).take (len * i.size) ++ new)) = (H.push (.cells ((c.drop ad.off).take (len * i.size) ++ new))).put ad.block .dead := by
          simp only [AH.put, AH.push]
          rw [List.set_append_left _ _ hdom]
        refine ⟨_, _, w', f1, f4, ?_, VR.sliceX H.len 0 (len + n) (len + n) N i.size ⟨w.heap.size, 0, (N - (len + n)) * i.size⟩ (Emb.set_same _ _ _) hs hN rfl, f3⟩
        rw [hcomm]
        exact f2.kill _
theorem append_ok {P : Program} {T : Ty} (hT : Fits P T) {ats : Array TypeId} {vs : List Value} {k : K} (h : opAppend T ats.toList vs H k = some r) :
    ∃ v H', k v H' = some r ∧ Grow H H' ∧ AppSim P ats vs H v H' := by
  unfold opAppend at h
  cases hts : ats.toList with
  | nil => rw [hts] at h; cases h
  | cons t us =>
    rw [hts] at h
    cases us with
    | nil => cases h
    | cons u us =>
      have h0 : ats[0]? = some t := by rw [← Array.getElem?_toList, hts]; rfl
      have h1 : ats[1]? = some u := by rw [← Array.getElem?_toList, hts]; rfl
      cases vs with
      | nil => cases h
      | cons s xs =>
        cases xs with
        | nil => cases h
        | cons x rest =>
          simp only [] at h
          cases hd : T.und t with
          | none => rw [hd] at h; cases h
          | some d =>
            rw [hd] at h
            have ht := hT.und hd
            cases d <;> (try simp only [] at h) <;> first | (cases h; done) | skip
            rename_i e
            obtain ⟨hc, h⟩ := cond_some h
            have hud : ∃ du, P.underlying u = some du ∧ srcOk du = true := by
              cases hu : T.und u with
              | none => rw [hu] at hc; cases hc
              | some du => rw [hu] at hc; exact ⟨du, hT.und hu, by cases du <;> first | rfl | (cases hc; done)⟩
            obtain ⟨du, hu, hdu⟩ := hud
            obtain ⟨i, hi, h⟩ := Option.bind_eq_some_iff.1 h
            cases s with
            | slice base len cap =>
              try simp only [] at h
              obtain ⟨n, h, hl⟩ := lenK_ok (P := P) h
              obtain ⟨new, h, hnew⟩ := firstK_ok h
              obtain ⟨hcc, h⟩ := cond_some h
              simp only [Bool.and_eq_true] at hcc
              obtain ⟨⟨⟨c1, c2⟩, c3⟩, c4⟩ := hcc
              have c1 : 0 < i.size := Nat.le_of_ble_eq_true c1
              have c2 := Nat.eq_of_beq_eq_true c2
              have c4 := Nat.eq_of_beq_eq_true c4
              cases base with
              | some ad => exact append_to_ok hT ht hu hdu hi h0 h1 hl (fun B ι w x' => hnew (P := P) B ι w x') c1 c2 c3 c4 h
              | none =>
                simp only [] at h
                obtain ⟨hlc, hk⟩ := cond_some h
                simp only [Bool.and_eq_true] at hlc
                have l0 := Nat.eq_of_beq_eq_true hlc.1
                have l1 := Nat.eq_of_beq_eq_true hlc.2
                subst l0 l1
                exact append_nil_ok hT ht hu hdu hi h0 h1 hl (fun B ι w x' => hnew (P := P) B ι w x') c1 c2 c4 hk
            | _ => cases h
end
end Go.Proofs.Yteljeekapcenlaa.Ev
