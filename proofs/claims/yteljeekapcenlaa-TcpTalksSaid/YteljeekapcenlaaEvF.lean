/-
  Ev, part F: more operations that touch no memory: slices' headers, fields, indexes, parts, built values. No conditions.
-/
import Derived.Test.YteljeekapcenlaaEvE
namespace Go.Proofs.Yteljeekapcenlaa.Ev
open Go
def AR (ι : Emb) (fr : Frame) (a : Act) (x : Operand) : Prop := ∀ v, arg fr x = some v → VR ι v (a.eval x)
theorem AR.mono {ι ι' : Emb} {fr : Frame} {a : Act} {x : Operand} (h : AR ι fr a x) (hi : ι.le ι') : AR ι' fr a x := fun v hv => (h v hv).mono hi
theorem beq_ne {m n : Nat} (h : ¬ m = n) : Nat.beq m n = false := by
  cases hb : Nat.beq m n
  · rfl
  · exact absurd (Nat.eq_of_beq_eq_true hb) h
section
variable {P : Program} {T : Ty} (hT : Fits P T)
include hT
omit hT in
theorem asI_ok {v : Value} {k : IntKind → Int → Res} {r : Value × AH} (h : asI v k = some r) : ∃ kd n, v = .int kd n ∧ k kd n = some r := by
  unfold asI at h
  cases v <;> first | (cases h; done) | exact ⟨_, _, rfl, h⟩
omit hT in
theorem asB_ok {v : Value} {k : Bool → Res} {r : Value × AH} (h : asB v k = some r) : ∃ b, v = .bool b ∧ k b = some r := by
  unfold asB at h
  cases v <;> first | (cases h; done) | exact ⟨_, rfl, h⟩
omit hT in
theorem asPtr_ok {v : Value} {k : Addr → Res} {r : Value × AH} (h : asPtr v k = some r) : ∃ a, v = .pointer (some a) ∧ k a = some r := by
  unfold asPtr at h
  cases v with
  | pointer a => cases a with
    | none => cases h
    | some a => exact ⟨a, rfl, h⟩
  | _ => cases h
omit hT in
theorem boundK_ok {fr : Frame} {x : Option Operand} {dflt most : Nat} {k : Nat → Res} {r : Value × AH} (h : boundK fr x dflt most k = some r) :
    ∃ n, k n = some r ∧ (x = none → n = dflt) ∧ (∀ y, x = some y → n ≤ most) ∧ (∀ ι a y, x = some y → AR ι fr a y → ∀ most' code w, most ≤ most' → (Instr.sliceBound (a.eval y) most' code).run P w = .ok n w) := by
  cases x with
  | none => exact ⟨dflt, h, (fun _ => rfl), (fun y hy => (by cases hy)), (fun ι a y hy => (by cases hy))⟩
  | some x =>
    simp only [boundK] at h
    obtain ⟨v, hv, h⟩ := Option.bind_eq_some_iff.1 h
    obtain ⟨kd, n, hq, h0⟩ := asI_ok h
    clear h; subst hq; have h := h0; clear h0
    obtain ⟨hc, h⟩ := cond_some h
    simp only [Bool.and_eq_true, decide_eq_true_eq] at hc
    refine ⟨n.toNat, h, (fun e => by cases e), fun _ _ => by omega, fun ι a y hy ha => ?_⟩
    cases hy
    have hr := ha _ hv
    generalize a.eval x = u at hr
    cases hr
    intro most' code w hm
    have : n ≤ (most' : Int) := by omega
    simp [Instr.sliceBound, asIntOf, hc.1, this]
omit hT in
theorem boundsK_ok {fr : Frame} {len cap : Nat} {lo hi mx : Option Operand} {k : Nat → Nat → Nat → Res} {r : Value × AH} (hlc : len ≤ cap) (h : boundsK fr len cap lo hi mx k = some r) :
    ∃ l hh m, k l hh m = some r ∧ (mx = none → m = cap) ∧ l ≤ hh ∧ hh ≤ m ∧ m ≤ cap ∧
      ∀ ι a (cap' : Nat), (∀ y, lo = some y → AR ι fr a y) → (∀ y, hi = some y → AR ι fr a y) → (∀ y, mx = some y → AR ι fr a y) → cap ≤ cap' →
        ∀ b w, (Instr.sliceBounds b len cap' (lo.map a.eval) (hi.map a.eval) (mx.map a.eval)).run P w = .ok (l, hh, if mx.isNone then cap' else m) w := by
  unfold boundsK at h
  obtain ⟨m, h, m1, m2, m3⟩ := boundK_ok (P := P) h
  have hm : m ≤ cap := by
    cases mx with
    | none => rw [m1 rfl]; exact Nat.le_refl _
    | some y => exact m2 y rfl
  cases hi with
  | none =>
    cases mx with
    | some y => cases h
    | none =>
      try simp only [] at h
      obtain ⟨l, h, l1, l2, l3⟩ := boundK_ok (P := P) h
      have e : m = cap := m1 rfl
      have hl : l ≤ len := by
        cases lo with
        | none => rw [l1 rfl]; omega
        | some y => exact l2 y rfl
      refine ⟨l, len, m, h, m1, hl, by omega, hm, fun ι a cap' a1 a2 a3 hcc b w => ?_⟩
      cases lo with
      | none => simp [Instr.sliceBounds, l1 rfl]
      | some y => simp [Instr.sliceBounds, l3 ι a y rfl (a1 y rfl) len _ _ (Nat.le_refl _)]
  | some z =>
    cases mx with
    | none =>
      try simp only [] at h
      obtain ⟨hh, h, h1, h2, h3⟩ := boundK_ok (P := P) h
      obtain ⟨l, h, l1, l2, l3⟩ := boundK_ok (P := P) h
      have e : m = cap := m1 rfl
      have hl : l ≤ hh := by
        cases lo with
        | none => rw [l1 rfl]; omega
        | some y => exact l2 y rfl
      refine ⟨l, hh, m, h, m1, hl, by rw [e]; exact h2 z rfl, hm, fun ι a cap' a1 a2 a3 hcc b w => ?_⟩
      have q := fun code => h3 ι a z rfl (a2 z rfl) cap' code w hcc
      cases lo with
      | none => simp [Instr.sliceBounds, l1 rfl, q]
      | some y => simp [Instr.sliceBounds, q, l3 ι a y rfl (a1 y rfl) hh _ _ (Nat.le_refl _)]
    | some x =>
      try simp only [] at h
      obtain ⟨hh, h, h1, h2, h3⟩ := boundK_ok (P := P) h
      obtain ⟨l, h, l1, l2, l3⟩ := boundK_ok (P := P) h
      have hl : l ≤ hh := by
        cases lo with
        | none => rw [l1 rfl]; omega
        | some y => exact l2 y rfl
      refine ⟨l, hh, m, h, m1, hl, h2 z rfl, hm, fun ι a cap' a1 a2 a3 hcc b w => ?_⟩
      have q := fun code => h3 ι a z rfl (a2 z rfl) m code w (Nat.le_refl _)
      have qm := fun code => m3 ι a x rfl (a3 x rfl) cap' code w hcc
      cases lo with
      | none => simp [Instr.sliceBounds, l1 rfl, q, qm]
      | some y => simp [Instr.sliceBounds, q, qm, l3 ι a y rfl (a1 y rfl) hh _ _ (Nat.le_refl _)]
omit hT in
theorem run_slice_slice {t e : TypeId} {i : TypeInfo} (hu : P.underlying t = some (.slice e)) (hi : P.info? e = some i) (a : Option Addr) (len cap : Nat) (lo hi' mx : Option Value) (l h m : Nat) (w : World)
    (hb : ∀ b w, (Instr.sliceBounds b len cap lo hi' mx).run P w = .ok (l, h, m) w) :
    (Instr.sliceAt t (.slice a len cap) lo hi' mx).run P w = .ok (.slice (if m = l then a else a.map (·.add (l * i.size))) (h - l) (m - l)) w := by
  simp [Instr.sliceAt, Instr.slice, run_underlying hu, hb, run_sizeOf hi]
theorem opSlice_ok {fr : Frame} {t : TypeId} {x : Value} {lo hi mx : Option Operand} {k : Value → Res} {r : Value × AH} (h : opSlice T fr t x lo hi mx k = some r) :
    ∃ v, k v = some r ∧ ∀ ι a x' w, VR ι x x' → (∀ y, lo = some y → AR ι fr a y) → (∀ y, hi = some y → AR ι fr a y) → (∀ y, mx = some y → AR ι fr a y) →
      ∃ v', (Instr.sliceAt t x' (lo.map a.eval) (hi.map a.eval) (mx.map a.eval)).run P w = .ok v' w ∧ VR ι v v' := by
  unfold opSlice at h
  cases hd : T.und t with
  | none => rw [hd] at h; cases h
  | some d =>
    rw [hd] at h
    have hu := hT.und hd
    cases d <;> (try simp only [] at h) <;> first | (cases h; done) | skip
    case string =>
      cases x <;> (try simp only [] at h) <;> first | (cases h; done) | skip
      rename_i s
      cases mx with
      | some y => cases h
      | none =>
        try simp only [] at h
        obtain ⟨l, hh, m, h, m1, b1, b2, b3, hb⟩ := boundsK_ok (P := P) (Nat.le_refl _) h
        refine ⟨_, h, fun ι a x' w hx a1 a2 a3 => ?_⟩
        cases hx
        have hb := hb ι a s.size a1 a2 a3 (Nat.le_refl _) false w
        refine ⟨_, ?_, .string _⟩
        simp only [Option.map_none] at hb
        simp [Instr.sliceAt, Instr.slice, run_underlying hu, hb]
    case slice e =>
      cases x <;> (try simp only [] at h) <;> first | (cases h; done) | skip
      rename_i oa len cap
      obtain ⟨i, hi1, h, hsz⟩ := sizeT_ok hT h
      obtain ⟨inf, z, hinf, hs, _⟩ := (hT.get hi1).info
      obtain ⟨hlc, h⟩ := cond_some h
      have hlc := Nat.le_of_ble_eq_true hlc
      cases oa with
      | none =>
        try simp only [] at h
        obtain ⟨hc0, h⟩ := cond_some h
        have hc0 := Nat.eq_of_beq_eq_true hc0
        obtain ⟨l, hh, m, h, m1, b1, b2, b3, hb⟩ := boundsK_ok (P := P) hlc h
        refine ⟨_, h, fun ι a x' w hx a1 a2 a3 => ?_⟩
        cases hx
        have hb := hb ι a 0 a1 a2 a3 (by omega)
        refine ⟨_, run_slice_slice hu hinf none 0 0 _ _ _ _ _ _ w hb, ?_⟩
        have : hh - l = 0 := by omega
        have h2 : (if mx.isNone then 0 else m) - l = 0 := by split <;> omega
        rw [this, h2]
        have h3 : (if (if mx.isNone = true then 0 else m) = l then (none : Option Addr) else Option.map (fun x : Addr => x.add (l * inf.size)) none) = none := by simp
        rw [h3]
        exact .sliceNil
      | some ad =>
        try simp only [] at h
        obtain ⟨l, hh, m, h, m1, b1, b2, b3, hb⟩ := boundsK_ok (P := P) hlc h
        refine ⟨_, h, fun ι a x' w hx a1 a2 a3 => ?_⟩
        have addE : ∀ (c o n : Nat), (⟨c, o, none⟩ : Addr).add n = ⟨c, o + n, none⟩ := by intro c o n; unfold Addr.add; split <;> simp_all
        cases hx with
        | slice b o l0 k0 j hj =>
          have hb := hb ι a cap a1 a2 a3 (Nat.le_refl _)
          refine ⟨_, run_slice_slice hu hinf _ len cap _ _ _ _ _ _ w hb, ?_⟩
          have hmm : (if mx.isNone = true then cap else m) = m := by
            cases mx with
            | none => simp [m1 rfl]
            | some y => simp
          rw [hmm]
          simp only [sliceHead]
          by_cases hml : m = l
          · subst hml
            simp
            exact .slice _ _ _ _ j hj
          · have : Nat.beq m l = false := beq_ne hml
            simp only [this, cond_false, hml, if_false, Option.map_some, addE, hs, Nat.add_assoc]
            exact .slice _ _ _ _ j hj
        | sliceX b o l0 k0 k' sz j hj hz hk hx =>
          have hb := hb ι a k' a1 a2 a3 hk
          refine ⟨_, run_slice_slice hu hinf _ len k' _ _ _ _ _ _ w hb, ?_⟩
          cases mx with
          | some y =>
            have hz0 : Nat.beq sz 0 = false := by cases sz with | zero => omega | succ n => rfl
            simp only [sliceHead, Option.isNone_some, Bool.false_eq_true, if_false, hz0, cond_false]
            by_cases hml : m = l
            · subst hml
              simp
              exact .slice _ _ _ _ j hj
            · have : Nat.beq m l = false := beq_ne hml
              simp only [this, cond_false, hml, if_false, Option.map_some, addE, hs, Nat.add_assoc]
              exact .slice _ _ _ _ j hj
          | none =>
            have hm := m1 rfl
            subst hm
            simp only [sliceHead, Option.isNone_none, if_true]
            by_cases hml : m = l
            · subst hml
              have : hh - m = 0 := by omega
              simp only [Nat.beq_refl, cond_true, this]
              split
              · exact .sliceE _ _ _ _
              · simp only [Option.map_some, addE]; exact .sliceE _ _ _ _
            · have : Nat.beq m l = false := beq_ne hml
              have h2 : ¬ k' = l := by omega
              simp only [this, cond_false, h2, if_false, Option.map_some, addE, hs, Nat.add_assoc]
              exact .sliceX _ _ _ _ _ _ j hj hz (by omega) (by rw [← hx]; congr 1; omega)
        | sliceE b a' o' k' =>
          have hb := hb ι a k' a1 a2 a3 (Nat.zero_le _)
          refine ⟨_, run_slice_slice hu hinf _ 0 k' _ _ _ _ _ _ w hb, ?_⟩
          have e0 : m = 0 := by omega
          have e1 : l = 0 := by omega
          have e2 : hh = 0 := by omega
          subst e0 e1 e2
          cases mx with
          | some y =>
            simp only [sliceHead, Option.isNone_some, Bool.false_eq_true, if_false, Nat.beq_refl, cond_true, Nat.sub_zero]
            split
            · exact .sliceE _ _ _ _
            · simp only [Option.map_some, addE]; exact .sliceE _ _ _ _
          | none =>
            simp only [sliceHead, Option.isNone_none, if_true, Nat.beq_refl, cond_true, Nat.sub_zero]
            split
            · exact .sliceE _ _ _ _
            · simp only [Option.map_some, addE]; exact .sliceE _ _ _ _
    case array n e =>
      obtain ⟨ad, hq, h0⟩ := asPtr_ok h
      clear h; subst hq; have h := h0; clear h0
      obtain ⟨i, hi1, h, hsz⟩ := sizeT_ok hT h
      obtain ⟨inf, z, hinf, hs, _⟩ := (hT.get hi1).info
      obtain ⟨l, hh, m, h, m1, b1, b2, b3, hb⟩ := boundsK_ok (P := P) (Nat.le_refl _) h
      refine ⟨_, h, fun ι a x' w hx a1 a2 a3 => ?_⟩
      have addE : ∀ (c o n : Nat), (⟨c, o, none⟩ : Addr).add n = ⟨c, o + n, none⟩ := by intro c o n; unfold Addr.add; split <;> simp_all
      cases hx with | ptr b o j hj => ?_
      have hb := hb ι a n a1 a2 a3 (Nat.le_refl _) false w
      have hmm : (if mx.isNone = true then n else m) = m := by
        cases mx with
        | none => simp [m1 rfl]
        | some y => simp
      rw [hmm] at hb
      refine ⟨.slice (some (if m = l then ⟨j.blk, j.sh + o, none⟩ else ⟨j.blk, j.sh + o + l * inf.size, none⟩)) (hh - l) (m - l), ?_, ?_⟩
      · simp only [Instr.sliceAt, Sem.run_bind, run_underlying hu, Result.andThen_ok, Instr.sureAddr, Sem.run_pure, hb, run_sizeOf hinf, addE]
      · by_cases hml : m = l
        · subst hml
          simp
          exact .slice _ _ _ _ j hj
        · have : Nat.beq m l = false := beq_ne hml
          simp only [this, cond_false, hml, if_false, hs, Nat.add_assoc]
          exact .slice _ _ _ _ j hj
theorem opFieldAddr_ok {t : TypeId} {x : Value} {n : Nat} {k : Value → Res} {r : Value × AH} (h : opFieldAddr T t x n k = some r) :
    ∃ v, k v = some r ∧ ∀ ι x' w, VR ι x x' → ∃ v', (Instr.fieldAt t x' n).run P w = .ok v' w ∧ VR ι v v' := by
  unfold opFieldAddr at h
  cases x with
  | pointer oa => cases oa with
    | none => cases h
    | some ad =>
      try simp only [] at h
      obtain ⟨fd, hfd, h⟩ := Option.bind_eq_some_iff.1 h
      obtain ⟨i, hi1, h, hsz⟩ := sizeT_ok hT h
      cases hs0 : decide (i.size = 0) with
      | true => rw [hs0] at h; cases h
      | false =>
        rw [hs0, cond_false] at h
        have hs0 := of_decide_eq_false hs0
        rw [getL_eq] at hfd
        unfold fieldsOf at hfd
        cases hd : T.und t with
        | none => rw [hd] at hfd; simp at hfd
        | some d =>
          rw [hd] at hfd
          have hu := hT.und hd
          cases d <;> (try simp only [] at hfd) <;> first | (simp at hfd; done) | skip
          rename_i fs
          refine ⟨_, h, fun ι x' w hx => ?_⟩
          cases hx with | ptr b o j hj => ?_
          have hf : fs[n]? = some fd := by simpa using hfd
          have addE : ∀ (c o n : Nat), (⟨c, o, none⟩ : Addr).add n = ⟨c, o + n, none⟩ := by intro c o n; unfold Addr.add; split <;> simp_all
          refine ⟨.pointer (some ⟨j.blk, j.sh + o + fd.offset, none⟩), ?_, ?_⟩
          · simp [Instr.fieldAt, run_underlying hu, hf, Instr.sureAddr, fieldPlace, hsz, hs0, addE]
          · rw [Nat.add_assoc]; exact .ptr _ _ j hj
  | _ => cases h
omit hT in
theorem pickL_eq (l : List Value) (i : Nat) (k : Value → Res) : ∀ j, pickL l i k j = if j ≤ i then (l[i - j]?).bind k else none := by
  induction l with
  | nil => intro j; show none = _; simp
  | cons x l ih =>
    intro j
    show cond (Nat.beq i j) (k x) (pickL l i k (j + 1)) = _
    cases hb : Nat.beq i j with
    | true =>
      have := Nat.eq_of_beq_eq_true hb
      subst this
      simp
    | false =>
      have hne : i ≠ j := fun e => by subst e; rw [Nat.beq_refl] at hb; cases hb
      rw [cond_false, ih]
      by_cases hj : j ≤ i
      · rw [if_pos hj, if_pos (by omega), show i - j = (i - (j + 1)) + 1 by omega]; simp
      · rw [if_neg hj, if_neg (by omega)]
theorem partK_ok {t : TypeId} {cs : List Value} {o : Nat} {k : Value → Res} {r : Value × AH} (h : partK T t cs o k = some r) (hg : ∃ i, T.get t = some i) :
    ∃ v, k v = some r ∧ ∀ ι cs' w, VRs ι cs cs' → ∃ v', (part t ⟨cs'⟩ o).run P w = .ok v' w ∧ VR ι v v' := by
  unfold partK at h
  obtain ⟨i, hg⟩ := hg
  cases ha : isAggT T t with
  | true =>
    rw [ha, cond_true] at h
    obtain ⟨i, hi1, h, hsz⟩ := sizeT_ok hT h
    obtain ⟨l, hl, h⟩ := Option.bind_eq_some_iff.1 h
    rw [dropL_eq, takeL_eq] at hl
    split at hl
    · rename_i hle
      simp at hl
      subst hl
      refine ⟨_, h, fun ι cs' w hc => ?_⟩
      refine ⟨.agg ⟨(cs'.drop o).take i.size⟩, ?_, .agg _ _ ((hc.drop o).take i.size)⟩
      simp only [part, Sem.run_bind, isAggT_ok hT ha, Result.andThen_ok, if_true, hsz, Sem.run_pure]
      congr 2
      apply Array.ext'
      simp [List.take_drop]
    · cases hl
  | false =>
    rw [ha, cond_false, pickL_eq, if_pos (Nat.zero_le _), Nat.sub_zero] at h
    obtain ⟨v, hv, h⟩ := Option.bind_eq_some_iff.1 h
    refine ⟨v, h, fun ι cs' w hc => ?_⟩
    obtain ⟨v', h1, h2⟩ := hc.get hv
    refine ⟨v', ?_, h2⟩
    have : (⟨cs'⟩ : Array Value)[o]? = some v' := by simpa using h1
    simp [part, isAggT_no hT hg ha, this]
theorem opField_ok {t : TypeId} {x : Value} {n : Nat} {k : Value → Res} {r : Value × AH} (h : opField T t x n k = some r) :
    ∃ v, k v = some r ∧ ∀ ι x' w, VR ι x x' → ∃ v', (Instr.field t x' n).run P w = .ok v' w ∧ VR ι v v' := by
  unfold opField at h
  cases x <;> (try simp only [] at h) <;> first | (cases h; done) | skip
  rename_i cs
  obtain ⟨cs⟩ := cs
  obtain ⟨fd, hfd, h⟩ := Option.bind_eq_some_iff.1 h
  rw [getL_eq] at hfd
  unfold fieldsOf at hfd
  obtain ⟨hg, h⟩ := cond_some h
  cases hd : T.und t with
  | none => rw [hd] at hfd; simp at hfd
  | some d =>
    rw [hd] at hfd
    have hu := hT.und hd
    cases d <;> (try simp only [] at hfd) <;> first | (simp at hfd; done) | skip
    rename_i fs
    have hg : ∃ i, T.get fd.type = some i := by cases hq : T.get fd.type <;> simp_all
    obtain ⟨v, h1, h2⟩ := partK_ok hT h hg
    refine ⟨v, h1, fun ι x' w hx => ?_⟩
    cases hx with | agg _ cs' hc => ?_
    have hf : fs[n]? = some fd := by simpa using hfd
    obtain ⟨v', h3, h4⟩ := h2 ι cs' w hc
    exact ⟨v', by simp [Instr.field, run_underlying hu, hf, asAgg, h3], h4⟩
theorem opIndexAddr_ok {t : TypeId} {x ix : Value} {k : Value → Res} {r : Value × AH} (h : opIndexAddr T t x ix k = some r) :
    ∃ v, k v = some r ∧ ∀ ι x' ix' w, VR ι x x' → VR ι ix ix' → ∃ v', (Instr.indexAt t x' ix').run P w = .ok v' w ∧ VR ι v v' := by
  unfold opIndexAddr at h
  obtain ⟨kd, n, hq, h0⟩ := asI_ok h
  clear h; subst hq; have h := h0; clear h0
  have addE : ∀ (c o n : Nat), (⟨c, o, none⟩ : Addr).add n = ⟨c, o + n, none⟩ := by intro c o n; unfold Addr.add; split <;> simp_all
  cases hd : T.und t with
  | none => rw [hd] at h; cases h
  | some d =>
    rw [hd] at h
    have hu := hT.und hd
    cases d <;> (try simp only [] at h) <;> first | (cases h; done) | skip
    case slice e =>
      cases x <;> (try simp only [] at h) <;> first | (cases h; done) | skip
      rename_i oa len cap
      cases oa with
      | none => cases h
      | some ad =>
        try simp only [] at h
        obtain ⟨i, hi1, h, hsz⟩ := sizeT_ok hT h
        obtain ⟨hc, h⟩ := cond_some h
        simp only [Bool.and_eq_true, decide_eq_true_eq] at hc
        refine ⟨_, h, fun ι x' ix' w hx hix => ?_⟩
        cases hix
        cases hx with
        | slice b o l0 k0 j hj =>
          refine ⟨.pointer (some ⟨j.blk, j.sh + o + n.toNat * i.size, none⟩), ?_, by rw [Nat.add_assoc]; exact .ptr _ _ j hj⟩
          simp [Instr.indexAt, asIntOf, run_underlying hu, hc, hsz, addE]
        | sliceX b o l0 k0 k' sz j hj hz hk hx =>
          refine ⟨.pointer (some ⟨j.blk, j.sh + o + n.toNat * i.size, none⟩), ?_, by rw [Nat.add_assoc]; exact .ptr _ _ j hj⟩
          simp [Instr.indexAt, asIntOf, run_underlying hu, hc, hsz, addE]
        | sliceE b a' o' k' => omega
    case array m e =>
      cases x <;> (try simp only [] at h) <;> first | (cases h; done) | skip
      rename_i oa
      cases oa with
      | none => cases h
      | some ad =>
        try simp only [] at h
        obtain ⟨i, hi1, h, hsz⟩ := sizeT_ok hT h
        obtain ⟨hc, h⟩ := cond_some h
        simp only [Bool.and_eq_true, decide_eq_true_eq] at hc
        refine ⟨_, h, fun ι x' ix' w hx hix => ?_⟩
        cases hix
        cases hx with
        | ptr b o j hj =>
          refine ⟨.pointer (some ⟨j.blk, j.sh + o + n.toNat * i.size, none⟩), ?_, by rw [Nat.add_assoc]; exact .ptr _ _ j hj⟩
          simp [Instr.indexAt, asIntOf, run_underlying hu, hc, hsz, addE, Instr.sureAddr]
theorem opIndex_ok {t : TypeId} {x ix : Value} {k : Value → Res} {r : Value × AH} (h : opIndex T t x ix k = some r) :
    ∃ v, k v = some r ∧ ∀ ι x' ix' w, VR ι x x' → VR ι ix ix' → ∃ v', (Instr.index t x' ix').run P w = .ok v' w ∧ VR ι v v' := by
  unfold opIndex at h
  obtain ⟨kd, n, hq, h0⟩ := asI_ok h
  clear h; subst hq; have h := h0; clear h0
  cases hd : T.und t with
  | none => rw [hd] at h; cases h
  | some d =>
    rw [hd] at h
    have hu := hT.und hd
    cases d <;> (try simp only [] at h) <;> first | (cases h; done) | skip
    case array m e =>
      cases x <;> (try simp only [] at h) <;> first | (cases h; done) | skip
      rename_i cs
      obtain ⟨cs⟩ := cs
      obtain ⟨i, hi1, h, hsz⟩ := sizeT_ok hT h
      obtain ⟨hc, h⟩ := cond_some h
      simp only [Bool.and_eq_true, decide_eq_true_eq] at hc
      obtain ⟨v, h1, h2⟩ := partK_ok hT h ⟨i, hi1⟩
      refine ⟨v, h1, fun ι x' ix' w hx hix => ?_⟩
      cases hix
      cases hx with | agg _ cs' hcs => ?_
      obtain ⟨v', h3, h4⟩ := h2 ι cs' w hcs
      exact ⟨v', by simp [Instr.index, asIntOf, run_underlying hu, hc, hsz, h3], h4⟩
    case string =>
      cases x <;> (try simp only [] at h) <;> first | (cases h; done) | skip
      rename_i s
      obtain ⟨hc, h⟩ := cond_some h
      have hc := of_decide_eq_true hc
      obtain ⟨b, hb, h⟩ := Option.bind_eq_some_iff.1 h
      refine ⟨_, h, fun ι x' ix' w hx hix => ?_⟩
      cases hix; cases hx
      exact ⟨_, by simp [Instr.index, asIntOf, run_underlying hu, hc, hb], .int _ _⟩
omit hT in
theorem fold_set (off : Nat) : ∀ (l : List Value) (s : Nat) (cs : Array Value), off + s + l.length ≤ cs.size →
    (l.zipIdx s).foldl (fun cs (c, j) => cs.setIfInBounds (off + j) c) cs = ⟨cs.toList.take (off + s) ++ l ++ cs.toList.drop (off + s + l.length)⟩ := by
  intro l
  induction l with
  | nil => intro s cs _; simp
  | cons x l ihl =>
    intro s cs hcs
    simp only [List.zipIdx_cons, List.foldl_cons]
    simp only [List.length_cons] at hcs
    rw [ihl (s + 1) _ (by simp; omega)]
    congr 1
    have hlt : off + s < cs.toList.length := by simp; omega
    simp only [Array.toList_setIfInBounds, List.length_cons]
    rw [List.set_eq_take_append_cons_drop, if_pos hlt]
    have e1 : (cs.toList.take (off + s)).length = off + s := by simp; omega
    rw [List.take_append, List.drop_append, e1]
    have e2 : off + (s + 1) - (off + s) = 1 := by omega
    have e3 : off + (s + 1) + l.length - (off + s) = l.length + 1 := by omega
    rw [e2, e3, List.take_of_length_le (i := off + (s + 1)) (l := cs.toList.take (off + s)) (by rw [e1]; omega), List.drop_of_length_le (i := off + (s + 1) + l.length) (l := cs.toList.take (off + s)) (by rw [e1]; omega)]
    simp
    congr 1
    omega
omit hT in
theorem fillL_ok {place : Nat → Option (Nat × Nat)} : ∀ {ps : List (Nat × Value)} {cells c : List Value}, fillL place cells ps = some c →
    ∀ ι (cells' : List Value) (ps' : List (Nat × Value)), VRs ι cells cells' → ps'.map (·.1) = ps.map (·.1) → VRs ι (ps.map (·.2)) (ps'.map (·.2)) →
      ∃ c', Instr.fill place ⟨cells'⟩ ps' = some ⟨c'⟩ ∧ VRs ι c c' := by
  intro ps
  induction ps with
  | nil =>
    intro cells c h ι cells' ps' hc hp hv
    have : some cells = some c := h
    simp at this
    subst this
    cases ps' with
    | nil => exact ⟨cells', rfl, hc⟩
    | cons p ps' => simp at hp
  | cons p ps ih =>
    intro cells c h ι cells' ps' hc hp hv
    cases ps' with
    | nil => simp at hp
    | cons p' ps' =>
      obtain ⟨n, v⟩ := p
      obtain ⟨n', v'⟩ := p'
      simp at hp
      obtain ⟨rfl, hp⟩ := hp
      cases hv with | cons _ _ _ _ hv hvs => ?_
      have h' : (place n').bind (fun q => cond (solid v && Nat.beq (cellsOf v).length q.2) ((setN cells (cellsOf v) q.1).bind (fun c => fillL place c ps)) none) = some c := h
      obtain ⟨⟨off, size⟩, hq, h'⟩ := Option.bind_eq_some_iff.1 h'
      obtain ⟨hc1, h'⟩ := cond_some h'
      simp only [Bool.and_eq_true] at hc1
      have hsz := Nat.eq_of_beq_eq_true hc1.2
      try simp only at hsz
      obtain ⟨c1, hs1, h'⟩ := Option.bind_eq_some_iff.1 h'
      obtain ⟨hle, rfl⟩ := setN_some _ _ _ _ hs1
      have hvc := cells_of hv
      have hl := hvc.length
      have hl' := hc.length
      have hf := fold_set off v'.cells.toList 0 ⟨cells'⟩ (by simp [hl, hl']; omega)
      simp only [Nat.add_zero] at hf
      obtain ⟨c', h3, h4⟩ := ih h' ι (cells'.take off ++ v'.cells.toList ++ cells'.drop (off + v'.cells.toList.length)) ps' (by
        rw [hl]
        exact ((hc.take off).append hvc).append (hc.drop _)) hp hvs
      refine ⟨c', ?_, h4⟩
      have hsz' : v'.cells.size = (cellsOf v).length := cells_len hv
      have n1 : ¬ (v'.cells.size ≠ size || off + v'.cells.size > (⟨cells'⟩ : Array Value).size) = true := by
        simp [hsz', hsz, hl']; omega
      have hz : v'.cells.zipIdx.foldl (fun cs (c, j) => cs.setIfInBounds (off + j) c) (⟨cells'⟩ : Array Value) = ⟨cells'.take off ++ v'.cells.toList ++ cells'.drop (off + v'.cells.toList.length)⟩ := by
        rw [← Array.foldl_toList, Array.toList_zipIdx]
        exact hf
      simp only [Instr.fill, hq]
      rw [if_neg n1, hz]
      exact h3
omit hT in
theorem parts_some {fr : Frame} : ∀ {xs : List (Nat × Operand)} {ps : List (Nat × Value)}, parts fr xs = some ps → ∀ ι a, (∀ x ∈ xs, AR ι fr a x.2) →
    ps.map (·.1) = xs.map (·.1) ∧ VRs ι (ps.map (·.2)) (xs.map fun x => a.eval x.2) := by
  intro xs
  induction xs with
  | nil => intro ps h ι a _; have : some [] = some ps := h; simp at this; subst this; exact ⟨rfl, .nil⟩
  | cons x xs ih =>
    intro ps h ι a ha
    have h' : (arg fr x.2).bind (fun v => (parts fr xs).bind fun vs => some ((x.1, v) :: vs)) = some ps := h
    obtain ⟨v, hv, h'⟩ := Option.bind_eq_some_iff.1 h'
    obtain ⟨us, hus, h'⟩ := Option.bind_eq_some_iff.1 h'
    simp at h'
    subst h'
    obtain ⟨h1, h2⟩ := ih hus ι a (fun y hy => ha y (by simp [hy]))
    exact ⟨by simp [h1], .cons _ _ _ _ (ha x (by simp) v hv) h2⟩
omit hT in
theorem argsR {fr : Frame} : ∀ {xs : List Operand} {vs : List Value}, args fr xs = some vs → ∀ ι a, (∀ x ∈ xs, AR ι fr a x) → VRs ι vs (xs.map a.eval) := by
  intro xs
  induction xs with
  | nil => intro ps h ι a _; have : some [] = some ps := h; simp at this; subst this; exact .nil
  | cons x xs ih =>
    intro ps h ι a ha
    have h' : (arg fr x).bind (fun v => (args fr xs).bind fun vs => some (v :: vs)) = some ps := h
    obtain ⟨v, hv, h'⟩ := Option.bind_eq_some_iff.1 h'
    obtain ⟨us, hus, h'⟩ := Option.bind_eq_some_iff.1 h'
    simp at h'
    subst h'
    exact .cons _ _ _ _ (ha x (by simp) v hv) (ih hus ι a (fun y hy => ha y (by simp [hy])))
theorem places_struct {fs : Array Field} (w : World) (hok : ∀ f ∈ fs.toList, ∃ i, T.get f.type = some i) :
    (fs.mapM (fun f => (do pure (f.offset, ← sizeOf f.type) : Sem (Nat × Nat)))).run P w = .ok (fs.map fun f => (f.offset, (match T.get f.type with | some i => i.size | none => 0))) w := by
  rw [Array.mapM_eq_mapM_toList]
  have key : ∀ (l : List Field), (∀ f ∈ l, ∃ i, T.get f.type = some i) →
      (l.mapM (fun f => (do pure (f.offset, ← sizeOf f.type) : Sem (Nat × Nat)))).run P w = .ok (l.map fun f => (f.offset, (match T.get f.type with | some i => i.size | none => 0))) w := by
    intro l
    induction l with
    | nil => intro _; simp
    | cons f l ih =>
      intro hl
      obtain ⟨i, hi⟩ := hl f (by simp)
      obtain ⟨inf, z, h1, h2, _⟩ := (hT.get hi).info
      simp only [List.mapM_cons, Sem.run_bind, run_sizeOf h1, Result.andThen_ok, Sem.run_pure, ih (fun g hg => hl g (by simp [hg]))]
      simp [hi, h2]
  simp only [Sem.run_map, key _ hok, Result.andThen_ok]
  congr 1
  apply Array.ext'
  simp
theorem opBuild_ok {t : TypeId} {ps : List (Nat × Value)} {k : Value → Res} {r : Value × AH} (h : opBuild T t ps k = some r) :
    ∃ v, k v = some r ∧ ∀ ι (ps' : Array (Nat × Value)) w, ps'.toList.map (·.1) = ps.map (·.1) → VRs ι (ps.map (·.2)) (ps'.toList.map (·.2)) → ∃ v', (Instr.build t ps').run P w = .ok v' w ∧ VR ι v v' := by
  unfold opBuild at h
  obtain ⟨i, z, hg, h, hz, zp, zs, zc, zl, zr, zrs, zt, zag, zno⟩ := zeroOf_ok hT h
  obtain ⟨pl, hpl, h⟩ := Option.bind_eq_some_iff.1 h
  obtain ⟨c, hc, h⟩ := Option.bind_eq_some_iff.1 h
  refine ⟨_, h, fun ι ps' w h1 h2 => ?_⟩
  obtain ⟨c', f1, f2⟩ := fillL_ok hc ι i.zero ps'.toList (zrs ι) h1 h2
  refine ⟨.agg ⟨c'⟩, ?_, .agg _ _ f2⟩
  have zt' : z.cells = ⟨i.zero⟩ := by apply Array.ext'; exact zt
  unfold placesOf at hpl
  cases hd : T.und t with
  | none => rw [hd] at hpl; cases hpl
  | some d =>
    rw [hd] at hpl
    have hu := hT.und hd
    cases d <;> (try simp only [] at hpl) <;> first | (cases hpl; done) | skip
    case struct fs =>
      obtain ⟨hok, hpl⟩ := cond_some hpl
      simp at hpl
      have hok' : ∀ f ∈ fs.toList, ∃ i, T.get f.type = some i := by
        intro f hf
        have := List.all_eq_true.1 hok f hf
        cases hq : T.get f.type <;> simp_all
      have hp := places_struct hT w hok'
      have e : (fun x => (fs.map fun f => (f.offset, (match T.get f.type with | some i => i.size | none => 0)))[x]?) = pl := by
        rw [← hpl]
        funext n
        simp only [Array.getElem?_map, getL_eq]
        cases hf : fs[n]? with
        | none => simp [hf]
        | some f =>
          have : f ∈ fs.toList := by
            have := Array.mem_of_getElem? hf
            simpa using this
          obtain ⟨j, hj⟩ := hok' f this
          simp [hf, hj]
      simp only [Instr.build, Sem.run_bind, hz, Result.andThen_ok, run_underlying hu, hp, zt', e, f1, Sem.run_pure]
    case array n e =>
      obtain ⟨j, hj, hpl⟩ := Option.bind_eq_some_iff.1 hpl
      simp at hpl
      obtain ⟨inf, z', h3, h4, _⟩ := (hT.get hj).info
      rw [← h4] at hpl
      rw [← hpl] at f1
      simp only [Instr.build, Sem.run_bind, hz, Result.andThen_ok, run_underlying hu, run_sizeOf h3, zt', f1, Sem.run_pure]
end
end Go.Proofs.Yteljeekapcenlaa.Ev
