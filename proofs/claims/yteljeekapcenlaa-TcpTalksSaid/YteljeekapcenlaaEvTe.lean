/-
  Ev, part Te: calls whose arguments are told by what they hold. No conditions.
-/
import Derived.Test.YteljeekapcenlaaEvTd
namespace Go.Proofs.Yteljeekapcenlaa.Ev
open Go Go.RowKit
set_option linter.unusedSimpArgs false
set_option linter.unusedVariables false
mutual
inductive DR (w : World) : Value → Value → Prop
  | scalar (v) (h : plainN 0 v = true) : DR w v v
  | dSl (sz cs n cap r o vs) (hz : 0 < sz) (hl : cs.length = n * sz) (hc : n ≤ cap) (hv : ∀ i v, vs[i]? = some v → w.cell? ⟨r, o + i, none⟩ = some v) (h : DRs w cs vs) (ho : ∀ d ∈ cs, cellOk d = true) :
      DR w (.iface sz (.agg ⟨.chan (some 0) :: cs⟩)) (.slice (some ⟨r, o, none⟩) n cap)
  | dNil (sz) (hz : 0 < sz) : DR w (.iface sz (.agg ⟨[.chan (some 0)]⟩)) (.slice none 0 0)
  | dSe (sz) (a : Addr) (hz : 0 < sz) : DR w (.iface sz (.agg ⟨[.chan (some 0)]⟩)) (.slice (some a) 0 0)
  | dPt (off cs r o vs) (hv : ∀ i v, vs[i]? = some v → w.cell? ⟨r, o + i, none⟩ = some v) (h : DRs w cs vs) (ho : ∀ d ∈ cs, cellOk d = true) :
      DR w (.iface off (.agg ⟨.chan (some 1) :: cs⟩)) (.pointer (some ⟨r, o + off, none⟩))
  | func (fn f f' c c') (hf : DRs w f f') (hc : DRs w c c') : DR w (.func fn ⟨f⟩ ⟨c⟩) (.func fn ⟨f'⟩ ⟨c'⟩)
  | agg (c c') (h : DRs w c c') : DR w (.agg ⟨c⟩) (.agg ⟨c'⟩)
inductive DRs (w : World) : List Value → List Value → Prop
  | nil : DRs w [] []
  | cons (v v' l l') (h : DR w v v') (hs : DRs w l l') : DRs w (v :: l) (v' :: l')
end
def Emb.of (w : World) : Emb := ⟨fun _ => none, fun r i d => ∃ v', w.cell? ⟨r, i, none⟩ = some v' ∧ DR w d v' ∧ cellOk d = true, fun r i d => ∃ v', w.cell? ⟨r, i, none⟩ = some v' ∧ DR w d v' ∧ cellOk d = true⟩
theorem DRs.len {w : World} : ∀ {l l' : List Value}, DRs w l l' → l'.length = l.length
  | _, _, .nil => rfl
  | _, _, .cons _ _ _ _ _ hs => by simp [hs.len]
theorem DRs.get {w : World} : ∀ {l l' : List Value}, DRs w l l' → ∀ {i : Nat} {v : Value}, l[i]? = some v → ∃ v', l'[i]? = some v' ∧ DR w v v'
  | _, _, .nil, i, v, h => by simp at h
  | _, _, .cons x x' l l' hx hs, i, v, h => by
    cases i with
    | zero => simp at h; subst h; exact ⟨x', by simp, hx⟩
    | succ i => simp at h; obtain ⟨v', h1, h2⟩ := hs.get h; exact ⟨v', by simpa using h1, h2⟩
theorem plain0_vr {ι : Emb} {v : Value} (h : plainN 0 v = true) : VR ι v v := plainN_refl ι 0 v h
mutual
theorem DR.vr {w : World} : ∀ {d v : Value}, DR w d v → VR (Emb.of w) d v
  | _, _, .scalar v h => plain0_vr h
  | _, _, .dSl sz cs n cap r o vs hz hl hc hv h ho => .dSl sz cs n cap r o hz hl hc (fun i d hd => by
      obtain ⟨v', h1, h2⟩ := h.get hd
      exact ⟨v', hv _ _ h1, h2, ho d (List.mem_of_getElem? hd)⟩)
  | _, _, .dNil sz hz => .dNil sz hz
  | _, _, .dSe sz a hz => .dSe sz a hz
  | _, _, .dPt off cs r o vs hv h ho => .dPt off cs r o (fun i d hd => by
      obtain ⟨v', h1, h2⟩ := h.get hd
      exact ⟨v', hv _ _ h1, h2, ho d (List.mem_of_getElem? hd)⟩)
  | _, _, .func fn f f' c c' hf hc => .func fn f f' c c' hf.vrs hc.vrs
  | _, _, .agg c c' h => .agg c c' h.vrs
theorem DRs.vrs {w : World} : ∀ {l l' : List Value}, DRs w l l' → VRs (Emb.of w) l l'
  | _, _, .nil => .nil
  | _, _, .cons v v' l l' h hs => .cons v v' l l' h.vr hs.vrs
end
theorem HR.of (w : World) : HR w.heap.size (Emb.of w) ⟨[], 0, []⟩ w :=
  ⟨fun _ _ h => (by cases h), fun _ _ h => (by cases h), fun _ _ _ _ h => (by cases h), Nat.le_refl _, fun r i d h => by
    obtain ⟨v', h1, h2, h3⟩ := h
    exact ⟨⟨v', h1, h2.vr⟩, fun _ _ q => (by cases q), .inl ⟨v', h1, h2, h3⟩, h3⟩⟩
theorem sizeOf_mem {cs : List Value} {d : Value} (h : d ∈ cs) : SizeOf.sizeOf d < SizeOf.sizeOf cs := List.sizeOf_lt_of_mem h
theorem cellDR {B : Nat} {ι : Emb} {H : AH} {w : World} (hH : HR B ι H w) : ∀ (n : Nat) (d v : Value), SizeOf.sizeOf d < n → cellOk d = true → VR ι d v → DR w d v := by
  intro n
  induction n with
  | zero => intro d v h; omega
  | succ n ih =>
    intro d v hn ho h
    rcases cellOk_some ho with ⟨b, rfl⟩ | ⟨k, m, rfl⟩ | ⟨s, rfl⟩ | ⟨t, cs, rfl⟩
    · cases h; exact .scalar _ rfl
    · cases h; exact .scalar _ rfl
    · cases h; exact .scalar _ rfl
    · obtain ⟨hz, h⟩ := h.dS_inv
      rcases h with ⟨⟨oa, rfl⟩, rfl⟩ | ⟨m, cap, r, o, rfl, hl, hc, hf⟩
      · cases oa with
        | none => exact .dNil _ hz
        | some a => exact .dSe _ _ hz
      · have hsz : SizeOf.sizeOf cs < SizeOf.sizeOf (dS t cs) := by
          show SizeOf.sizeOf cs < SizeOf.sizeOf (Value.iface t (.agg ⟨.chan (some 0) :: cs⟩))
          simp; omega
        have key : ∀ (l : List Value) (q : Nat), (∀ d ∈ l, d ∈ cs) → (∀ i d, l[i]? = some d → ι.fz r (q + i) d) → ∃ vs, DRs w l vs ∧ ∀ i v, vs[i]? = some v → w.cell? ⟨r, q + i, none⟩ = some v := by
          intro l
          induction l with
          | nil => intro q _ _; exact ⟨[], .nil, fun i v h => by simp at h⟩
          | cons x l ihl =>
            intro q hm hq
            obtain ⟨⟨v', h1, h2⟩, _, _, h3⟩ := hH.fz _ _ _ (hq 0 x rfl)
            have hx : SizeOf.sizeOf x < n := by
              have := sizeOf_mem (hm x List.mem_cons_self)
              omega
            have hdr := ih x v' hx h3 h2
            obtain ⟨vs, g1, g2⟩ := ihl (q + 1) (fun d hd => hm d (List.mem_cons_of_mem _ hd)) (fun i d hd => by
              have := hq (i + 1) d hd
              rw [Nat.add_assoc, Nat.add_comm 1 i]; exact this)
            refine ⟨v' :: vs, .cons _ _ _ _ hdr g1, fun i v hv => ?_⟩
            cases i with
            | zero => simp at hv; subst hv; exact h1
            | succ i =>
              simp at hv
              have := g2 i v hv
              rw [Nat.add_assoc, Nat.add_comm 1 i] at this; exact this
        obtain ⟨vs, g1, g2⟩ := key cs o (fun _ h => h) hf
        exact .dSl _ _ _ _ _ _ vs hz hl hc g2 g1 (fun d hd => by
          obtain ⟨i, hi⟩ := List.getElem?_of_mem hd
          exact (hH.fz _ _ _ (hf i d hi)).2.2.2)
theorem HR.kept {B : Nat} {ι : Emb} {H : AH} {w : World} (hH : HR B ι H w) {d v : Value} (ho : cellOk d = true) (h : VR ι d v) : DR w d v := cellDR hH _ d v (Nat.lt_succ_self _) ho h
theorem HR.keptL {B : Nat} {ι : Emb} {H : AH} {w : World} (hH : HR B ι H w) : ∀ {c vs : List Value}, (∀ d ∈ c, cellOk d = true) → VRs ι c vs → DRs w c vs := by
  intro c
  induction c with
  | nil => intro vs _ h; cases h; exact .nil
  | cons x c ih =>
    intro vs ho h
    cases h with | cons _ v' _ vs' h hs => ?_
    exact .cons _ _ _ _ (hH.kept (ho x List.mem_cons_self) h) (ih (fun d hd => ho d (List.mem_cons_of_mem _ hd)) hs)
theorem blockDR {B : Nat} {ι : Emb} {H : AH} {w : World} (hH : HR B ι H w) {b : Nat} {j : Inj} (hj : ι b = some j) {X : Blk} {c : List Value} (hb : H.bs[b]? = some X) (hX : rowX X c) (ho : ∀ d ∈ c, cellOk d = true) :
    ∃ vs, DRs w c vs ∧ ∀ i v, vs[i]? = some v → w.cell? ⟨j.blk, j.sh + i, none⟩ = some v := by
  obtain ⟨pre, mid, post, e, fz, h1, h2, h3, h4⟩ := hH.rowX hj hb hX
  exact ⟨mid, hH.keptL ho h3, fun i v hv => by have := cell_mid h1 i hv; rw [h2] at this; exact this⟩
def Packs (H : AH) (v d : Value) : Prop := ∀ B ι w v', HR B ι H w → VR ι v v' → DR w d v'
def PacksL (H : AH) (vs ds : List Value) : Prop := ∀ B ι w vs', HR B ι H w → VRs ι vs vs' → DRs w ds vs'
theorem packs_emp {H : AH} {t : Nat} : Packs H (dE t) (dS t []) := by
  intro B ι w v' hH h
  obtain ⟨hz, oa, rfl, hoa⟩ := h.dE_inv
  rcases hoa with rfl | ⟨a', rfl⟩
  · exact .dNil _ hz
  · exact .dSe _ _ hz
theorem packs_own {H : AH} {t b n : Nat} {X : Blk} {cs : List Value} (hb : H.bs[b]? = some X) (hX : rowX X cs) (hn : n * t = cs.length) (ho : X = .bld cs ∨ ∀ d ∈ cs, cellOk d = true) : Packs H (dB t b n) (dS t cs) := by
  intro B ι w v' hH h
  obtain ⟨hz, h⟩ := h.dB_inv
  rcases h with ⟨rfl, oa, rfl, hoa⟩ | ⟨k', j, hj, rfl, hk, hex⟩
  · have hc0 : cs = [] := by simpa using hn.symm
    subst hc0
    rcases hoa with rfl | ⟨a', rfl⟩
    · exact .dNil _ hz
    · exact .dSe _ _ hz
  · have hone : ∀ d ∈ cs, cellOk d = true := by
      rcases ho with rfl | ho
      · exact hH.one hj hb
      · exact ho
    obtain ⟨vs, g1, g2⟩ := blockDR hH hj hb hX hone
    exact .dSl _ _ _ _ _ _ vs hz hn.symm hk g2 g1 hone
theorem packs_kept {H : AH} {d : Value} (ho : cellOk d = true) : Packs H d d := fun B ι w v' hH h => hH.kept ho h
theorem packS_ok {z : Nat} {v : Value} {H : AH} {k : Value → Res} {r : Value × AH} (h : packS z v H k = some r) : ∃ d, k d = some r ∧ Packs H v d := by
  have deep : ∀ u, v = u → deepC u (fun t cs => cond (Nat.beq t z) (k (dS t cs)) none) (fun _ _ => none)
      (fun t b n => cond (Nat.beq t z) (getCells H b fun cs => cond (Nat.beq (n * t) cs.length) (k (dS t cs)) none) none)
      (fun t => cond (Nat.beq t z) (k (dS t [])) none) none = some r → ∃ d, k d = some r ∧ Packs H v d := by
    intro u hu h
    subst hu
    rcases deepC_some h with ⟨t, cs, rfl, g⟩ | ⟨_, _, _, g⟩ | ⟨t, b, n, rfl, g⟩ | ⟨t, rfl, g⟩ | g
    · obtain ⟨_, g⟩ := cond_some g
      exact ⟨_, g, packs_kept rfl⟩
    · cases g
    · obtain ⟨_, g⟩ := cond_some g
      obtain ⟨X, cs, hb, hX, g, ho⟩ := getCells_some g
      obtain ⟨hn, g⟩ := cond_some g
      exact ⟨_, g, packs_own hb hX (Nat.eq_of_beq_eq_true hn) ho⟩
    · obtain ⟨_, g⟩ := cond_some g
      exact ⟨_, g, packs_emp⟩
    · cases g
  unfold packS at h
  cases v with
  | slice a l c =>
    simp only [] at h
    obtain ⟨hc, h1⟩ := cond_some h
    simp only [Bool.and_eq_true] at hc
    obtain ⟨⟨⟨c1, c2⟩, c3⟩, c4⟩ := hc
    have c2 := Nat.eq_of_beq_eq_true c2
    have c3 := Nat.eq_of_beq_eq_true c3
    subst c2 c3
    cases a with
    | some _ => cases c1
    | none => exact ⟨_, h1, fun B ι w v' hH e => by cases e; exact .dNil _ (Nat.le_of_ble_eq_true c4)⟩
  | _ => exact deep _ rfl h
theorem packC_ok {kd : Kd × Nat} {v : Value} {H : AH} {k : Value → Res} {r : Value × AH} (h : packC kd v H k = some r) : ∃ d, k d = some r ∧ Packs H v d := by
  obtain ⟨k1, z⟩ := kd
  have other : cond (okZ (k1, z) v) (k v) none = some r → ∃ d, k d = some r ∧ Packs H v d := fun h => by
    obtain ⟨h1, h2⟩ := cond_some h
    exact ⟨v, h2, packs_kept (okZ_one h1)⟩
  unfold packC at h
  cases k1 with
  | slice => exact packS_ok h
  | _ => exact other h
theorem packL_ok : ∀ {ks : List (Kd × Nat)} {vs : List Value} {H : AH} {k : List Value → Res} {r : Value × AH}, packL ks vs H k = some r → ∃ l, k l = some r ∧ PacksL H vs l := by
  intro ks
  induction ks with
  | nil =>
    intro vs H k r h
    cases vs with
    | nil => exact ⟨[], h, fun B ι w vs' hH hv => by cases hv; exact .nil⟩
    | cons v vs => exact absurd (show none = some r from h) (by simp)
  | cons kd ks ih =>
    intro vs H k r h
    cases vs with
    | nil => exact absurd (show none = some r from h) (by simp)
    | cons v vs =>
      have h : packC kd v H (fun d => packL ks vs H fun l => k (d :: l)) = some r := h
      obtain ⟨d, h1, p1⟩ := packC_ok h
      obtain ⟨l, h2, p2⟩ := ih h1
      exact ⟨_, h2, fun B ι w vs' hH hv => by
        cases hv with | cons _ v' _ vs' e hv => ?_
        exact .cons _ _ _ _ (p1 B ι w v' hH e) (p2 B ι w vs' hH hv)⟩
theorem packA_ok {v : Value} {H : AH} {k : Value → Res} {r : Value × AH} (h : packA v H k = some r) : ∃ d, k d = some r ∧ Packs H v d ∧ cellOk d = true := by
  have deep : ∀ u, v = u → deepC u (fun t cs => k (dS t cs)) (fun _ _ => none)
      (fun t b n => getCells H b fun cs => cond (Nat.beq (n * t) cs.length) (k (dS t cs)) none)
      (fun t => k (dS t [])) none = some r → ∃ d, k d = some r ∧ Packs H v d ∧ cellOk d = true := by
    intro u hu h
    subst hu
    rcases deepC_some h with ⟨t, cs, rfl, g⟩ | ⟨_, _, _, g⟩ | ⟨t, b, n, rfl, g⟩ | ⟨t, rfl, g⟩ | g
    · exact ⟨_, g, packs_kept rfl, rfl⟩
    · cases g
    · obtain ⟨X, cs, hb, hX, g, ho⟩ := getCells_some g
      obtain ⟨hn, g⟩ := cond_some g
      exact ⟨_, g, packs_own hb hX (Nat.eq_of_beq_eq_true hn) ho, rfl⟩
    · exact ⟨_, g, packs_emp, rfl⟩
    · cases g
  unfold packA at h
  cases v with
  | bool b => exact ⟨_, h, packs_kept rfl, rfl⟩
  | int i n => exact ⟨_, h, packs_kept rfl, rfl⟩
  | string s => exact ⟨_, h, packs_kept rfl, rfl⟩
  | _ => exact deep _ rfl h
theorem packAs_ok : ∀ {vs : List Value} {H : AH} {k : List Value → Res} {r : Value × AH}, packAs vs H k = some r → ∃ l, k l = some r ∧ PacksL H vs l ∧ ∀ d ∈ l, cellOk d = true := by
  intro vs
  induction vs with
  | nil => intro H k r h; exact ⟨[], h, (fun B ι w vs' hH hv => by cases hv; exact .nil), by simp⟩
  | cons v vs ih =>
    intro H k r h
    have h : packA v H (fun d => packAs vs H fun l => k (d :: l)) = some r := h
    obtain ⟨d, h1, p1, o1⟩ := packA_ok h
    obtain ⟨l, h2, p2, o2⟩ := ih h1
    refine ⟨_, h2, (fun B ι w vs' hH hv => by
      cases hv with | cons _ v' _ vs' e hv => ?_
      exact .cons _ _ _ _ (p1 B ι w v' hH e) (p2 B ι w vs' hH hv)), fun d hd => ?_⟩
    rcases List.mem_cons.1 hd with rfl | hd
    · exact o1
    · exact o2 d hd
theorem dP_kept {B : Nat} {ι : Emb} {H : AH} {w : World} (hH : HR B ι H w) {off : Nat} {cs : List Value} {v' : Value} (h : VR ι (dP off cs) v') : DR w (dP off cs) v' := by
  obtain ⟨r', o, rfl, hf⟩ := h.dP_inv
  have ho : ∀ d ∈ cs, cellOk d = true := fun d hd => by
    obtain ⟨i, hi⟩ := List.getElem?_of_mem hd
    exact (hH.fz _ _ _ (hf i d hi)).2.2.2
  obtain ⟨l', h1, h2⟩ := (hH.holdsF hf).list
  exact .dPt _ _ _ _ l' h2 (hH.keptL ho h1) ho
theorem packP_ok {v : Value} {H : AH} {k : Value → Res} {r : Value × AH} (h : packP v H k = some r) : ∃ d, k d = some r ∧ Packs H v d := by
  have deep : ∀ u, v = u → deepC u (fun t cs => k (dS t cs)) (fun off cs => k (dP off cs)) (fun _ _ _ => none) (fun _ => none) (packA u H k) = some r → ∃ d, k d = some r ∧ Packs H v d := by
    intro u hu h
    subst hu
    rcases deepC_some h with ⟨t, cs, rfl, g⟩ | ⟨off, cs, rfl, g⟩ | ⟨_, _, _, _, g⟩ | ⟨_, _, g⟩ | g
    · exact ⟨_, g, packs_kept rfl⟩
    · exact ⟨_, g, fun B ι w v' hH h => dP_kept hH h⟩
    · cases g
    · cases g
    · obtain ⟨d, h1, h2, _⟩ := packA_ok g
      exact ⟨d, h1, h2⟩
  unfold packP at h
  cases v with
  | pointer oa =>
    cases oa with
    | none => exact deep _ rfl h
    | some ad =>
      simp only [] at h
      rw [getL_eq] at h
      cases hb : H.bs[ad.block]? with
      | none => rw [hb] at h; cases h
      | some X =>
        rw [hb] at h
        cases X with
        | cells c =>
          simp only [] at h
          obtain ⟨l, h1, p1, o1⟩ := packAs_ok h
          refine ⟨_, h1, fun B ι w v' hH e => ?_⟩
          cases e with | ptr b o' j hj => ?_
          obtain ⟨pre, mid, post, e, fz, q1, q2, q3, q4⟩ := hH.rowX hj hb (.inl rfl)
          exact .dPt _ _ _ _ mid (fun i v hv => by have := cell_mid q1 i hv; rw [q2] at this; exact this) (p1 B ι w mid hH q3) o1
        | bld c =>
          simp only [] at h
          refine ⟨_, h, fun B ι w v' hH e => ?_⟩
          cases e with | ptr b o' j hj => ?_
          have ho := hH.one hj hb
          obtain ⟨vs, g1, g2⟩ := blockDR hH hj hb (.inr rfl) ho
          exact .dPt _ _ _ _ vs g2 g1 ho
        | _ => cases h
  | _ => exact deep _ rfl h
theorem packPs_ok : ∀ {vs : List Value} {H : AH} {k : List Value → Res} {r : Value × AH}, packPs vs H k = some r → ∃ l, k l = some r ∧ PacksL H vs l := by
  intro vs
  induction vs with
  | nil => intro H k r h; exact ⟨[], h, (fun B ι w vs' hH hv => by cases hv; exact .nil)⟩
  | cons v vs ih =>
    intro H k r h
    have h : packP v H (fun d => packPs vs H fun l => k (d :: l)) = some r := h
    obtain ⟨d, h1, p1⟩ := packP_ok h
    obtain ⟨l, h2, p2⟩ := ih h1
    exact ⟨_, h2, fun B ι w vs' hH hv => by
      cases hv with | cons _ v' _ vs' e hv => ?_
      exact .cons _ _ _ _ (p1 B ι w v' hH e) (p2 B ι w vs' hH hv)⟩
theorem packV_ok {T : Ty} {t : TypeId} {v : Value} {H : AH} {k : Value → Res} {r : Value × AH} (h : packV T t v H k = some r) : ∃ d, k d = some r ∧ Packs H v d := by
  have one : ∀ u, v = u → (match kz T 8 t with
    | kd :: ks => (match ks with
      | [] => packC kd u H k
      | _ => none)
    | [] => none) = some r → ∃ d, k d = some r ∧ Packs H v d := by
    intro u hu h
    subst hu
    cases hk : kz T 8 t with
    | nil => rw [hk] at h; cases h
    | cons kd ks =>
      rw [hk] at h
      cases ks with
      | nil => exact packC_ok h
      | cons _ _ => cases h
  unfold packV at h
  cases v with
  | pointer a => exact packP_ok h
  | func fn f c =>
    obtain ⟨f⟩ := f
    obtain ⟨c⟩ := c
    cases fn with
    | func g =>
      obtain ⟨f', h1, p1⟩ := packPs_ok h
      obtain ⟨c', h2, p2⟩ := packPs_ok h1
      refine ⟨_, h2, fun B ι w v' hH e => ?_⟩
      cases e with | func _ _ f'' _ c'' hf hc => ?_
      exact .func _ _ _ _ _ (p1 B ι w _ hH hf) (p2 B ι w _ hH hc)
    | _ => cases h
  | agg cs =>
    obtain ⟨cs⟩ := cs
    obtain ⟨l, h1, p1⟩ := packL_ok h
    refine ⟨_, h1, fun B ι w v' hH e => ?_⟩
    cases e with | agg _ c' hc => ?_
    exact .agg _ _ (p1 B ι w _ hH hc)
  | _ => exact one _ rfl h
theorem packVs_ok {T : Ty} : ∀ {ts : List TypeId} {vs : List Value} {H : AH} {k : List Value → Res} {r : Value × AH}, packVs T ts vs H k = some r → ∃ l, k l = some r ∧ PacksL H vs l := by
  intro ts
  induction ts with
  | nil => intro vs H k r h; exact packPs_ok h
  | cons t ts ih =>
    intro vs H k r h
    cases vs with
    | nil => exact absurd (show none = some r from h) (by simp)
    | cons v vs =>
      have h : packV T t v H (fun d => packVs T ts vs H fun l => k (d :: l)) = some r := h
      obtain ⟨d, h1, p1⟩ := packV_ok h
      obtain ⟨l, h2, p2⟩ := ih h1
      exact ⟨_, h2, fun B ι w vs' hH hv => by
        cases hv with | cons _ v' _ vs' e hv => ?_
        exact .cons _ _ _ _ (p1 B ι w v' hH e) (p2 B ι w vs' hH hv)⟩
section
variable {E : Env} {orc : Orc} {o : Oper} {fr : Frame} {H : AH} {k : K} {r : Value × AH}
theorem call_enter (hE : EnvOk E) {c : Call} (ho : o.op = .call c) {f : Operand} (hcal : c.callee = .value f)
    {g : FuncId} {first captured : Array Value} {vs : List Value} (hf : arg fr f = some (.func (.func g) first captured)) (hv : args fr c.args.toList = some vs) {fnc : Func} (hfn : E.P.funcs[g]? = some fnc) (hbody : fnc.body.isSome = true) :
    ∀ ι a w, ARs ι fr a o → ∃ vs', (execOp a.eval o).run E.P w = .ok (.enter g ⟨vs'⟩) w ∧ VRs ι (first.toList ++ vs ++ captured.toList) vs' := by
  have hname := hE.names g fnc hfn hbody
  have hbn : fnc.body.isNone = false := by cases hb : fnc.body <;> simp_all
  intro ι a w ha
  have e1 : VR ι _ (a.eval f) := ha f (by rw [ho]; simp [Op.operands, Call.operands, hcal]) _ hf
  have e2 := argsR hv ι a (fun x hx => ha x (by rw [ho]; simp [Op.operands, Call.operands, hcal]; right; simpa using hx))
  generalize hg : a.eval f = cc at e1
  obtain ⟨first⟩ := first
  obtain ⟨captured⟩ := captured
  cases e1 with | func _ _ f' _ c' hf' hc' => ?_
  refine ⟨f' ++ c.args.toList.map a.eval ++ c', ?_, (hf'.append e2).append hc'⟩
  have ea : c.args.map a.eval = ⟨c.args.toList.map a.eval⟩ := by apply Array.ext'; simp
  have earr : ((⟨f'⟩ : Array Value) ++ ⟨c.args.toList.map a.eval⟩ ++ ⟨c'⟩) = ⟨f' ++ c.args.toList.map a.eval ++ c'⟩ := by apply Array.ext'; simp
  simp only [execOp, ho, resolve, hcal, hg, Deferred.ofValue, ea, Sem.run_bind, Sem.run_pure, Result.andThen_ok, invoke, earr]
  have hname' : ¬ fnc.name = "runtime.NumGoroutine" := by simpa using hname
  have hbn' : ¬ fnc.body = none := by intro e; rw [e] at hbn; cases hbn
  simp [callFunc, hfn, hname', hbn']
theorem callP_ok (hE : EnvOk E) (hO : OrcOk E orc) {c : Call} (ho : o.op = .call c) {f : Operand} (hcal : c.callee = .value f)
    {g : FuncId} {first captured : Array Value} {vs : List Value} (hf : arg fr f = some (.func (.func g) first captured)) (hv : args fr c.args.toList = some vs) (hm5 : E.pol.mode g ≠ 5)
    (h : callP E orc g (first.toList ++ vs ++ captured.toList) H (fun v => k v H) = some r) :
    ∃ v H', k v H' = some r ∧ Grow H H' ∧ Sim E o fr H v H' := by
  unfold callP at h
  obtain ⟨fnc, hfn, h⟩ := Option.bind_eq_some_iff.1 h
  obtain ⟨hc, h⟩ := cond_some h
  simp only [Bool.and_eq_true] at hc
  obtain ⟨pvs, h, hp⟩ := packVs_ok h
  have main : ∀ q : Value × AH, Good E.P g pvs ⟨[], 0, []⟩ q → destrRes E.T fnc.resultTypes.toList q.1 (fun v => k v H) = some r → ∃ v H', k v H' = some r ∧ Grow H H' ∧ Sim E o fr H v H' := by
    intro q hq h
    obtain ⟨h1, h2⟩ := destrRes_ok h
    have hpl := h2 hc.2
    refine ⟨q.1, H, h1, Grow.refl _, fun B ι a w hH ha next Q hn => ?_⟩
    obtain ⟨vs', hrun, hvr⟩ := call_enter hE ho hcal hf hv hfn hc.1 ι a w ha
    obtain ⟨_, hcall⟩ := hq
    refine wp_enter hrun (hcall _ (Emb.of w) w _ (HR.of w) (hp B ι w vs' hH hvr).vrs) (fun e w' he => ?_)
    obtain ⟨ι', v', rfl, x1, x2, x3, x4⟩ := he
    have hv' := plain7_eq hpl x3
    subst hv'
    exact ⟨_, rfl, hn ι _ w' (Ext.refl _ _) (hH.world x4 hH.size (fun b j hj hl => hH.lt hj hl) (fun r i d hd => hH.fz_lt hd)) (plain7_refl ι hpl) (x4.mono hH.size)⟩
  cases hs : E.pol.spec g with
  | some s =>
    rw [hs] at h
    obtain ⟨v, h1, h2⟩ := hE.spec g s hs _ _ _ h
    rw [if_neg hm5] at h2
    exact main (v, ⟨[], 0, []⟩) h2 h1
  | none =>
    rw [hs] at h
    obtain ⟨q, hq, h⟩ := Option.bind_eq_some_iff.1 h
    exact main q (hO g pvs ⟨[], 0, []⟩ q hq) h
end
end Go.Proofs.Yteljeekapcenlaa.Ev
