/-
  Ev, part T: deep values: freezing, reading, appending. No conditions.
-/
import Derived.Test.YteljeekapcenlaaEvX
namespace Go.Proofs.Yteljeekapcenlaa.Ev
open Go Go.RowKit
set_option linter.unusedSimpArgs false
set_option linter.unusedVariables false
theorem bldAt_some {H : AH} {b : Nat} {k : List Value → Res} {z : Res} {r : Value × AH} (h : H.bldAt b k z = some r) : (∃ cs, H.bs[b]? = some (.bld cs) ∧ k cs = some r) ∨ ((∀ cs, H.bs[b]? ≠ some (.bld cs)) ∧ z = some r) := by
  unfold AH.bldAt at h
  rw [getL_eq] at h
  cases hb : H.bs[b]? with
  | none => rw [hb] at h; exact .inr ⟨by simp, h⟩
  | some x =>
    rw [hb] at h
    cases x with
    | bld cs => exact .inl ⟨cs, rfl, h⟩
    | _ => exact .inr ⟨by simp, h⟩
def rowX (x : Blk) (c : List Value) : Prop := x = .cells c ∨ x = .bld c
theorem BR.rowX {ι : Emb} {w : World} {wr : Bool} {j : Inj} {x : Blk} {c : List Value} (hx : rowX x c) (h : BR ι w wr j x) : ∃ (pre mid post : List Value) (e : TypeId) (fz : Nat × Nat), w.heap[j.blk]? = some (.cells ⟨pre ++ mid ++ post⟩ e fz) ∧ pre.length = j.sh ∧ VRs ι c mid ∧ (wr = true → post.length = j.ex ∧ fz = (0, 0)) := by
  rcases hx with rfl | rfl
  · exact h
  · exact h.1
theorem BR.ofX {ι : Emb} {w : World} {wr : Bool} {j : Inj} {x : Blk} {c : List Value} (hx : Ev.rowX x c) (h : BR ι w wr j (.cells c)) (ho : x = .bld c → ∀ d ∈ c, cellOk d = true) : BR ι w wr j x := by
  rcases hx with rfl | rfl
  · exact h
  · exact ⟨h, ho rfl⟩
theorem HR.one {B : Nat} {ι : Emb} {H : AH} {w : World} (h : HR B ι H w) {b : Nat} {j : Inj} (hj : ι b = some j) {c : List Value} (hr : H.bs[b]? = some (.bld c)) : ∀ d ∈ c, cellOk d = true := by
  obtain ⟨y, hy, hbr⟩ := h.blk b j hj
  rw [hr] at hy
  obtain rfl := Option.some.inj hy
  exact hbr.2
theorem HR.rowX {B : Nat} {ι : Emb} {H : AH} {w : World} (h : HR B ι H w) {b : Nat} {j : Inj} (hj : ι b = some j) {x : Blk} {c : List Value} (hr : H.bs[b]? = some x) (hx : Ev.rowX x c) :
    ∃ (pre mid post : List Value) (e : TypeId) (fz : Nat × Nat), w.heap[j.blk]? = some (.cells ⟨pre ++ mid ++ post⟩ e fz) ∧ pre.length = j.sh ∧ VRs ι c mid ∧ (H.floor ≤ b → post.length = j.ex ∧ fz = (0, 0)) := by
  obtain ⟨y, hy, hbr⟩ := h.blk b j hj
  rw [hr] at hy
  obtain rfl := Option.some.inj hy
  obtain ⟨pre, mid, post, e, fz, h1, h2, h3, h4⟩ := hbr.rowX hx
  exact ⟨pre, mid, post, e, fz, h1, h2, h3, fun hf => h4 (by simpa using hf)⟩
theorem put_get {H : AH} {b0 : Nat} (hb : b0 < H.bs.length) (x : Blk) (b : Nat) : (H.put b0 x).bs[b]? = if b = b0 then some x else H.bs[b]? := by
  simp only [AH.put]
  split
  · rename_i e; subst e; simp [hb]
  · rename_i e; rw [List.getElem?_set_ne (fun q => e q.symm)]
theorem wok_floor {H : AH} {b : Nat} (h : H.wok b = true) : H.floor ≤ b := by
  simp only [AH.wok, Bool.and_eq_true] at h; exact Nat.le_of_ble_eq_true h.1
theorem HR.recast {B : Nat} {ι : Emb} {H : AH} {w : World} (h : HR B ι H w) {b0 : Nat} {x y : Blk} {c : List Value} (hb : H.bs[b0]? = some x) (hx : Ev.rowX x c) (hy : Ev.rowX y c) (ho : y = .bld c → ∀ d ∈ c, cellOk d = true) : HR B ι (H.put b0 y) w := by
  have hlt := (List.getElem?_eq_some_iff.1 hb).1
  have hg := put_get hlt y
  have lx : live H b0 := by unfold live; rw [hb]; rcases hx with rfl | rfl <;> simp
  have hlv : ∀ b, live (H.put b0 y) b → live H b := by
    intro b hl
    by_cases e : b = b0
    · subst e; exact lx
    · unfold live at *; rw [hg, if_neg e] at hl; exact hl
  refine ⟨fun b j hj => ?_, fun b j hj hf hl => h.base b j hj hf (hlv b hl), fun b b' j1 j2 q1 q2 hne hf l1 l2 => h.inj b b' j1 j2 q1 q2 hne hf (hlv b l1) (hlv b' l2), h.size, fun r i d hd => ⟨(h.fz r i d hd).1, fun b j hj hf hl => (h.fz r i d hd).2.1 b j hj hf (hlv b hl), (h.fz r i d hd).2.2⟩⟩
  rw [hg]
  split
  · rename_i e; subst e
    obtain ⟨z, hz, hbr⟩ := h.blk b j hj
    rw [hb] at hz
    obtain rfl := Option.some.inj hz
    exact ⟨_, rfl, BR.ofX hy (by rcases hx with rfl | rfl; exact hbr; exact hbr.1) ho⟩
  · exact h.blk b j hj
def Emb.frz (ι : Emb) (j : Inj) (cs : List Value) : Emb := { ι with fz := fun r i d => ι.fz r i d ∨ (r = j.blk ∧ ∃ p, i = j.sh + p ∧ cs[p]? = some d) }
theorem Emb.frz_le (ι : Emb) (j : Inj) (cs : List Value) : ι.le (ι.frz j cs) := ⟨fun _ _ h => h, fun _ _ _ h => .inl h, rfl⟩
theorem Ext.frz (n : Nat) (ι : Emb) (j : Inj) (cs : List Value) : Ext n ι (ι.frz j cs) := ⟨ι.frz_le j cs, fun _ _ h => h⟩
theorem HR.freeze {B : Nat} {ι : Emb} {H : AH} {w : World} (h : HR B ι H w) {b : Nat} {j : Inj} (hj : ι b = some j) {x : Blk} {cs : List Value} (hb : H.bs[b]? = some x) (hx : Ev.rowX x cs) (hf : H.floor ≤ b) (ho : ∀ d ∈ cs, cellOk d = true) : HR B (ι.frz j cs) (H.put b .dead) w := by
  have hlt := (List.getElem?_eq_some_iff.1 hb).1
  have hg := put_get hlt Blk.dead
  have lx : live H b := by unfold live; rw [hb]; rcases hx with rfl | rfl <;> simp
  have hlv : ∀ b', live (H.put b .dead) b' → live H b' ∧ b' ≠ b := by
    intro b' hl
    by_cases e : b' = b
    · subst e; unfold live at hl; rw [hg, if_pos rfl] at hl; exact absurd rfl hl
    · unfold live at *; rw [hg, if_neg e] at hl; exact ⟨hl, e⟩
  obtain ⟨pre, mid, post, e, fz, h1, h2, h3, h4⟩ := h.rowX hj hb hx
  refine ⟨fun b' j' hj' => ?_, fun b' j' hj' hf' hl => h.base b' j' hj' hf' (hlv b' hl).1, fun b1 b2 j1 j2 q1 q2 hne hf' l1 l2 => h.inj b1 b2 j1 j2 q1 q2 hne hf' (hlv b1 l1).1 (hlv b2 l2).1, h.size, fun r i d hd => ?_⟩
  · rw [hg]
    split
    · exact ⟨_, rfl, trivial⟩
    · obtain ⟨y, hy, hbr⟩ := h.blk b' j' hj'
      exact ⟨y, hy, hbr.emb (ι.frz_le j cs)⟩
  · rcases hd with hd | ⟨rfl, p, rfl, hp⟩
    · obtain ⟨⟨v', q1, q2⟩, q3, q4⟩ := h.fz r i d hd
      exact ⟨⟨v', q1, q2.mono (ι.frz_le j cs)⟩, fun b' j' hj' hf' hl => q3 b' j' hj' hf' (hlv b' hl).1, q4⟩
    · obtain ⟨v', q1, q2⟩ := h3.get hp
      refine ⟨⟨v', ?_, q2.mono (ι.frz_le j cs)⟩, fun b' j' hj' hf' hl => ?_, .inr (h.base b j hj hf lx), ho d (List.mem_of_getElem? hp)⟩
      · have := cell_mid h1 p q1
        rw [h2] at this; exact this
      · exact fun q => h.inj b b' j j' hj hj' (fun q => (hlv b' hl).2 q.symm) hf lx (hlv b' hl).1 q.symm
theorem Grow.kill {H : AH} {b : Nat} (hw : H.wok b = true) : Grow H (H.put b .dead) := Grow.put _ _ hw
def Less (H H' : AH) : Prop := H'.len = H.len ∧ ∀ (b : Nat) (x : Blk), H'.bs[b]? = some x → x ≠ Blk.dead → H.bs[b]? = some x
theorem Less.refl (H : AH) : Less H H := ⟨rfl, fun _ _ h _ => h⟩
theorem Less.trans {A B C : AH} (h : Less A B) (k : Less B C) : Less A C := ⟨k.1.trans h.1, fun b x hx hd => h.2 b x (k.2 b x hx hd) hd⟩
theorem Less.kill {H : AH} {b : Nat} : Less H (H.put b .dead) := by
  refine ⟨by simp [AH.put, AH.len], fun b' x hx hd => ?_⟩
  by_cases hlt : b < H.bs.length
  · rw [put_get hlt] at hx
    split at hx
    · exact absurd (Option.some.inj hx).symm hd
    · exact hx
  · simp only [AH.put] at hx
    rwa [List.set_eq_of_length_le (by omega)] at hx
theorem getCells_some {H : AH} {b : Nat} {k : List Value → Res} {r : Value × AH} (h : getCells H b k = some r) : ∃ X cs, H.bs[b]? = some X ∧ rowX X cs ∧ k cs = some r ∧ (X = .bld cs ∨ ∀ d ∈ cs, cellOk d = true) := by
  unfold getCells at h
  rw [getL_eq] at h
  cases hb : H.bs[b]? with
  | none => rw [hb] at h; cases h
  | some X =>
    rw [hb] at h
    cases X with
    | bld cs => exact ⟨_, cs, rfl, .inr rfl, h, .inl rfl⟩
    | cells c =>
      obtain ⟨h1, h2⟩ := cond_some h
      exact ⟨_, c, rfl, .inl rfl, h2, .inr (fun d hd => List.all_eq_true.1 h1 d hd)⟩
    | _ => cases h
theorem keep1_ok {z : Nat} {v : Value} {H : AH} {k : Value → AH → Res} {r : Value × AH} (h : keep1 z v H k = some r) :
    ∃ d H', k d H' = some r ∧ Grow H H' ∧ Less H H' ∧ (∃ cs, d = dS z cs) ∧
      ∀ B ι w v', HR B ι H w → VR ι v v' → ∃ ι', Ext H.len ι ι' ∧ HR B ι' H' w ∧ VR ι' d v' ∧ (∀ b, ι' b = ι b) := by
  have same : ∀ (d : Value), (∃ cs, d = dS z cs) → (∀ B ι w v', HR B ι H w → VR ι v v' → VR ι d v') → k d H = some r → ∃ d H', k d H' = some r ∧ Grow H H' ∧ Less H H' ∧ (∃ cs, d = dS z cs) ∧
      ∀ B ι w v', HR B ι H w → VR ι v v' → ∃ ι', Ext H.len ι ι' ∧ HR B ι' H' w ∧ VR ι' d v' ∧ (∀ b, ι' b = ι b) :=
    fun d hd hv h => ⟨d, H, h, Grow.refl _, Less.refl _, hd, fun B ι w v' hH e => ⟨ι, Ext.refl _ _, hH, hv B ι w v' hH e, fun _ => rfl⟩⟩
  have deep : deepC v
    (fun t cs => cond (Nat.beq t z) (k (dS t cs) H) none)
    (fun _ _ => none)
    (fun t b n => cond (Nat.beq t z && H.wok b) (getCells H b fun cs => cond (Nat.beq (n * t) cs.length) (k (dS t cs) (H.put b .dead)) none) none)
    (fun t => cond (Nat.beq t z) (k (dS t []) H) none) none = some r → ∃ d H', k d H' = some r ∧ Grow H H' ∧ Less H H' ∧ (∃ cs, d = dS z cs) ∧
      ∀ B ι w v', HR B ι H w → VR ι v v' → ∃ ι', Ext H.len ι ι' ∧ HR B ι' H' w ∧ VR ι' d v' ∧ (∀ b, ι' b = ι b) := by
    intro h
    rcases deepC_some h with ⟨t, cs, rfl, g⟩ | ⟨_, _, _, g⟩ | ⟨t, b, n, rfl, g⟩ | ⟨t, rfl, g⟩ | g
    · obtain ⟨ht, g1⟩ := cond_some g
      obtain rfl := Nat.eq_of_beq_eq_true ht
      exact same _ ⟨cs, rfl⟩ (fun _ _ _ _ _ h => h) g1
    · cases g
    · obtain ⟨hc, g1⟩ := cond_some g
      simp only [Bool.and_eq_true] at hc
      obtain rfl := Nat.eq_of_beq_eq_true hc.1
      obtain ⟨X, cs, hb, hx, g2, hone⟩ := getCells_some g1
      · obtain ⟨hn, g3⟩ := cond_some g2
        have hn := Nat.eq_of_beq_eq_true hn
        refine ⟨_, _, g3, Grow.kill hc.2, Less.kill, ⟨cs, rfl⟩, fun B ι w v' hH e => ?_⟩
        obtain ⟨hz, e⟩ := e.dB_inv
        rcases e with ⟨rfl, oa, rfl, hoa⟩ | ⟨k', j, hj, rfl, hk', hex⟩
        · have hcs : cs = [] := by simpa using hn.symm
          subst hcs
          refine ⟨ι, Ext.refl _ _, hH.kill b, ?_, fun _ => rfl⟩
          rcases hoa with rfl | ⟨a', rfl⟩
          · exact .dNil _ hz
          · exact .dSe _ _ hz
        · exact ⟨ι.frz j cs, Ext.frz _ _ _ _, hH.freeze hj hb hx (wok_floor hc.2) (by rcases hone with rfl | hone; exact hH.one hj hb; exact hone), VR.dSl (ι := ι.frz j cs) t cs n k' j.blk j.sh hz hn.symm hk' (fun i d hd => .inr ⟨rfl, i, rfl, hd⟩), fun _ => rfl⟩
    · obtain ⟨ht, g1⟩ := cond_some g
      obtain rfl := Nat.eq_of_beq_eq_true ht
      refine same _ ⟨[], rfl⟩ (fun B ι w v' hH e => ?_) g1
      obtain ⟨hz, oa, rfl, hoa⟩ := e.dE_inv
      rcases hoa with rfl | ⟨a', rfl⟩
      · exact .dNil _ hz
      · exact .dSe _ _ hz
    · cases g
  unfold keep1 at h
  cases v with
  | slice a l c =>
    simp only [] at h
    obtain ⟨hc, h1⟩ := cond_some h
    simp only [Bool.and_eq_true] at hc
    obtain ⟨⟨⟨c1, c2⟩, c3⟩, c4⟩ := hc
    have c2 := Nat.eq_of_beq_eq_true c2
    have c3 := Nat.eq_of_beq_eq_true c3
    subst c2 c3
    cases a with
    | some _ => cases c1
    | none =>
      refine same (dS z []) ⟨[], rfl⟩ (fun B ι w v' hH e => ?_) h1
      cases e
      exact .dNil _ (Nat.le_of_ble_eq_true c4)
  | _ => exact deep h
theorem okZ_one {kd : Kd × Nat} {v : Value} (h : okZ kd v = true) : cellOk v = true := by
  obtain ⟨k, z⟩ := kd
  unfold okZ at h
  cases k <;> simp only [] at h <;> first | (cases h; done) | skip
  case slice =>
    rcases deepC_some h with ⟨t, cs, rfl, g⟩ | ⟨_, _, _, g⟩ | ⟨_, _, _, _, g⟩ | ⟨_, _, g⟩ | g
    · rfl
    all_goals cases g
  all_goals cases v <;> first | rfl | (cases h; done)
theorem okZ_dS (z : Nat) (cs : List Value) : okZ (.slice, z) (dS z cs) = true := Nat.beq_refl z
theorem keepD_ok : ∀ {ks : List (Kd × Nat)} {vs : List Value} {H : AH} {k : List Value → AH → Res} {r : Value × AH}, keepD ks vs H k = some r →
    ∃ l H', k l H' = some r ∧ Grow H H' ∧ Less H H' ∧ l.length = vs.length ∧ (∀ v ∈ l, cellOk v = true) ∧
      ∀ B ι w vs', HR B ι H w → VRs ι vs vs' → ∃ ι', Ext H.len ι ι' ∧ HR B ι' H' w ∧ VRs ι' l vs' ∧ (∀ b, ι' b = ι b) := by
  intro ks
  induction ks with
  | nil =>
    intro vs H k r h
    cases vs with
    | nil => exact ⟨[], H, h, Grow.refl _, Less.refl _, rfl, by simp, fun B ι w vs' hH hv => ⟨ι, Ext.refl _ _, hH, hv, fun _ => rfl⟩⟩
    | cons v vs => exact absurd (show none = some r from h) (by simp)
  | cons kd ks ih =>
    intro vs H k r h
    cases vs with
    | nil => exact absurd (show none = some r from h) (by simp)
    | cons v vs =>
      have h : keepC kd v H (fun d H => keepD ks vs H fun l H => k (d :: l) H) = some r := h
      have step : ∃ d H1, keepD ks vs H1 (fun l H => k (d :: l) H) = some r ∧ Grow H H1 ∧ Less H H1 ∧ cellOk d = true ∧
          ∀ B ι w v', HR B ι H w → VR ι v v' → ∃ ι', Ext H.len ι ι' ∧ HR B ι' H1 w ∧ VR ι' d v' ∧ (∀ b, ι' b = ι b) := by
        have other : cond (okZ kd v) (keepD ks vs H fun l H => k (v :: l) H) none = some r → ∃ d H1, keepD ks vs H1 (fun l H => k (d :: l) H) = some r ∧ Grow H H1 ∧ Less H H1 ∧ cellOk d = true ∧
          ∀ B ι w v', HR B ι H w → VR ι v v' → ∃ ι', Ext H.len ι ι' ∧ HR B ι' H1 w ∧ VR ι' d v' ∧ (∀ b, ι' b = ι b) := by
          intro h
          obtain ⟨h1, h2⟩ := cond_some h
          exact ⟨v, H, h2, Grow.refl _, Less.refl _, okZ_one h1, fun B ι w v' hH e => ⟨ι, Ext.refl _ _, hH, e, fun _ => rfl⟩⟩
        unfold keepC at h
        obtain ⟨k1, z⟩ := kd
        cases k1 with
        | slice =>
          obtain ⟨d, H1, h1, h2, h3, ⟨cs, rfl⟩, h5⟩ := keep1_ok h
          exact ⟨_, H1, h1, h2, h3, rfl, h5⟩
        | _ => exact other h
      obtain ⟨d, H1, h1, g1, l1, o1, s1⟩ := step
      obtain ⟨l, H2, h2, g2, l2, n2, o2, s2⟩ := ih h1
      refine ⟨d :: l, H2, h2, g1.trans g2, l1.trans l2, by simp [n2], fun x hx => ?_, fun B ι w vs' hH hv => ?_⟩
      · rcases List.mem_cons.1 hx with rfl | hx
        · exact o1
        · exact o2 x hx
      · cases hv with | cons _ v' _ vs' e hv => ?_
        obtain ⟨ι1, q1, q2, q3, q4⟩ := s1 B ι w v' hH e
        obtain ⟨ι2, p1, p2, p3, p4⟩ := s2 B ι1 w vs' q2 (hv.mono q1.le)
        refine ⟨ι2, ?_, p2, .cons _ _ _ _ (q3.mono p1.le) p3, fun b => (p4 b).trans (q4 b)⟩
        rw [l1.1] at p1
        exact q1.trans p1 (Nat.le_refl _)
end Go.Proofs.Yteljeekapcenlaa.Ev
