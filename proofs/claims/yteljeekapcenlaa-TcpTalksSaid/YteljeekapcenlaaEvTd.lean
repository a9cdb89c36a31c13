/-
  Ev, part Td: deep values: what an append comes to; every operation. No conditions.
-/
import Derived.Test.YteljeekapcenlaaEvTc
namespace Go.Proofs.Yteljeekapcenlaa.Ev
open Go Go.RowKit
set_option linter.unusedSimpArgs false
set_option linter.unusedVariables false
theorem mem_app {l m : List Value} (h1 : ∀ d ∈ l, cellOk d = true) (h2 : ∀ d ∈ m, cellOk d = true) : ∀ d ∈ l ++ m, cellOk d = true := by
  intro d hd
  rcases List.mem_append.1 hd with hd | hd
  · exact h1 d hd
  · exact h2 d hd
theorem push_at (H : AH) (x : Blk) : (H.push x).bs[H.len]? = some x := by simp [AH.push, AH.len]
section
variable {P : Program} {T : Ty}
theorem new_bld {B : Nat} {ι : Emb} {w w' : World} {H : AH} (hH : HR B ι H w) {new new' post : List Value} {e : TypeId} {N n s : Nat} (hv : VRs ι new new')
    (hw' : w'.heap = w.heap.push (.cells ⟨[] ++ new' ++ post⟩ e)) (hsame : w'.os = w.os ∧ w'.tape = w.tape ∧ w'.output = w.output) (hp : post.length = (N - n) * s) (hs : 0 < s) (hN : n ≤ N) (ho : ∀ d ∈ new, cellOk d = true) :
    HR B (ι.set H.len ⟨w.heap.size, 0, (N - n) * s⟩) (H.push (.bld new)) w' ∧ Below B w w' ∧ Ext H.len ι (ι.set H.len ⟨w.heap.size, 0, (N - n) * s⟩) := by
  obtain ⟨h1, h2, h3⟩ := new_row hH hv hw' hsame hp hs hN
  refine ⟨?_, h2, h3⟩
  have := h1.recast (b0 := H.len) (x := .cells new) (y := .bld new) (c := new) (by simp [AH.push, AH.len]) (.inl rfl) (.inr rfl) (fun _ => ho)
  rwa [push_put] at this
theorem append_main (hT : Fits P T) {t u e : TypeId} {du : TypeDesc} {i : TI} (ht : P.underlying t = some (.slice e)) (hu : P.underlying u = some du) (hdu : srcOk du = true) (hi : T.get e = some i)
    {ats : Array TypeId} (h0 : ats[0]? = some t) (h1 : ats[1]? = some u) (hs : 0 < i.size) (hz : i.zero.length = i.size) {n m : Nat} (hb : (n + m) * i.bytes ≤ 2 ^ 47) (hb2 : n + m ≤ 2 ^ 47)
    {B : Nat} {ι : Emb} {H1 H2 : AH} {w : World} {s' x' : Value} {rest : List Value} {old new : List Value} (hbas : Bas B ι H1 H2 w i.size s' old n) (hsrc : Src P ι w i.size x' new m) (ty : TypeId) (hlen : H2.len = H1.len) :
    ∃ ι' v' w', (Builtin.append_ ats ty ⟨s' :: x' :: rest⟩).run P w = .ok v' w' ∧ Ext H1.len ι ι' ∧ HR B ι' (H2.push (.bld (old ++ new))) w' ∧ VR ι' (dB i.size H2.len (n + m)) v' ∧ Below B w w' := by
  obtain ⟨inf, z, q1, q2, q3, q4, q5, q6, q7, q8, q9⟩ := (hT.get hi).info
  have zt : z.cells = ⟨i.zero⟩ := by
    rw [← q7]; cases z <;> rfl
  obtain ⟨hl, hnl, hno, new', n1, n2⟩ := hsrc
  rw [← q2] at n2
  rw [← q3] at hb
  have hnl' := n1.length
  rcases hbas with ⟨oa, rfl, hoa, rfl, rfl, hH2, _⟩ | ⟨b, j, X, c, k', pre, mid, post, e', hH1, rfl, hX, hXc, hj, hf, rfl, hk, hex, r1, r2, r3, r4, r5, r6, r7⟩
  · by_cases hm : m = 0
    · subst hm
      have hn0 : new = [] := by simpa using hnl
      subst hn0
      have hn0' : new' = [] := by simpa using hnl'
      subst hn0'
      have := run_append_room ht hu hdu q1 ats h0 h1 ty oa 0 0 0 x' rest [] w (hl w) (n2 w rfl) (Nat.le_refl _)
      refine ⟨ι, .slice oa 0 0, w, ?_, Ext.refl _ _, hH2.push _, ?_, Below.refl _ _⟩
      · rw [this]; cases oa <;> simp [storeCells]
      · rcases hoa with rfl | ⟨a', rfl⟩
        · exact .dBn _ _ hs
        · exact .dBe _ _ _ hs
    · obtain ⟨N, hN, hrun⟩ := run_append_more ht hu hdu q1 q4 ats h0 h1 ty oa 0 0 m x' rest [] new' w (hl w) n2 (fun w' _ => by cases oa <;> simp [Builtin.firstCells, loadCells, loadCellsFrom]) (by omega) (by omega) (grow_fits (by omega) hb)
      have hcells : (⟨[]⟩ ++ ⟨new'⟩ ++ Builtin.zeroCells z.cells (N - (0 + m)) : Array Value) = ⟨[] ++ new' ++ zeros i.zero (N - m)⟩ := by
        rw [zt, zeroCells_spec _ (by omega), Nat.zero_add]
        apply Array.ext'; simp
      rw [hcells] at hrun
      obtain ⟨h2, h3, h4⟩ := new_bld (w' := { w with heap := w.heap.push (.cells ⟨[] ++ new' ++ zeros i.zero (N - m)⟩ e), drawn := w.drawn + 1 }) hH2 n1 rfl ⟨rfl, rfl, rfl⟩ (by rw [zeros_len, hz]) hs (show m ≤ N by omega) hno
      refine ⟨_, _, _, hrun, by rw [← hlen]; exact h4, h2, ?_, h3⟩
      exact VR.dBl i.size H2.len (0 + m) N ⟨w.heap.size, 0, (N - m) * i.size⟩ (Emb.set_same _ _ _) hs (by omega) (by rw [Nat.zero_add])
  · have hlt := (List.getElem?_eq_some_iff.1 hX).1
    have hR := hH1.recast (b0 := b) (x := X) (y := .cells c) hX hXc (.inl rfl) (fun q => by cases q)
    have hRb : (H1.put b (.cells c)).bs[b]? = some (.cells c) := by rw [put_get hlt, if_pos rfl]
    have hRf : (H1.put b (.cells c)).floor ≤ b := hf
    have hRl : (H1.put b (.cells c)).len = H1.len := by simp [AH.put, AH.len]
    have hml : mid.length = n * i.size := by rw [r4.length, r5]
    have hone := mem_app r6 hno
    have mul : ∀ a b : Nat, (a + b) * i.size = a * i.size + b * i.size := fun a b => Nat.add_mul a b _
    by_cases hm : m = 0
    · subst hm
      have hn0 : new = [] := by simpa using hnl
      subst hn0
      have hn0' : new' = [] := by simpa using hnl'
      subst hn0'
      have := run_append_room ht hu hdu q1 ats h0 h1 ty (some ⟨j.blk, j.sh, none⟩) n k' 0 x' rest [] w (hl w) (n2 w rfl) (by omega)
      have hover := hR.over hj hRb hRf (w' := w) (l := old) (l' := mid) (o := 0) (pre' := pre) (post' := post) (e := e') r1 (by omega) r4 (fun _ _ => rfl) rfl
      rw [put_put, hRl] at hover
      rw [← hlen] at hover
      have h5 := hover.1.recast (b0 := (H1.put b .dead).len) (x := .cells old) (y := .bld old) (c := old) (push_at _ _) (.inl rfl) (.inr rfl) (fun _ => r6)
      rw [push_put] at h5
      refine ⟨_, .slice (some ⟨j.blk, j.sh, none⟩) (n + 0) k', w, ?_, ?_, by rw [List.append_nil]; exact h5, ?_, Below.refl _ _⟩
      · rw [this]; simp [storeCells]
      · exact Ext.set (by rw [hlen]; exact Nat.le_refl _) hover.2 _
      · exact VR.dBl i.size _ (n + 0) k' ⟨j.blk, j.sh + 0, post.length⟩ (Emb.set_same _ _ _) hs hk (by rw [Nat.add_zero, hex, r3])
    · by_cases hroom : n + m ≤ k'
      · have hrun := run_append_room ht hu hdu q1 ats h0 h1 ty (some ⟨j.blk, j.sh, none⟩) n k' m x' rest new' w (hl w) (n2 w rfl) hroom
        simp only [addE, q2] at hrun
        have hmk : m * i.size ≤ post.length := by
          rw [r3, ← hex]; exact Nat.mul_le_mul_right _ (by omega)
        have htot : (pre ++ mid ++ post).length = j.sh + n * i.size + post.length := by simp [r2, hml]; omega
        obtain ⟨g1, g2, g3, g4⟩ := World.heap_setCells j.blk new' (j.sh + n * i.size) w (pre ++ mid ++ post) e' (0, 0) r1 (by rw [htot, hnl', hnl]; omega)
        have hst := run_storeCells_cells (P := P) j.blk (j.sh + n * i.size) new' 0 w (fun q hq => by
            have hlt : j.sh + n * i.size + 0 + q < (pre ++ mid ++ post).length := by rw [htot]; rw [hnl', hnl] at hq; omega
            unfold World.cell?
            simp only [r1, Option.isSome_none, Bool.false_eq_true, if_false]
            simp only [List.getElem?_toArray, List.getElem?_eq_getElem hlt, Option.isSome_some])
          (fun q hq => by unfold World.frozen?; simp only [r1]; simp) (oneCells_of n1 (List.all_eq_true.2 fun d hd => cellOk_one (hno d hd)))
        rw [Nat.add_zero] at hst
        rw [hst] at hrun
        have hA : (pre ++ mid ++ post).take (j.sh + n * i.size) = pre ++ mid := by
          rw [List.take_append_of_le_length (by simp [r2, hml])]
          exact List.take_of_length_le (by simp [r2, hml])
        have hB : (pre ++ mid ++ post).drop (j.sh + n * i.size + new'.length) = post.drop (m * i.size) := by
          have : (pre ++ mid).length = j.sh + n * i.size := by simp [r2, hml]
          rw [← this, List.drop_append, hnl', hnl, List.drop_of_length_le (by omega)]
          simp
        rw [hA, hB] at g1
        have hover := hR.over hj hRb hRf (w' := w.setCells j.blk (j.sh + n * i.size) new') (l := old ++ new) (l' := mid ++ new') (o := 0) (pre' := pre) (post' := post.drop (m * i.size)) (e := e') (by
          rw [g1]; simp) (by omega) (r4.append n1) g2 g3
        rw [put_put, hRl] at hover
        rw [← hlen] at hover
        have h5 := hover.1.recast (b0 := (H1.put b .dead).len) (x := .cells (old ++ new)) (y := .bld (old ++ new)) (c := old ++ new) (push_at _ _) (.inl rfl) (.inr rfl) (fun _ => hone)
        rw [push_put] at h5
        have hlv : live H1 b := by unfold live; rw [hX]; rcases hXc with rfl | rfl <;> simp
        refine ⟨_, _, _, hrun, ?_, h5, ?_, (g4.mono (hH1.base _ _ hj hf hlv))⟩
        · exact Ext.set (by rw [hlen]; exact Nat.le_refl _) hover.2 _
        · refine VR.dBl i.size _ (n + m) k' ⟨j.blk, j.sh + 0, (post.drop (m * i.size)).length⟩ (Emb.set_same _ _ _) hs hroom ?_
          rw [List.length_drop, r3, ← hex, ← Nat.sub_mul]; congr 1; omega
      · obtain ⟨N, hN, hrun⟩ := run_append_more ht hu hdu q1 q4 ats h0 h1 ty (some ⟨j.blk, j.sh, none⟩) n k' m x' rest mid new' w (hl w) n2 (fun w' hw' => by
            simp only [Builtin.firstCells, q2]
            have := run_loadCells_heap (P := P) hw' ⟨j.blk, j.sh, none⟩ mid (fun q v hv => by
              rw [addE, ← r2]
              exact cell_mid r1 q hv)
            rw [hml] at this
            exact this) (by omega) (by omega) (grow_fits (by omega) hb)
        have hcells : (⟨mid⟩ ++ ⟨new'⟩ ++ Builtin.zeroCells z.cells (N - (n + m)) : Array Value) = ⟨[] ++ (mid ++ new') ++ zeros i.zero (N - (n + m))⟩ := by
          rw [zt, zeroCells_spec _ (by omega)]
          apply Array.ext'; simp
        rw [hcells] at hrun
        obtain ⟨h2, h3, h4⟩ := new_bld (w' := { w with heap := w.heap.push (.cells ⟨[] ++ (mid ++ new') ++ zeros i.zero (N - (n + m))⟩ e), drawn := w.drawn + 1 }) hH1 (r4.append n1) rfl ⟨rfl, rfl, rfl⟩ (by rw [zeros_len, hz]) hs hN hone
        have hcomm : (H1.put b .dead).push (.bld (old ++ new)) = (H1.push (.bld (old ++ new))).put b .dead := by
          simp only [AH.put, AH.push]
          rw [List.set_append_left _ _ hlt]
        refine ⟨_, _, _, hrun, h4, ?_, ?_, h3⟩
        · rw [hcomm]; exact h2.kill _
        · rw [hlen]
          exact VR.dBl i.size _ (n + m) N ⟨w.heap.size, 0, (N - (n + m)) * i.size⟩ (Emb.set_same _ _ _) hs hN rfl
theorem appendD_ok (hT : Fits P T) {ats : Array TypeId} {vs : List Value} {H : AH} {k : K} {r : Value × AH} (h : appendD T ats.toList vs H k = some r) :
    ∃ v H', k v H' = some r ∧ Grow H H' ∧ AppSim P ats vs H v H' := by
  unfold appendD at h
  cases hts : ats.toList with
  | nil => rw [hts] at h; cases h
  | cons t us =>
    rw [hts] at h
    cases us with
    | nil => cases h
    | cons u us =>
      have h0 : ats[0]? = some t := by rw [← Array.getElem?_toList, hts]; rfl
      have h1 : ats[1]? = some u := by rw [← Array.getElem?_toList, hts]; rfl
      cases vs with
      | nil => cases h
      | cons s xs =>
        cases xs with
        | nil => cases h
        | cons x rest =>
          simp only [] at h
          cases hd : T.und t with
          | none => rw [hd] at h; cases h
          | some d =>
            rw [hd] at h
            have ht := hT.und hd
            cases d <;> (try simp only [] at h) <;> first | (cases h; done) | skip
            rename_i e
            obtain ⟨hc, h⟩ := cond_some h
            have hud : ∃ du, P.underlying u = some du ∧ srcOk du = true := by
              cases hu : T.und u with
              | none => rw [hu] at hc; cases hc
              | some du => rw [hu] at hc; exact ⟨du, hT.und hu, by cases du <;> first | rfl | (cases hc; done)⟩
            obtain ⟨du, hu, hdu⟩ := hud
            obtain ⟨i, hi, h⟩ := Option.bind_eq_some_iff.1 h
            obtain ⟨hcc, h⟩ := cond_some h
            simp only [Bool.and_eq_true] at hcc
            have hs : 0 < i.size := Nat.le_of_ble_eq_true hcc.1
            have hz := Nat.eq_of_beq_eq_true hcc.2
            obtain ⟨new, m, Ha, h, ga, la, sa⟩ := srcD_ok h
            obtain ⟨old, n, Hb, Hc, h, gb, lb, sb⟩ := baseD_ok h
            obtain ⟨hbb, h⟩ := cond_some h
            simp only [Bool.and_eq_true, decide_eq_true_eq] at hbb
            refine ⟨_, _, h, (ga.trans gb).trans (Grow.push _ _), fun B ι w vs' ty hH hv => ?_⟩
            cases hv with | cons _ s' _ _ e1 hv => ?_
            cases hv with | cons _ x' _ rest' e2 hv => ?_
            obtain ⟨ι1, a1, a2, a3, a4⟩ := sa P B ι w x' hH e2
            obtain ⟨ι2, b1, b2, b3⟩ := sb B ι1 w s' a2 (e1.mono a1.le)
            have hbc : Hc.len = Hb.len := by
              rcases b3 with ⟨_, _, _, _, _, _, q⟩ | ⟨b, j, X, c, k', pre, mid, post, e', _, q, _⟩
              · exact q
              · rw [q]; simp [AH.put, AH.len]
            obtain ⟨ι3, v', w', c1, c2, c3, c4, c5⟩ := append_main hT ht hu hdu hi h0 h1 hs hz hbb.1 hbb.2 (rest := rest') b3 (a4.mono b1.le) ty hbc
            refine ⟨ι3, v', w', c1, ?_, c3, c4, c5⟩
            have e3 : Hb.len = H.len := by rw [← hbc, lb.1, la.1]
            rw [e3] at c2
            rw [la.1] at b1
            exact (a1.trans b1 (Nat.le_refl _)).trans c2 (Nat.le_refl _)
end
end Go.Proofs.Yteljeekapcenlaa.Ev
