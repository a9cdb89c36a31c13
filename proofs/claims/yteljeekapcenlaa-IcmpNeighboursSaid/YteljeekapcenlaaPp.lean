/-
  The document's masks of addresses: what they come to. No conditions.
-/
import Derived.Test.YteljeekapcenlaaPo
namespace Go.Proofs.Yteljeekapcenlaa
open Go Go.RowKit
set_option linter.unusedVariables false
set_option linter.unusedSimpArgs false

theorem take_succ_val {l : List Nat} {i b : Nat} (h : l[i]? = some b) : bval (l.take (i + 1)) = bval (l.take i) * 256 + b := by
  obtain ⟨hl, he⟩ := List.getElem?_eq_some_iff.1 h
  rw [← List.take_append_getElem hl, he, bval_append]
  simp [bval]

theorem from_loop (f : Int) (l : List Nat) (hs : small l) (hl : l.length ≤ 16) (m : Nat) (w2 w3 w4 : Int) : ∀ (q i : Nat), i ≤ l.length → l.length - i < q →
    N_r02_From_7 m q (vB l) (i : Int) w2 w3 w4 f ((bval (l.take i) / 18446744073709551616 : Nat) : Int) ((bval (l.take i) % 18446744073709551616 : Nat) : Int) =
      (bif f == 4 then some (⟨f, 0, ((bval l % 18446744073709551616 : Nat) : Int)⟩, 0) else some (⟨f, ((bval l / 18446744073709551616 : Nat) : Int), ((bval l % 18446744073709551616 : Nat) : Int)⟩, 0)) := by
  intro q
  induction q with
  | zero => intro i _ h; omega
  | succ q ih =>
    intro i hi hq
    rw [N_r02_From_7, Ev.ltI_eq, vB_dlen]
    by_cases hlt : i < l.length
    · obtain ⟨b, hb⟩ : ∃ b, l[i]? = some b := ⟨l[i], List.getElem?_eq_getElem hlt⟩
      have hb256 : b < 256 := hs b (List.mem_of_getElem? hb)
      rw [decide_eq_true (by omega : (i : Int) < (l.length : Int)), cond_true, decide_eq_true (by omega : (0 : Int) ≤ (i : Int))]
      simp only [Bool.and_true, Bool.true_and, cond_true, Int.toNat_natCast, Nat.mul_one]
      rw [vB_ok hb, cond_true, vB_nth hb]
      have hv := bval_lt (l := l.take i) (fun x hx => hs x (List.mem_of_mem_take hx))
      have hlen : (l.take i).length = i := by simp; omega
      rw [hlen] at hv
      have hp : 256 ^ i ≤ 256 ^ 15 := Nat.pow_le_pow_right (by decide) (by omega)
      simp only [Nat.reducePow] at hp
      have ht := take_succ_val hb
      generalize bval (l.take i) = V at *
      have e1 : IntKind.wrap IntKind.u64 (Ev.uI (Value.int .u8 (b : Int))) = ((b : Nat) : Int) := by
        show IntKind.wrap IntKind.u64 (b : Int) = _
        rw [wr_u64]; omega
      have e2 : Int.fdiv ((V % 18446744073709551616 : Nat) : Int) 72057594037927936 = ((V % 18446744073709551616 / 72057594037927936 : Nat) : Int) := by
        have := fdiv_nat (V % 18446744073709551616) 72057594037927936
        exact this
      rw [e1, e2, u64_shl _ _ (by omega), u64_shl _ _ hb256]
      have e3 : IntKind.wrap IntKind.i64 ((i : Int) + 1) = ((i + 1 : Nat) : Int) := by rw [wr_i64 (by omega) (by omega)]; omega
      rw [e3]
      have e4 : (V / 18446744073709551616 * 256 + V % 18446744073709551616 / 72057594037927936) % 18446744073709551616 = bval (l.take (i + 1)) / 18446744073709551616 := by rw [ht]; omega
      have e5 : (V % 18446744073709551616 * 256 + b) % 18446744073709551616 = bval (l.take (i + 1)) % 18446744073709551616 := by
        rw [ht]
        conv => rhs; rw [← Nat.div_add_mod V 18446744073709551616]
        rw [Nat.add_mul, Nat.mul_assoc, Nat.add_assoc, Nat.mul_add_mod]
      rw [e4, e5]
      exact ih (i + 1) (by omega) (by omega)
    · obtain rfl : i = l.length := by omega
      rw [decide_eq_false (by omega), cond_false, List.take_length]

theorem from4 (l : List Nat) (hs : small l) (hl : l.length = 4) : F_r02_From (vB l) = some (⟨4, 0, ((bval l : Nat) : Int)⟩, 0) := by
  unfold F_r02_From
  refine Ev.lim_eq 20 fun m hm => ?_
  unfold N_r02_From
  rw [vB_dlen, hl]
  have := from_loop 4 l hs (by omega) m 0 0 0 m 0 (by omega) (by omega)
  have hv := bval_lt hs
  rw [hl] at hv
  simp only [Nat.reducePow] at hv
  rw [Nat.mod_eq_of_lt (by omega : bval l < 18446744073709551616)] at this
  rw [show ((bval (l.take 0) / 18446744073709551616 : Nat) : Int) = 0 from by simp [bval], show ((bval (l.take 0) % 18446744073709551616 : Nat) : Int) = 0 from by simp [bval]] at this
  have c1 : (((4 : Nat) : Int) != 4) = false := rfl
  have c2 : (((4 : Nat) : Int) == 4) = true := rfl
  rw [c1, cond_false, c2, cond_true]
  exact this
theorem from16 (l : List Nat) (hs : small l) (hl : l.length = 16) : F_r02_From (vB l) = some (⟨6, ((bval l / 18446744073709551616 : Nat) : Int), ((bval l % 18446744073709551616 : Nat) : Int)⟩, 0) := by
  unfold F_r02_From
  refine Ev.lim_eq 20 fun m hm => ?_
  unfold N_r02_From
  rw [vB_dlen, hl]
  have := from_loop 6 l hs (by omega) m 0 0 0 m 0 (by omega) (by omega)
  rw [show ((bval (l.take 0) / 18446744073709551616 : Nat) : Int) = 0 from by simp [bval], show ((bval (l.take 0) % 18446744073709551616 : Nat) : Int) = 0 from by simp [bval]] at this
  have c1 : (((16 : Nat) : Int) != 4) = true := rfl
  have c2 : (((16 : Nat) : Int) != 16) = false := rfl
  have c3 : (((16 : Nat) : Int) == 4) = false := rfl
  rw [c1, cond_true, c2, cond_false, c3, cond_false]
  exact this

-- ---------------------------------------------------------------- the mask

theorem mask_bit : ∀ k : Fin 8, Ev.bitsOp BinOp.xor IntKind.u8 255 (Int.fdiv 128 (2 ^ (Min.min k.val 8))) = ((255 - 2 ^ (7 - k.val) : Nat) : Int) := by
  intro k
  have h : k.val = 0 ∨ k.val = 1 ∨ k.val = 2 ∨ k.val = 3 ∨ k.val = 4 ∨ k.val = 5 ∨ k.val = 6 ∨ k.val = 7 := by omega
  rcases h with h | h | h | h | h | h | h | h <;> rw [h] <;> decide +kernel

theorem set_parts (l : List Nat) (i x : Nat) (h : i < l.length) : (vB l).take i ++ [Value.int .u8 (x : Int)] ++ (vB l).drop (i + 1) = vB (l.set i x) := by
  rw [vB_take, vB_drop, ← vB_one, ← vB_app, ← vB_app]
  congr 1
  rw [List.set_eq_take_append_cons_drop, if_pos h]
  simp

theorem mask_inner (n len : Nat) (hlen : len ≤ 16) (m : Nat) (K : Int → Nat → Int → Int → Int → Int → List Value → Option (T_api_Addr × Int)) (w16 w17 w18 : Int) (l : List Nat) (hll : l.length = len) (hs : small l) (hn : n ≤ 8 * len) (i : Nat) (hi : i < len) (b : Nat) (hb : l[i]? = some b) :
    ∀ (q k : Nat), k ≤ 8 → 8 - k < q → N_r02_Mask_8 F_r02_Right F_r02_Size F_r02_Bytes F_r02_From m K q (n : Int) len (i : Int) (k : Int) w16 w17 w18 (vB (l.set i (chain b (n - 8 * i) k))) =
      K (n : Int) len ((i + 1 : Nat) : Int) w16 w17 w18 (vB (l.set i (chain b (n - 8 * i) 8))) := by
  intro q
  induction q with
  | zero => intro k _ h; omega
  | succ q ih =>
    intro k hk hq
    rw [N_r02_Mask_8, Ev.ltI_eq]
    have hb256 : b < 256 := hs b (List.mem_of_getElem? hb)
    by_cases h8 : k < 8
    · rw [decide_eq_true (by omega : (k : Int) < 8), cond_true, Ev.leI_eq]
      have e : IntKind.wrap IntKind.i64 (IntKind.wrap IntKind.i64 ((i : Int) * 8) + (k : Int)) = ((8 * i + k : Nat) : Int) := by
        rw [wr_i64 (n := (i : Int) * 8) (by omega) (by omega), wr_i64 (by omega) (by omega)]; omega
      have e2 : IntKind.wrap IntKind.i64 ((k : Int) + 1) = ((k + 1 : Nat) : Int) := by rw [wr_i64 (by omega) (by omega)]; omega
      rw [e, e2]
      by_cases hle : n ≤ 8 * i + k
      · rw [decide_eq_true (by omega : (n : Int) ≤ ((8 * i + k : Nat) : Int)), cond_true, decide_eq_true (by omega : (0 : Int) ≤ (i : Int)), decide_eq_true (by omega : (i : Int) < (len : Int)), decide_eq_false (by omega : ¬ (k : Int) < 0)]
        simp only [Bool.and_true, Bool.true_and, cond_true, cond_false, Int.toNat_natCast, Nat.mul_one]
        have hc : (l.set i (chain b (n - 8 * i) k))[i]? = some (chain b (n - 8 * i) k) := List.getElem?_set_self (by omega)
        rw [vB_ok hc, cond_true, vB_nth hc, vB_len, List.length_set, hll]
        have hble : Nat.ble (i + 1) len = true := Nat.ble_eq_true_of_le (by omega)
        rw [hble, cond_true, mask_bit ⟨k, h8⟩]
        have hmb : 255 - 2 ^ (7 - k) < 256 := Nat.lt_of_le_of_lt (Nat.sub_le _ _) (by decide)
        show N_r02_Mask_8 F_r02_Right F_r02_Size F_r02_Bytes F_r02_From m K q (n : Int) len (i : Int) ((k + 1 : Nat) : Int) w16 w17 w18 (List.take i (vB (l.set i (chain b (n - 8 * i) k))) ++ [Value.int IntKind.u8 (Ev.bitsOp BinOp.and IntKind.u8 ((chain b (n - 8 * i) k : Nat) : Int) ((255 - 2 ^ (7 - k) : Nat) : Int))] ++ List.drop (i + 1) (vB (l.set i (chain b (n - 8 * i) k)))) = _
        rw [u8_and (chain_lt hb256 k) hmb, set_parts _ _ _ (by simp; omega), List.set_set]
        have ech : chain b (n - 8 * i) k &&& (255 - 2 ^ (7 - k)) = chain b (n - 8 * i) (k + 1) := by
          simp only [chain]; rw [if_pos (by omega)]
        rw [ech]
        exact ih (k + 1) (by omega) (by omega)
      · rw [decide_eq_false (by omega), cond_false]
        have ech : chain b (n - 8 * i) k = chain b (n - 8 * i) (k + 1) := by
          simp only [chain]; rw [if_neg (by omega)]
        rw [ech]
        exact ih (k + 1) (by omega) (by omega)
    · obtain rfl : k = 8 := by omega
      rw [decide_eq_false (by decide), cond_false]
      have e : IntKind.wrap IntKind.i64 ((i : Int) + 1) = ((i + 1 : Nat) : Int) := by rw [wr_i64 (by omega) (by omega)]; omega
      rw [e]

theorem bmask_get : ∀ (l : List Nat) (n i : Nat) (b : Nat), l[i]? = some b → (bmask l n)[i]? = some (if 8 ≤ n - 8 * i then b else b / 2 ^ (8 - (n - 8 * i)) * 2 ^ (8 - (n - 8 * i)))
  | [], n, i, b, h => by simp at h
  | x :: l, n, 0, b, h => by
    obtain rfl : x = b := by simpa using h
    simp [bmask]
  | x :: l, n, i + 1, b, h => by
    have := bmask_get l (n - 8) i b (by simpa using h)
    rw [show n - 8 - 8 * i = n - 8 * (i + 1) by omega] at this
    simpa [bmask] using this

theorem mask_outer (n : Nat) (B : List Nat) (hs : small B) (hlen : B.length ≤ 16) (hn : n ≤ 8 * B.length) (m : Nat) (hm : 8 < m) (w6 w7 w8 : Int) (r : T_api_Addr × Int) (hr : F_r02_From (vB (bmask B n)) = some r) :
    ∀ (q i : Nat), i ≤ B.length → B.length - i < q → N_r02_Mask_5 F_r02_Right F_r02_Size F_r02_Bytes F_r02_From m q (n : Int) B.length (i : Int) w6 w7 w8 (vB ((bmask B n).take i ++ B.drop i)) = some r := by
  intro q
  induction q with
  | zero => intro i _ h; omega
  | succ q ih =>
    intro i hi hq
    rw [N_r02_Mask_5, Ev.ltI_eq]
    have hml := bmask_len B n
    by_cases hlt : i < B.length
    · rw [decide_eq_true (by omega : (i : Int) < (B.length : Int)), cond_true]
      obtain ⟨b, hb⟩ : ∃ b, B[i]? = some b := ⟨B[i], List.getElem?_eq_getElem hlt⟩
      have hb256 : b < 256 := hs b (List.mem_of_getElem? hb)
      have htl : ((bmask B n).take i).length = i := by simp; omega
      have hll : ((bmask B n).take i ++ B.drop i).length = B.length := by simp; omega
      have hsm : small ((bmask B n).take i ++ B.drop i) := small_app (fun x hx => bmask_small n hs x (List.mem_of_mem_take hx)) (fun x hx => hs x (List.mem_of_mem_drop hx))
      have hget : ((bmask B n).take i ++ B.drop i)[i]? = some b := by
        rw [List.getElem?_append_right (by omega), htl, Nat.sub_self, List.getElem?_drop, Nat.add_zero]
        exact hb
      have := mask_inner n B.length hlen m (N_r02_Mask_5 F_r02_Right F_r02_Size F_r02_Bytes F_r02_From m q) w6 w7 w8 _ hll hsm hn i hlt b hget m 0 (by omega) (by omega)
      have e0 : ((bmask B n).take i ++ B.drop i).set i (chain b (n - 8 * i) 0) = (bmask B n).take i ++ B.drop i := by
        obtain ⟨h1, h2⟩ := List.getElem?_eq_some_iff.1 hget
        show List.set _ i b = _
        rw [← h2, List.set_getElem_self]
      rw [e0] at this
      have e1 : ((0 : Nat) : Int) = 0 := rfl
      rw [e1] at this
      rw [this]
      have e2 : ((bmask B n).take i ++ B.drop i).set i (chain b (n - 8 * i) 8) = (bmask B n).take (i + 1) ++ B.drop (i + 1) := by
        rw [chain_8 hb256]
        have hg := bmask_get B n i b hb
        obtain ⟨h1, h2⟩ := List.getElem?_eq_some_iff.1 hg
        rw [← h2, ← List.take_append_getElem h1, List.set_append_right _ _ (by omega), htl, Nat.sub_self]
        obtain ⟨h3, h4⟩ := List.getElem?_eq_some_iff.1 hb
        rw [List.drop_eq_getElem_cons h3, List.set_cons_zero, List.append_assoc]
        rfl
      rw [e2]
      exact ih (i + 1) (by omega) (by omega)
    · obtain rfl : i = B.length := by omega
      rw [decide_eq_false (by omega), cond_false]
      have e : (bmask B n).take B.length ++ B.drop B.length = bmask B n := by
        rw [List.drop_length, List.append_nil, ← hml, List.take_length]
      rw [e, vB_len, hml, Nat.mul_one, Nat.beq_refl, cond_true, hr]
      rfl

theorem mask4 (l n : Nat) (hl : l < 4294967296) (hn : n ≤ 32) : F_r02_Mask ⟨4, 0, l⟩ (n : Int) = some (⟨4, 0, ((l / 2 ^ (32 - n) * 2 ^ (32 - n) : Nat) : Int)⟩, 0) := by
  unfold F_r02_Mask
  refine Ev.lim_eq 40 fun m hm => ?_
  unfold N_r02_Mask
  have hR : F_r02_Right ⟨4, 0, l⟩ = some true := by
    unfold F_r02_Right N_r02_Right
    show (bif (4 : Int) == 6 then some true else bif (4 : Int) == 4 then bif (0 : Int) == 0 then some (Ev.ltI (l : Int) 4294967296) else some false else some false) = some true
    rw [Ev.ltI_eq, decide_eq_true (by omega)]
    rfl
  have hS : F_r02_Size 4 = some 32 := rfl
  rw [hR, Ev.bnd_some, Ev.ltI_eq, decide_eq_false (by omega), Bool.not_true, cond_false, cond_false, hS, Ev.bnd_some, Ev.ltI_eq, decide_eq_false (by omega), cond_false, bytes4 l hl, Ev.bnd_some, vB_dlen]
  have hb : bval (bmask (b4 l) n) = l / 2 ^ (32 - n) * 2 ^ (32 - n) := by
    rw [bval_mask (b4_small l) hn, bval_b4, Nat.mod_eq_of_lt hl]
    rfl
  have := from4 (bmask (b4 l) n) (bmask_small n (b4_small l)) (by rw [bmask_len]; rfl)
  rw [hb] at this
  exact mask_outer n (b4 l) (b4_small l) (by show 4 ≤ 16; decide) hn m (by omega) 0 0 0 _ this m 0 (by omega) (by show 4 - 0 < m; omega)

theorem mask6 (h l n : Nat) (hh : h < 18446744073709551616) (hl : l < 18446744073709551616) (hn : n ≤ 128) : F_r02_Mask ⟨6, h, l⟩ (n : Int) =
    some (⟨6, (((h * 18446744073709551616 + l) / 2 ^ (128 - n) * 2 ^ (128 - n) / 18446744073709551616 : Nat) : Int), (((h * 18446744073709551616 + l) / 2 ^ (128 - n) * 2 ^ (128 - n) % 18446744073709551616 : Nat) : Int)⟩, 0) := by
  unfold F_r02_Mask
  refine Ev.lim_eq 40 fun m hm => ?_
  unfold N_r02_Mask
  have hR : F_r02_Right ⟨6, h, l⟩ = some true := rfl
  have hS : F_r02_Size 6 = some 128 := rfl
  rw [hR, Ev.bnd_some, Ev.ltI_eq, decide_eq_false (by omega), Bool.not_true, cond_false, cond_false, hS, Ev.bnd_some, Ev.ltI_eq, decide_eq_false (by omega), cond_false, bytes6 h l hh hl, Ev.bnd_some, vB_dlen]
  have hsm : small (b8 h ++ b8 l) := small_app (b8_small h) (b8_small l)
  have hlen : (b8 h ++ b8 l).length = 16 := rfl
  have hb : bval (bmask (b8 h ++ b8 l) n) = (h * 18446744073709551616 + l) / 2 ^ (128 - n) * 2 ^ (128 - n) := by
    rw [bval_mask hsm (by rw [hlen]; omega), bval_append, bval_b8 hh, bval_b8 hl, hlen]
    have : (b8 l).length = 8 := rfl
    rw [this]
  have := from16 (bmask (b8 h ++ b8 l) n) (bmask_small n hsm) (by rw [bmask_len]; rfl)
  rw [hb] at this
  exact mask_outer n (b8 h ++ b8 l) hsm (by rw [hlen]; decide) (by rw [hlen]; omega) m (by omega) 0 0 0 _ this m 0 (by omega) (by rw [hlen]; omega)
end Go.Proofs.Yteljeekapcenlaa
