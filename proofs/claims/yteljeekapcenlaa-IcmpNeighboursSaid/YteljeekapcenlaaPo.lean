/-
  The document's masks of addresses, by numbers. No conditions.
-/
import Derived.Test.YteljeekapcenlaaMa
import Derived.Test.YteljeekapcenlaaPn
import Derived.Test.YteljeekapcenlaaEvGg
namespace Go.Proofs.Yteljeekapcenlaa
open Go Go.RowKit
set_option linter.unusedVariables false
set_option linter.unusedSimpArgs false

def cb (b : Nat) : List Value := [.int .u8 (b : Int)]
theorem cb_len (b : Nat) : (cb b).length = 1 := rfl
/-- bytes as values -/
def vB (l : List Nat) : List Value := l.flatMap cb
theorem vB_len (l : List Nat) : (vB l).length = l.length := by unfold vB; rw [Ev.flat_len (c := cb) (z := 1) cb_len]; omega
theorem vB_dlen (l : List Nat) : Ev.dlen 1 (vB l) = l.length := Ev.flat_dlen (c := cb) (z := 1) cb_len (by decide) l
theorem vB_app (l m : List Nat) : vB (l ++ m) = vB l ++ vB m := by unfold vB; rw [List.flatMap_append]
theorem vB_one (b : Nat) : vB [b] = [.int .u8 (b : Int)] := rfl
theorem vB_take (l : List Nat) (n : Nat) : (vB l).take n = vB (l.take n) := by
  induction l generalizing n with
  | nil => simp [vB]
  | cons b l ih =>
    cases n with
    | zero => rfl
    | succ n => show (Value.int .u8 (b : Int) :: vB l).take (n + 1) = _; rw [List.take_succ_cons, ih]; rfl
theorem vB_drop (l : List Nat) (n : Nat) : (vB l).drop n = vB (l.drop n) := by
  induction l generalizing n with
  | nil => simp [vB]
  | cons b l ih =>
    cases n with
    | zero => rfl
    | succ n => show (Value.int .u8 (b : Int) :: vB l).drop (n + 1) = _; rw [List.drop_succ_cons, ih]; rfl
theorem vB_nth {l : List Nat} {i b : Nat} (h : l[i]? = some b) : Ev.nthC (vB l) i = .int .u8 (b : Int) := by
  rw [Ev.nthC_drop0, vB_drop]
  obtain ⟨hl, he⟩ := List.getElem?_eq_some_iff.1 h
  rw [List.drop_eq_getElem_cons hl, he]
  rfl
theorem vB_ok {l : List Nat} {i b : Nat} (h : l[i]? = some b) : Ev.okD [(Ev.Kd.int IntKind.u8, 0)] (vB l) i = true := by
  rw [Ev.okD_drop0, vB_drop]
  obtain ⟨hl, he⟩ := List.getElem?_eq_some_iff.1 h
  rw [List.drop_eq_getElem_cons hl]
  rfl

-- ---------------------------------------------------------------- bits

theorem bit_gen (x k : Nat) (hx : x < 18446744073709551616) (hk : k ≤ 64) : IntKind.wrap IntKind.i64 (Ev.bitsOp BinOp.and IntKind.u64 (Int.fdiv (x : Int) (2 ^ (Min.min k 64))) 1) = ((x / 2 ^ k % 2 : Nat) : Int) := by
  rw [Nat.min_eq_left hk]
  have e : (2 : Int) ^ k = ((2 ^ k : Nat) : Int) := by simp
  have hle : x / 2 ^ k ≤ x := Nat.div_le_self _ _
  rw [e, fdiv_nat, u64_bit _ (by omega), wr_i64 (by omega) (by omega)]

/-- a bit of an address of a family -/
def bitN (f4 : Bool) (h l i : Nat) : Nat := if f4 then l / 2 ^ (31 - i) % 2 else if i < 64 then h / 2 ^ (63 - i) % 2 else l / 2 ^ (127 - i) % 2

theorem bit4 (h l i : Nat) (hl : l < 18446744073709551616) (hi : i < 32) : F_r02_Bit ⟨4, h, l⟩ (i : Int) = some ((bitN true h l i : Nat) : Int) := by
  unfold F_r02_Bit N_r02_Bit
  have k44 : ((4 : Int) == 4) = true := rfl
  simp only [k44, cond_true]
  rw [wr_i64 (by omega) (by omega), decide_eq_false (by omega), cond_false]
  have e : Int.toNat (31 - (i : Int)) = 31 - i := by omega
  rw [e, bit_gen l (31 - i) hl (by omega)]
  rfl
theorem bit6 (h l i : Nat) (hh : h < 18446744073709551616) (hl : l < 18446744073709551616) (hi : i < 128) : F_r02_Bit ⟨6, h, l⟩ (i : Int) = some ((bitN false h l i : Nat) : Int) := by
  unfold F_r02_Bit N_r02_Bit
  have k64 : ((6 : Int) == 4) = false := rfl
  simp only [k64, cond_false, Ev.ltI_eq]
  by_cases h6 : i < 64
  · rw [decide_eq_true (by omega : (i : Int) < 64), cond_true, wr_i64 (by omega) (by omega), decide_eq_false (by omega), cond_false]
    have e : Int.toNat (63 - (i : Int)) = 63 - i := by omega
    rw [e, bit_gen h (63 - i) hh (by omega)]
    unfold bitN
    simp [h6]
  · rw [decide_eq_false (by omega : ¬ (i : Int) < 64), cond_false, wr_i64 (by omega) (by omega), decide_eq_false (by omega), cond_false]
    have e : Int.toNat (127 - (i : Int)) = 127 - i := by omega
    rw [e, bit_gen l (127 - i) hl (by omega)]
    unfold bitN
    simp [h6]

/-- the first bits of a byte -/
def acc (g : Nat → Nat) (i : Nat) : Nat → Nat
  | 0 => 0
  | k + 1 => acc g i k * 2 + g (i + k)
theorem acc_lt {g : Nat → Nat} {i : Nat} (hg : ∀ j, g j < 2) : ∀ k, acc g i k < 2 ^ k
  | 0 => by simp [acc]
  | k + 1 => by
    have h1 := acc_lt (i := i) hg k
    have h2 := hg (i + k)
    simp only [acc, Nat.pow_succ]
    omega
theorem bitN_lt (f4 : Bool) (h l j : Nat) : bitN f4 h l j < 2 := by
  unfold bitN
  split
  · exact Nat.mod_lt _ (by decide)
  · split <;> exact Nat.mod_lt _ (by decide)
theorem acc_gen {g : Nat → Nat} {i x s : Nat} (hg : ∀ k, k < 8 → g (i + k) = x / 2 ^ (s + (7 - k)) % 2) : ∀ k, k ≤ 8 → acc g i k = x / 2 ^ (s + (8 - k)) % 2 ^ k
  | 0, _ => by simp [acc, Nat.mod_one]
  | k + 1, hk => by
    rw [acc, acc_gen hg k (by omega), hg k (by omega)]
    have e1 : s + (8 - k) = (s + (7 - k)) + 1 := by omega
    have e2 : s + (8 - (k + 1)) = s + (7 - k) := by omega
    rw [e1, e2, Nat.pow_succ 2 (s + (7 - k)), ← Nat.div_div_eq_div_mul, Nat.pow_succ 2 k, Nat.mul_comm (2 ^ k) 2, Nat.mod_mul]
    omega
theorem acc_8 {g : Nat → Nat} {i x s : Nat} (hg : ∀ k, k < 8 → g (i + k) = x / 2 ^ (s + (7 - k)) % 2) : acc g i 8 = x / 2 ^ s % 256 := by
  have := acc_gen hg 8 (Nat.le_refl _)
  simpa using this

/-- an address' bits are told -/
def Told2 (f : Int) (h l : Nat) (g : Nat → Nat) (n : Nat) : Prop := ∀ i : Nat, i < 8 * n → F_r02_Bit ⟨f, h, l⟩ (i : Int) = some ((g i : Nat) : Int)

theorem bytes_inner {f : Int} {h l n : Nat} {g : Nat → Nat} (hg : Told2 f h l g n) (hlt : ∀ j, g j < 2) (m : Nat) (K : Nat → Int → Int → Int → Int → List Value → Option (List Value)) (r : Nat) (hr : r < n) (hn : n ≤ 16) (out : List Nat) (ho : out.length = r) :
    ∀ (q k : Nat), k ≤ 8 → 8 - k < q → N_r02_Bytes_9 F_r02_Right F_r02_Size F_r02_Bit m K q r ((8 * r : Nat) : Int) ((acc g (8 * r) k : Nat) : Int) (k : Int) f h l (vB out) = K (r + 1) ((8 * (r + 1) : Nat) : Int) f h l (vB (out ++ [acc g (8 * r) 8])) := by
  intro q
  induction q with
  | zero => intro k _ h; omega
  | succ q ih =>
    intro k hk hq
    rw [N_r02_Bytes_9, Ev.ltI_eq]
    by_cases h8 : k < 8
    · rw [decide_eq_true (by omega : (k : Int) < 8), cond_true]
      have e : IntKind.wrap IntKind.i64 (((8 * r : Nat) : Int) + (k : Int)) = ((8 * r + k : Nat) : Int) := by rw [wr_i64 (by omega) (by omega)]; omega
      rw [e, hg (8 * r + k) (by omega), Ev.bnd_some]
      have hb := acc_lt (i := 8 * r) hlt k
      have hb2 : 2 ^ k ≤ 2 ^ 7 := Nat.pow_le_pow_right (by decide) (by omega)
      rw [i64_shl _ _ (by omega) (hlt _)]
      have e2 : IntKind.wrap IntKind.i64 ((k : Int) + 1) = ((k + 1 : Nat) : Int) := by rw [wr_i64 (by omega) (by omega)]; omega
      rw [e2]
      exact ih (k + 1) (by omega) (by omega)
    · obtain rfl : k = 8 := by omega
      rw [decide_eq_false (by decide), cond_false, vB_len, ho, Nat.mul_one, Nat.mul_one, Nat.beq_refl, cond_true, decide_eq_true (by omega), Bool.and_true, cond_true]
      have hb := acc_lt (i := 8 * r) hlt 8
      have e : IntKind.wrap IntKind.i64 (((8 * r : Nat) : Int) + 8) = ((8 * (r + 1) : Nat) : Int) := by rw [wr_i64 (by omega) (by omega)]; omega
      have e2 : IntKind.wrap IntKind.u8 ((acc g (8 * r) 8 : Nat) : Int) = ((acc g (8 * r) 8 : Nat) : Int) := by rw [wr_u8]; omega
      rw [e, e2, vB_app, vB_one]

theorem bytes_outer {f : Int} {h l n : Nat} {g : Nat → Nat} (hg : Told2 f h l g n) (hlt : ∀ j, g j < 2) (hn : n ≤ 16) (hs : F_r02_Size f = some ((8 * n : Nat) : Int)) (m : Nat) (hm : 8 < m) (B : List Nat) (hB : B.length = n) (hBs : ∀ r, r < n → B[r]? = some (acc g (8 * r) 8)) :
    ∀ (q r : Nat), r ≤ n → n - r < q → N_r02_Bytes_5 F_r02_Right F_r02_Size F_r02_Bit m q r ((8 * r : Nat) : Int) f h l (vB (B.take r)) = some (vB B) := by
  intro q
  induction q with
  | zero => intro r _ h; omega
  | succ q ih =>
    intro r hr hq
    rw [N_r02_Bytes_5, hs, Ev.bnd_some, Ev.ltI_eq]
    by_cases h8 : r < n
    · rw [decide_eq_true (by omega), cond_true]
      have := bytes_inner hg hlt m (N_r02_Bytes_5 F_r02_Right F_r02_Size F_r02_Bit m q) r h8 hn (B.take r) (by simp; omega) m 0 (by omega) (by omega)
      have e0 : ((acc g (8 * r) 0 : Nat) : Int) = 0 := rfl
      rw [e0] at this
      have e1 : ((0 : Nat) : Int) = 0 := rfl
      rw [e1] at this
      rw [this]
      have e2 : B.take r ++ [acc g (8 * r) 8] = B.take (r + 1) := by
        obtain ⟨hl, he⟩ := List.getElem?_eq_some_iff.1 (hBs r h8)
        rw [← he, List.take_append_getElem]
      rw [e2]
      exact ih (r + 1) (by omega) (by omega)
    · obtain rfl : r = n := by omega
      rw [decide_eq_false (by omega), cond_false, ← hB, List.take_length, Bool.true_and, Nat.mul_one, vB_len, Nat.beq_refl, cond_true]

theorem bytes4 (l : Nat) (hl : l < 4294967296) : F_r02_Bytes ⟨4, 0, l⟩ = some (vB (b4 l)) := by
  unfold F_r02_Bytes
  refine Ev.lim_eq 20 fun m hm => ?_
  unfold N_r02_Bytes
  have hR : F_r02_Right ⟨4, 0, l⟩ = some true := by
    unfold F_r02_Right N_r02_Right
    show (bif (4 : Int) == 6 then some true else bif (4 : Int) == 4 then bif (0 : Int) == 0 then some (Ev.ltI (l : Int) 4294967296) else some false else some false) = some true
    rw [Ev.ltI_eq, decide_eq_true (by omega)]
    rfl
  rw [hR, Ev.bnd_some]
  refine bytes_outer (f := 4) (h := 0) (l := l) (n := 4) (g := bitN true 0 l) (fun i hi => bit4 0 l i (by omega) (by omega)) (fun j => bitN_lt _ _ _ _) (by decide) rfl m (by omega) (b4 l) rfl (fun r hr => ?_) m 0 (by omega) (by omega)
  have hs : ∀ r, r < 4 → acc (bitN true 0 l) (8 * r) 8 = l / 2 ^ (24 - 8 * r) % 256 := fun r hr => acc_8 fun k hk => by
    unfold bitN
    rw [if_pos rfl]
    congr 3
    omega
  rw [hs r hr]
  have hr4 : r = 0 ∨ r = 1 ∨ r = 2 ∨ r = 3 := by omega
  rcases hr4 with rfl | rfl | rfl | rfl <;> simp [b4]

theorem bytes6 (h l : Nat) (hh : h < 18446744073709551616) (hl : l < 18446744073709551616) : F_r02_Bytes ⟨6, h, l⟩ = some (vB (b8 h ++ b8 l)) := by
  unfold F_r02_Bytes
  refine Ev.lim_eq 20 fun m hm => ?_
  unfold N_r02_Bytes
  have hR : F_r02_Right ⟨6, h, l⟩ = some true := rfl
  rw [hR, Ev.bnd_some]
  refine bytes_outer (f := 6) (h := h) (l := l) (n := 16) (g := bitN false h l) (fun i hi => bit6 h l i hh hl (by omega)) (fun j => bitN_lt _ _ _ _) (by decide) rfl m (by omega) (b8 h ++ b8 l) rfl (fun r hr => ?_) m 0 (by omega) (by omega)
  have h1 : ∀ r, r < 8 → acc (bitN false h l) (8 * r) 8 = h / 2 ^ (56 - 8 * r) % 256 := fun r hr => acc_8 fun k hk => by
    unfold bitN
    rw [if_neg (by decide), if_pos (by omega)]
    congr 3
    omega
  have h2 : ∀ r, 8 ≤ r → r < 16 → acc (bitN false h l) (8 * r) 8 = l / 2 ^ (120 - 8 * r) % 256 := fun r hr hr2 => acc_8 fun k hk => by
    unfold bitN
    rw [if_neg (by decide), if_neg (by omega)]
    congr 3
    omega
  by_cases h8 : r < 8
  · rw [h1 r h8]
    have hr4 : r = 0 ∨ r = 1 ∨ r = 2 ∨ r = 3 ∨ r = 4 ∨ r = 5 ∨ r = 6 ∨ r = 7 := by omega
    rcases hr4 with rfl | rfl | rfl | rfl | rfl | rfl | rfl | rfl <;> simp [b8, b4] <;> omega
  · rw [h2 r (by omega) hr]
    have hr4 : r = 8 ∨ r = 9 ∨ r = 10 ∨ r = 11 ∨ r = 12 ∨ r = 13 ∨ r = 14 ∨ r = 15 := by omega
    rcases hr4 with rfl | rfl | rfl | rfl | rfl | rfl | rfl | rfl <;> simp [b8, b4] <;> omega
end Go.Proofs.Yteljeekapcenlaa
