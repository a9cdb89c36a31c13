/-
  Bits of bytes and of numbers. No conditions.
-/
import Derived.Test.YteljeekapcenlaaEnv
namespace Go.Proofs.Yteljeekapcenlaa
open Go
set_option linter.unusedVariables false
set_option linter.unusedSimpArgs false

theorem bits_and {k : IntKind} {a b : Nat} (ha : a < 2 ^ k.bits) (hb : b < 2 ^ k.bits) : Ev.bitsOp .and k (a : Int) (b : Int) = k.wrap ((a &&& b : Nat) : Int) := by
  unfold Ev.bitsOp
  have e1 : BitVec.ofInt k.bits (a : Int) = BitVec.ofNat k.bits a := by simp
  have e2 : BitVec.ofInt k.bits (b : Int) = BitVec.ofNat k.bits b := by simp
  simp only [e1, e2, BitVec.toNat_and, BitVec.toNat_ofNat, Nat.mod_eq_of_lt ha, Nat.mod_eq_of_lt hb]
theorem bits_or {k : IntKind} {a b : Nat} (ha : a < 2 ^ k.bits) (hb : b < 2 ^ k.bits) : Ev.bitsOp .or k (a : Int) (b : Int) = k.wrap ((a ||| b : Nat) : Int) := by
  unfold Ev.bitsOp
  have e1 : BitVec.ofInt k.bits (a : Int) = BitVec.ofNat k.bits a := by simp
  have e2 : BitVec.ofInt k.bits (b : Int) = BitVec.ofNat k.bits b := by simp
  simp only [e1, e2, BitVec.toNat_or, BitVec.toNat_ofNat, Nat.mod_eq_of_lt ha, Nat.mod_eq_of_lt hb]

/-- bytes, the highest first, as a number -/
def bval : List Nat → Nat
  | [] => 0
  | b :: l => b * 256 ^ l.length + bval l
def small (l : List Nat) : Prop := ∀ b ∈ l, b < 256
theorem bval_lt : ∀ {l : List Nat}, small l → bval l < 256 ^ l.length
  | [], _ => by simp [bval]
  | b :: l, h => by
    have h1 := h b List.mem_cons_self
    have h2 := bval_lt fun x hx => h x (List.mem_cons_of_mem _ hx)
    simp only [bval, List.length_cons, Nat.pow_succ]
    have : (b + 1) * 256 ^ l.length ≤ 256 * 256 ^ l.length := Nat.mul_le_mul_right _ h1
    rw [Nat.add_mul, Nat.one_mul] at this
    omega
theorem pow256 (n : Nat) : 256 ^ n = 2 ^ (8 * n) := by rw [Nat.pow_mul]
/-- the first bits of bytes alone -/
def bmask : List Nat → Nat → List Nat
  | [], _ => []
  | b :: l, n => (if 8 ≤ n then b else b / 2 ^ (8 - n) * 2 ^ (8 - n)) :: bmask l (n - 8)
theorem bmask_len : ∀ (l : List Nat) (n : Nat), (bmask l n).length = l.length
  | [], _ => rfl
  | b :: l, n => by simp [bmask, bmask_len l]
theorem bmask_small : ∀ {l : List Nat} (n : Nat), small l → small (bmask l n)
  | [], n, h => fun b hb => by cases hb
  | b :: l, n, h => fun x hx => by
    rcases List.mem_cons.1 hx with rfl | hx
    · have h1 := h b List.mem_cons_self
      split
      · exact h1
      · exact Nat.lt_of_le_of_lt (Nat.div_mul_le_self _ _) h1
    · exact bmask_small (n - 8) (fun y hy => h y (List.mem_cons_of_mem _ hy)) x hx

theorem bval_mask : ∀ {l : List Nat} {n : Nat}, small l → n ≤ 8 * l.length → bval (bmask l n) = bval l / 2 ^ (8 * l.length - n) * 2 ^ (8 * l.length - n)
  | [], n, _, hn => by simp [bmask, bval]
  | b :: l, n, h, hn => by
    have hl : small l := fun y hy => h y (List.mem_cons_of_mem _ hy)
    have hb := h b List.mem_cons_self
    have hv := bval_lt hl
    rw [pow256] at hv
    simp only [bmask, bval, bmask_len, List.length_cons] at *
    by_cases h8 : 8 ≤ n
    · rw [if_pos h8, bval_mask hl (by omega)]
      have e : 8 * (l.length + 1) - n = 8 * l.length - (n - 8) := by omega
      rw [e, pow256]
      generalize hR : 8 * l.length - (n - 8) = R
      have e2 : 2 ^ (8 * l.length) = 2 ^ (n - 8) * 2 ^ R := by rw [← Nat.pow_add]; congr 1; omega
      rw [e2, ← Nat.mul_assoc, Nat.add_comm _ (bval l), Nat.add_mul_div_right _ _ (Nat.two_pow_pos R), Nat.add_mul, Nat.add_comm]
    · rw [if_neg h8, bval_mask hl (by omega)]
      have e : n - 8 = 0 := by omega
      rw [e, Nat.sub_zero, Nat.div_eq_of_lt hv, Nat.zero_mul, Nat.add_zero, pow256]
      have e2 : 8 * (l.length + 1) - n = 8 * l.length + (8 - n) := by omega
      rw [e2, Nat.pow_add, ← Nat.div_div_eq_div_mul, Nat.add_comm (b * _), Nat.add_mul_div_right _ _ (Nat.two_pow_pos _), Nat.div_eq_of_lt hv, Nat.zero_add, Nat.mul_assoc, Nat.mul_comm (2 ^ (8 - n))]

theorem bval_append : ∀ (l m : List Nat), bval (l ++ m) = bval l * 256 ^ m.length + bval m
  | [], m => by simp [bval]
  | b :: l, m => by
    simp only [List.cons_append, bval, bval_append l m, List.length_append]
    rw [Nat.add_mul, Nat.mul_assoc, ← Nat.pow_add, Nat.add_assoc]

/-- the bytes of a number -/
def b4 (x : Nat) : List Nat := [x / 16777216 % 256, x / 65536 % 256, x / 256 % 256, x % 256]
def b8 (x : Nat) : List Nat := b4 (x / 4294967296) ++ b4 x
theorem b4_small (x : Nat) : small (b4 x) := by
  intro b hb
  simp only [b4, List.mem_cons, List.not_mem_nil, or_false] at hb
  omega
theorem small_app {l m : List Nat} (h1 : small l) (h2 : small m) : small (l ++ m) := fun b hb => by
  rcases List.mem_append.1 hb with q | q
  · exact h1 b q
  · exact h2 b q
theorem b8_small (x : Nat) : small (b8 x) := small_app (b4_small _) (b4_small _)
theorem bval_b4 (x : Nat) : bval (b4 x) = x % 4294967296 := by
  simp only [b4, bval, List.length_cons, List.length_nil, Nat.reducePow, Nat.reduceAdd]
  omega
theorem bval_b8 {x : Nat} (h : x < 18446744073709551616) : bval (b8 x) = x := by
  unfold b8
  rw [bval_append, bval_b4, bval_b4]
  have : (b4 x).length = 4 := rfl
  rw [this]
  simp only [Nat.reducePow]
  omega

/-- one bit taken out, or none -/
def chain (b n : Nat) : Nat → Nat
  | 0 => b
  | k + 1 => if n ≤ k then chain b n k &&& (255 - 2 ^ (7 - k)) else chain b n k
theorem chain_all : ∀ n : Fin 9, ∀ b : Fin 256, chain b.val n.val 8 = b.val / 2 ^ (8 - n.val) * 2 ^ (8 - n.val) := by decide +kernel
theorem chain_8 {b n : Nat} (hb : b < 256) : chain b n 8 = if 8 ≤ n then b else b / 2 ^ (8 - n) * 2 ^ (8 - n) := by
  by_cases h : 8 ≤ n
  · rw [if_pos h]
    have : ∀ k, k ≤ 8 → chain b n k = b := by
      intro k
      induction k with
      | zero => intro _; rfl
      | succ k ih => intro hk; simp only [chain]; rw [if_neg (by omega), ih (by omega)]
    exact this 8 (Nat.le_refl _)
  · rw [if_neg h]
    exact chain_all ⟨n, by omega⟩ ⟨b, hb⟩
theorem chain_lt {b n : Nat} (hb : b < 256) : ∀ k, chain b n k < 256
  | 0 => hb
  | k + 1 => by
    simp only [chain]
    split
    · exact Nat.lt_of_le_of_lt Nat.and_le_left (chain_lt hb k)
    · exact chain_lt hb k

theorem wr_u64 (n : Int) : IntKind.u64.wrap n = n % 18446744073709551616 := by simp [IntKind.wrap, IntKind.signed, IntKind.bits]
theorem wr_u8 (n : Int) : IntKind.u8.wrap n = n % 256 := by simp [IntKind.wrap, IntKind.signed, IntKind.bits]
theorem wr_i64 {n : Int} (h0 : 0 ≤ n) (h1 : n < 9223372036854775808) : IntKind.i64.wrap n = n := by
  simp [IntKind.wrap, IntKind.signed, IntKind.bits] at *; omega
theorem or_low {x b s : Nat} (hb : b < 2 ^ s) : (x * 2 ^ s) ||| b = x * 2 ^ s + b := by
  rw [← Nat.shiftLeft_eq]
  exact (Nat.shiftLeft_add_eq_or_of_lt hb x).symm
theorem fdiv_nat (x k : Nat) : Int.fdiv (x : Int) (k : Int) = ((x / k : Nat) : Int) := by
  rw [Int.fdiv_eq_ediv_of_nonneg _ (by omega)]
  exact (Int.natCast_ediv x k).symm

/-- eight places up, and a byte -/
theorem u64_shl (x b : Nat) (hb : b < 256) : Ev.bitsOp .or .u64 (IntKind.u64.wrap ((x : Int) * 256)) (b : Int) = (((x * 256 + b) % 18446744073709551616 : Nat) : Int) := by
  rw [wr_u64]
  have e : (x : Int) * 256 % 18446744073709551616 = (((x % 72057594037927936) * 2 ^ 8 : Nat) : Int) := by
    simp only [Nat.reducePow]; omega
  rw [e, bits_or (by show _ < 2 ^ 64; simp only [Nat.reducePow]; omega) (by show _ < 2 ^ 64; simp only [Nat.reducePow]; omega), or_low (by simpa using hb), wr_u64]
  simp only [Nat.reducePow]
  omega
/-- one place up, and a bit -/
theorem i64_shl (x b : Nat) (hx : x < 128) (hb : b < 2) : Ev.bitsOp .or .i64 (IntKind.i64.wrap ((x : Int) * 2)) (b : Int) = ((x * 2 + b : Nat) : Int) := by
  rw [wr_i64 (by omega) (by omega)]
  have e : (x : Int) * 2 = ((x * 2 ^ 1 : Nat) : Int) := by simp
  rw [e, bits_or (by show _ < 2 ^ 64; simp only [Nat.reducePow]; omega) (by show _ < 2 ^ 64; simp only [Nat.reducePow]; omega), or_low (by simpa using hb), wr_i64 (by omega) (by simp; omega)]
theorem u64_bit (x : Nat) (hx : x < 18446744073709551616) : Ev.bitsOp .and .u64 (x : Int) 1 = ((x % 2 : Nat) : Int) := by
  have := bits_and (k := .u64) (a := x) (b := 1) (by show _ < 2 ^ 64; simp only [Nat.reducePow]; omega) (by show _ < 2 ^ 64; simp)
  rw [show ((1 : Nat) : Int) = 1 from rfl] at this
  rw [this, Nat.and_one_is_mod, wr_u64]
  omega
theorem u8_and {b m : Nat} (hb : b < 256) (hm : m < 256) : Ev.bitsOp .and .u8 (b : Int) (m : Int) = ((b &&& m : Nat) : Int) := by
  rw [bits_and (by show _ < 2 ^ 8; simpa using hb) (by show _ < 2 ^ 8; simpa using hm), wr_u8]
  have : b &&& m ≤ b := Nat.and_le_left
  omega
end Go.Proofs.Yteljeekapcenlaa
