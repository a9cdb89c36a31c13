/-
  Which addresses are near, and which of a group near by; neighbours' messages; ends. No conditions.
-/
import Derived.Test.YteljeekapcenlaaPp
import Derived.Test.YteljeekapcenlaaIh
namespace Go.Proofs.Yteljeekapcenlaa
open Go Go.RowKit
set_option linter.unusedVariables false
set_option linter.unusedSimpArgs false

theorem addr_nat (a : T_api_Addr) (h1 : IntKind.u64.has a.Hi) (h2 : IntKind.u64.has a.Lo) : ∃ (f : Int) (h l : Nat), a = ⟨f, (h : Int), (l : Int)⟩ ∧ h < 18446744073709551616 ∧ l < 18446744073709551616 := by
  have m0 : IntKind.u64.min = 0 := by decide
  have m1 : IntKind.u64.max = 18446744073709551615 := by decide
  obtain ⟨f, hi, lo⟩ := a
  unfold IntKind.has at h1 h2
  rw [m0, m1] at h1 h2
  dsimp only at h1 h2
  refine ⟨f, hi.toNat, lo.toNat, ?_, by omega, by omega⟩
  rw [Int.toNat_of_nonneg h1.1, Int.toNat_of_nonneg h2.1]

theorem nb {a b : Nat} : (((a : Nat) : Int) == ((b : Nat) : Int)) = decide (a = b) := by
  by_cases h : a = b
  · subst h; simp
  · rw [decide_eq_false h]
    simp [beq_eq_false_iff_ne, h]
    omega

-- ---------------------------------------------------------------- which addresses may be

theorem cR6 (h l : Nat) : F_addr_Right ⟨6, h, l⟩ = some true ∧ F_r02_Right ⟨6, h, l⟩ = some true := ⟨rfl, rfl⟩
theorem cR4 (l : Nat) (hl : l < 4294967296) : F_addr_Right ⟨4, 0, l⟩ = some true ∧ F_r02_Right ⟨4, 0, l⟩ = some true := by
  constructor
  · unfold F_addr_Right N_addr_Right
    show (bif (4 : Int) == 4 then bif (0 : Int) == 0 then some (Int.fdiv (l : Int) 4294967296 == 0) else some false else bif (4 : Int) == 6 then some true else some false) = some true
    have e : Int.fdiv (l : Int) 4294967296 = ((l / 4294967296 : Nat) : Int) := fdiv_nat l 4294967296
    rw [e, show l / 4294967296 = 0 from by omega]
    rfl
  · unfold F_r02_Right N_r02_Right
    show (bif (4 : Int) == 6 then some true else bif (4 : Int) == 4 then bif (0 : Int) == 0 then some (Ev.ltI (l : Int) 4294967296) else some false else some false) = some true
    rw [Ev.ltI_eq, decide_eq_true (by omega)]
    rfl
theorem cases3 (f : Int) (h l : Nat) : f = 6 ∨ (f = 4 ∧ h = 0 ∧ l < 4294967296) ∨ (F_addr_Right ⟨f, h, l⟩ = some false ∧ F_r02_Right ⟨f, h, l⟩ = some false) := by
  by_cases h6 : f = 6
  · exact .inl h6
  · by_cases h4 : f = 4
    · subst h4
      by_cases hh : h = 0
      · subst hh
        by_cases hl : l < 4294967296
        · exact .inr (.inl ⟨rfl, rfl, hl⟩)
        · refine .inr (.inr ⟨?_, ?_⟩)
          · unfold F_addr_Right N_addr_Right
            show (bif (4 : Int) == 4 then bif (0 : Int) == 0 then some (Int.fdiv (l : Int) 4294967296 == 0) else some false else bif (4 : Int) == 6 then some true else some false) = some false
            have e : Int.fdiv (l : Int) 4294967296 = ((l / 4294967296 : Nat) : Int) := fdiv_nat l 4294967296
            have e2 : (((l / 4294967296 : Nat) : Int) == 0) = false := by
              rw [beq_eq_false_iff_ne]; omega
            rw [e, e2]
            rfl
          · unfold F_r02_Right N_r02_Right
            show (bif (4 : Int) == 6 then some true else bif (4 : Int) == 4 then bif (0 : Int) == 0 then some (Ev.ltI (l : Int) 4294967296) else some false else some false) = some false
            rw [Ev.ltI_eq, decide_eq_false (by omega)]
            rfl
      · have e2 : ((h : Int) == 0) = false := by rw [beq_eq_false_iff_ne]; omega
        refine .inr (.inr ⟨?_, ?_⟩)
        · unfold F_addr_Right N_addr_Right
          dsimp only
          rw [e2]
          rfl
        · unfold F_r02_Right N_r02_Right
          dsimp only
          rw [e2]
          rfl
    · refine .inr (.inr ⟨?_, ?_⟩)
      · unfold F_addr_Right N_addr_Right
        dsimp only
        rw [beq_eq_false_iff_ne.2 h4, beq_eq_false_iff_ne.2 h6]
        rfl
      · unfold F_r02_Right N_r02_Right
        dsimp only
        rw [beq_eq_false_iff_ne.2 h4, beq_eq_false_iff_ne.2 h6]
        rfl

-- ---------------------------------------------------------------- prefixes

theorem mask6_hi (h l n : Nat) (hh : h < 18446744073709551616) (hl : l < 18446744073709551616) (hn : n ≤ 64) : F_r02_Mask ⟨6, h, l⟩ (n : Int) = some (⟨6, ((h / 2 ^ (64 - n) * 2 ^ (64 - n) : Nat) : Int), 0⟩, 0) := by
  rw [mask6 h l n hh hl (by omega)]
  have e : 2 ^ (128 - n) = 18446744073709551616 * 2 ^ (64 - n) := by
    rw [show 128 - n = 64 + (64 - n) by omega, Nat.pow_add]
  have e2 : (h * 18446744073709551616 + l) / (18446744073709551616 * 2 ^ (64 - n)) = h / 2 ^ (64 - n) := by
    rw [← Nat.div_div_eq_div_mul, Nat.add_comm, Nat.add_mul_div_right _ _ (by decide), Nat.div_eq_of_lt hl, Nat.zero_add]
  rw [e, e2]
  have e3 : h / 2 ^ (64 - n) * (18446744073709551616 * 2 ^ (64 - n)) = h / 2 ^ (64 - n) * 2 ^ (64 - n) * 18446744073709551616 := by
    rw [Nat.mul_comm 18446744073709551616, Nat.mul_assoc]
  rw [e3, Nat.mul_div_cancel _ (by decide), Nat.mul_mod_left]
  rfl

theorem rp6 {p n : Nat} (hn : n ≤ 64) (hp : p * 2 ^ (64 - n) < 18446744073709551616) : F_r02_RightPrefix ⟨6, ((p * 2 ^ (64 - n) : Nat) : Int), 0, (n : Int)⟩ = some true := by
  unfold F_r02_RightPrefix N_r02_RightPrefix
  have := mask6_hi (p * 2 ^ (64 - n)) 0 n hp (by decide) hn
  have e0 : ((0 : Nat) : Int) = 0 := rfl
  rw [e0] at this
  show Ev.bnd (F_r02_Mask ⟨6, ((p * 2 ^ (64 - n) : Nat) : Int), 0⟩ (n : Int)) _ = _
  rw [this, Ev.bnd_some, Nat.mul_div_cancel _ (Nat.two_pow_pos _)]
  simp
theorem rp4 {p n : Nat} (hn : n ≤ 32) (hp : p * 2 ^ (32 - n) < 4294967296) : F_r02_RightPrefix ⟨4, 0, ((p * 2 ^ (32 - n) : Nat) : Int), (n : Int)⟩ = some true := by
  unfold F_r02_RightPrefix N_r02_RightPrefix
  have := mask4 (p * 2 ^ (32 - n)) n hp hn
  show Ev.bnd (F_r02_Mask ⟨4, 0, ((p * 2 ^ (32 - n) : Nat) : Int)⟩ (n : Int)) _ = _
  rw [this, Ev.bnd_some, Nat.mul_div_cancel _ (Nat.two_pow_pos _)]
  simp
theorem eq_up {x p s : Nat} : (x / 2 ^ s * 2 ^ s = p * 2 ^ s) ↔ x / 2 ^ s = p := by
  constructor
  · intro h; exact Nat.eq_of_mul_eq_mul_right (Nat.two_pow_pos s) h
  · intro h; rw [h]

theorem has66 {p n h l : Nat} (hn : n ≤ 64) (hp : p * 2 ^ (64 - n) < 18446744073709551616) (hh : h < 18446744073709551616) (hl : l < 18446744073709551616) :
    F_r02_Has ⟨6, ((p * 2 ^ (64 - n) : Nat) : Int), 0, (n : Int)⟩ ⟨6, h, l⟩ = some (decide (h / 2 ^ (64 - n) = p)) := by
  unfold F_r02_Has N_r02_Has
  rw [rp6 hn hp, Ev.bnd_some, (cR6 h l).2, Ev.bnd_some]
  simp only [Bool.not_true, cond_false, bne_self_eq_false]
  rw [mask6_hi h l n hh hl hn, Ev.bnd_some, nb]
  by_cases q : h / 2 ^ (64 - n) = p
  · rw [decide_eq_true (eq_up.2 q), decide_eq_true q]; rfl
  · rw [decide_eq_false (fun e => q (eq_up.1 e)), decide_eq_false q]; rfl
theorem has44 {p n l : Nat} (hn : n ≤ 32) (hp : p * 2 ^ (32 - n) < 4294967296) (hl : l < 4294967296) :
    F_r02_Has ⟨4, 0, ((p * 2 ^ (32 - n) : Nat) : Int), (n : Int)⟩ ⟨4, 0, l⟩ = some (decide (l / 2 ^ (32 - n) = p)) := by
  unfold F_r02_Has N_r02_Has
  rw [rp4 hn hp, Ev.bnd_some, (cR4 l hl).2, Ev.bnd_some]
  simp only [Bool.not_true, cond_false, bne_self_eq_false]
  rw [mask4 l n hl hn, Ev.bnd_some, nb]
  by_cases q : l / 2 ^ (32 - n) = p
  · rw [decide_eq_true (eq_up.2 q), decide_eq_true q]; rfl
  · rw [decide_eq_false (fun e => q (eq_up.1 e)), decide_eq_false q]; rfl
theorem has64 {p n l : Nat} (hn : n ≤ 64) (hp : p * 2 ^ (64 - n) < 18446744073709551616) (hl : l < 4294967296) : F_r02_Has ⟨6, ((p * 2 ^ (64 - n) : Nat) : Int), 0, (n : Int)⟩ ⟨4, 0, l⟩ = some false := by
  unfold F_r02_Has N_r02_Has
  rw [rp6 hn hp, Ev.bnd_some, (cR4 l hl).2, Ev.bnd_some]
  rfl
theorem has46 {p n h l : Nat} (hn : n ≤ 32) (hp : p * 2 ^ (32 - n) < 4294967296) : F_r02_Has ⟨4, 0, ((p * 2 ^ (32 - n) : Nat) : Int), (n : Int)⟩ ⟨6, h, l⟩ = some false := by
  unfold F_r02_Has N_r02_Has
  rw [rp4 hn hp, Ev.bnd_some, (cR6 h l).2, Ev.bnd_some]
  rfl
theorem has6f {p n : Nat} (a : T_api_Addr) (hn : n ≤ 64) (hp : p * 2 ^ (64 - n) < 18446744073709551616) (ha : F_r02_Right a = some false) : F_r02_Has ⟨6, ((p * 2 ^ (64 - n) : Nat) : Int), 0, (n : Int)⟩ a = some false := by
  unfold F_r02_Has N_r02_Has
  rw [rp6 hn hp, Ev.bnd_some, ha, Ev.bnd_some]
  rfl
theorem has4f {p n : Nat} (a : T_api_Addr) (hn : n ≤ 32) (hp : p * 2 ^ (32 - n) < 4294967296) (ha : F_r02_Right a = some false) : F_r02_Has ⟨4, 0, ((p * 2 ^ (32 - n) : Nat) : Int), (n : Int)⟩ a = some false := by
  unfold F_r02_Has N_r02_Has
  rw [rp4 hn hp, Ev.bnd_some, ha, Ev.bnd_some]
  rfl

theorem px0 : pfx0 = ⟨6, ((1018 * 2 ^ (64 - 10) : Nat) : Int), 0, ((10 : Nat) : Int)⟩ := by kernel_rfl
theorem px1 : pfx1 = ⟨4, 0, ((43518 * 2 ^ (32 - 16) : Nat) : Int), ((16 : Nat) : Int)⟩ := by kernel_rfl
theorem px2 : pfx2 = ⟨6, ((65282 * 2 ^ (64 - 16) : Nat) : Int), 0, ((16 : Nat) : Int)⟩ := by kernel_rfl
theorem px3 : pfx3 = ⟨6, ((65281 * 2 ^ (64 - 16) : Nat) : Int), 0, ((16 : Nat) : Int)⟩ := by kernel_rfl
theorem px4 : pfx4 = ⟨4, 0, ((14680064 * 2 ^ (32 - 24) : Nat) : Int), ((24 : Nat) : Int)⟩ := by kernel_rfl

-- ---------------------------------------------------------------- near

theorem near_has (a : T_api_Addr) (b0 b1 : Bool) (h0 : F_r02_Has pfx0 a = some b0) (h1 : F_r02_Has pfx1 a = some b1) : F_r21_Near a = some (b0 || b1) := by
  unfold F_r21_Near N_r21_Near
  change Ev.bnd (F_r02_ParsePrefix lit0) (fun v0 => Ev.bnd (F_r02_Has v0.fst a) fun v1 => bif v1 then some true else Ev.bnd (F_r02_ParsePrefix lit1) fun v2 => Ev.bnd (F_r02_Has v2.fst a) fun v3 => some v3) = _
  have p0 : F_r02_ParsePrefix lit0 = some (pfx0, 0) := by kernel_rfl
  have p1 : F_r02_ParsePrefix lit1 = some (pfx1, 0) := by kernel_rfl
  rw [p0, p1]
  simp only [Ev.bnd_some, h0, h1]
  cases b0 <;> rfl
theorem group_has (a : T_api_Addr) (b2 b3 b4 : Bool) (h2 : F_r02_Has pfx2 a = some b2) (h3 : F_r02_Has pfx3 a = some b3) (h4 : F_r02_Has pfx4 a = some b4) : F_r21_Group a = some (b2 || (b3 || b4)) := by
  unfold F_r21_Group N_r21_Group
  change Ev.bnd (F_r02_ParsePrefix lit2) (fun v0 => Ev.bnd (F_r02_Has v0.fst a) fun v1 => bif v1 then some true else Ev.bnd (F_r02_ParsePrefix lit3) fun v2 => Ev.bnd (F_r02_Has v2.fst a) fun v3 => bif v3 then some true else Ev.bnd (F_r02_ParsePrefix lit4) fun v4 => Ev.bnd (F_r02_Has v4.fst a) fun v5 => some v5) = _
  have p2 : F_r02_ParsePrefix lit2 = some (pfx2, 0) := by kernel_rfl
  have p3 : F_r02_ParsePrefix lit3 = some (pfx3, 0) := by kernel_rfl
  have p4 : F_r02_ParsePrefix lit4 = some (pfx4, 0) := by kernel_rfl
  rw [p2, p3, p4]
  simp only [Ev.bnd_some, h2, h3, h4]
  cases b2 <;> cases b3 <;> rfl

def nearN (f : Int) (h l : Nat) : Bool := if f = 6 then decide (h / 18014398509481984 = 1018) else if f = 4 ∧ h = 0 ∧ l < 4294967296 then decide (l / 65536 = 43518) else false
def groupN (f : Int) (h l : Nat) : Bool := if f = 6 then (decide (h / 281474976710656 = 65281) || decide (h / 281474976710656 = 65282)) else if f = 4 ∧ h = 0 ∧ l < 4294967296 then decide (l / 256 = 14680064) else false

theorem fdk {x k : Nat} (z : Int) (hz : z = (k : Int)) : Int.fdiv (x : Int) z = ((x / k : Nat) : Int) := by rw [hz]; exact fdiv_nat x k
theorem bad4 {f : Int} {h l : Nat} (hf : F_addr_Right ⟨f, h, l⟩ = some false) : ¬ f = 6 ∧ ¬ (f = 4 ∧ h = 0 ∧ l < 4294967296) := by
  constructor
  · rintro rfl
    rw [(cR6 h l).1] at hf
    cases hf
  · rintro ⟨rfl, rfl, hl⟩
    have := (cR4 l hl).1
    have e0 : ((0 : Nat) : Int) = 0 := rfl
    rw [e0, this] at hf
    cases hf

theorem near_p (f : Int) (h l : Nat) : F_icmp_Near ⟨f, h, l⟩ = some (nearN f h l) := by
  unfold F_icmp_Near N_icmp_Near
  rcases cases3 f h l with rfl | ⟨rfl, rfl, hl⟩ | ⟨h1, h2⟩
  · rw [(cR6 h l).1, Ev.bnd_some]
    show (bif !true then some false else bif (6 : Int) == 4 then _ else some (Int.fdiv (h : Int) 18014398509481984 == 1018)) = _
    rw [fdk (k := 18014398509481984) (18014398509481984 : Int) rfl, show (1018 : Int) = ((1018 : Nat) : Int) from rfl, nb]
    unfold nearN
    rw [if_pos rfl]
    rfl
  · have e0 : ((0 : Nat) : Int) = 0 := rfl
    rw [e0, (cR4 l hl).1, Ev.bnd_some]
    show (bif !true then some false else bif (4 : Int) == 4 then some (Int.fdiv (l : Int) 65536 == 43518) else _) = _
    rw [fdk (k := 65536) (65536 : Int) rfl, show (43518 : Int) = ((43518 : Nat) : Int) from rfl, nb]
    unfold nearN
    rw [if_neg (by decide), if_pos ⟨rfl, rfl, hl⟩]
    rfl
  · rw [h1, Ev.bnd_some]
    obtain ⟨n1, n2⟩ := bad4 h1
    unfold nearN
    rw [if_neg n1, if_neg n2]
    rfl

theorem near_r (f : Int) (h l : Nat) (hh : h < 18446744073709551616) (hl : l < 18446744073709551616) : F_r21_Near ⟨f, h, l⟩ = some (nearN f h l) := by
  rcases cases3 f h l with rfl | ⟨rfl, rfl, hl4⟩ | ⟨h1, h2⟩
  · rw [near_has _ (decide (h / 18014398509481984 = 1018)) false (by rw [px0, has66 (by decide) (by decide) hh hl]; try rfl) (by rw [px1, has46 (by decide) (by decide)])]
    unfold nearN
    rw [if_pos rfl, Bool.or_false]
  · have e0 : ((0 : Nat) : Int) = 0 := rfl
    rw [e0, near_has _ false (decide (l / 65536 = 43518)) (by rw [px0, has64 (by decide) (by decide) hl4]) (by rw [px1, has44 (by decide) (by decide) hl4]; try rfl)]
    unfold nearN
    rw [if_neg (by decide), if_pos ⟨rfl, rfl, hl4⟩, Bool.false_or]
  · rw [near_has _ false false (by rw [px0, has6f _ (by decide) (by decide) h2]) (by rw [px1, has4f _ (by decide) (by decide) h2])]
    obtain ⟨n1, n2⟩ := bad4 h1
    unfold nearN
    rw [if_neg n1, if_neg n2]
    rfl

theorem group_p (f : Int) (h l : Nat) : F_icmp_Group ⟨f, h, l⟩ = some (groupN f h l) := by
  unfold F_icmp_Group N_icmp_Group
  rcases cases3 f h l with rfl | ⟨rfl, rfl, hl⟩ | ⟨h1, h2⟩
  · rw [(cR6 h l).1, Ev.bnd_some]
    show (bif !true then some false else bif (6 : Int) == 4 then _ else bif Int.fdiv (h : Int) 281474976710656 == 65281 then some true else some (Int.fdiv (h : Int) 281474976710656 == 65282)) = _
    rw [fdk (k := 281474976710656) (281474976710656 : Int) rfl, show (65281 : Int) = ((65281 : Nat) : Int) from rfl, show (65282 : Int) = ((65282 : Nat) : Int) from rfl, nb, nb]
    unfold groupN
    rw [if_pos rfl]
    cases decide (h / 281474976710656 = 65281) <;> rfl
  · have e0 : ((0 : Nat) : Int) = 0 := rfl
    rw [e0, (cR4 l hl).1, Ev.bnd_some]
    show (bif !true then some false else bif (4 : Int) == 4 then some (Int.fdiv (l : Int) 256 == 14680064) else _) = _
    rw [fdk (k := 256) (256 : Int) rfl, show (14680064 : Int) = ((14680064 : Nat) : Int) from rfl, nb]
    unfold groupN
    rw [if_neg (by decide), if_pos ⟨rfl, rfl, hl⟩]
    rfl
  · rw [h1, Ev.bnd_some]
    obtain ⟨n1, n2⟩ := bad4 h1
    unfold groupN
    rw [if_neg n1, if_neg n2]
    rfl

theorem group_r (f : Int) (h l : Nat) (hh : h < 18446744073709551616) (hl : l < 18446744073709551616) : F_r21_Group ⟨f, h, l⟩ = some (groupN f h l) := by
  rcases cases3 f h l with rfl | ⟨rfl, rfl, hl4⟩ | ⟨h1, h2⟩
  · rw [group_has _ (decide (h / 281474976710656 = 65282)) (decide (h / 281474976710656 = 65281)) false (by rw [px2, has66 (by decide) (by decide) hh hl]; try rfl) (by rw [px3, has66 (by decide) (by decide) hh hl]; try rfl) (by rw [px4, has46 (by decide) (by decide)])]
    unfold groupN
    rw [if_pos rfl, Bool.or_false, Bool.or_comm]
  · have e0 : ((0 : Nat) : Int) = 0 := rfl
    rw [e0, group_has _ false false (decide (l / 256 = 14680064)) (by rw [px2, has64 (by decide) (by decide) hl4]) (by rw [px3, has64 (by decide) (by decide) hl4]) (by rw [px4, has44 (by decide) (by decide) hl4]; try rfl)]
    unfold groupN
    rw [if_neg (by decide), if_pos ⟨rfl, rfl, hl4⟩, Bool.false_or, Bool.false_or]
  · rw [group_has _ false false false (by rw [px2, has6f _ (by decide) (by decide) h2]) (by rw [px3, has6f _ (by decide) (by decide) h2]) (by rw [px4, has4f _ (by decide) (by decide) h2])]
    obtain ⟨n1, n2⟩ := bad4 h1
    unfold groupN
    rw [if_neg n1, if_neg n2]
    rfl
theorem apart (f : Int) (h l : Nat) : (nearN f h l && groupN f h l) = false := by
  unfold nearN groupN
  by_cases h6 : f = 6
  · rw [if_pos h6, if_pos h6]
    by_cases q : h / 18014398509481984 = 1018
    · have q1 : ¬ h / 281474976710656 = 65281 := by omega
      have q2 : ¬ h / 281474976710656 = 65282 := by omega
      simp [q1, q2]
    · simp [q]
  · rw [if_neg h6, if_neg h6]
    by_cases h4 : f = 4 ∧ h = 0 ∧ l < 4294967296
    · rw [if_pos h4, if_pos h4]
      by_cases q : l / 65536 = 43518
      · have q1 : ¬ l / 256 = 14680064 := by omega
        simp [q1]
      · simp [q]
    · rw [if_neg h4]; rfl

-- ---------------------------------------------------------------- the first byte

theorem byte0_at {l : List Nat} {b : Nat} (h : l[0]? = some b) : (decide ((0 : Int) < ((Ev.dlen 1 (vB l) : Nat) : Int)) = true) ∧ Ev.okD [(Ev.Kd.int IntKind.u8, 0)] (vB l) 0 = true ∧ (b < 256 → IntKind.wrap IntKind.i64 (Ev.uI (Ev.nthC (vB l) 0)) = (b : Int)) := by
  have hl := (List.getElem?_eq_some_iff.1 h).1
  refine ⟨?_, vB_ok h, fun hb => ?_⟩
  · rw [vB_dlen, decide_eq_true]; omega
  · rw [vB_nth h]
    show IntKind.wrap IntKind.i64 (b : Int) = _
    rw [wr_i64 (by omega) (by omega)]

theorem local_eq (f : Int) (h l : Nat) (hh : h < 18446744073709551616) (hl : l < 18446744073709551616) : ∃ b, F_tuple_Local ⟨f, h, l⟩ = some b ∧ F_r14_Local ⟨f, h, l⟩ = some b := by
  unfold F_tuple_Local N_tuple_Local F_r14_Local N_r14_Local
  rcases cases3 f h l with rfl | ⟨rfl, rfl, hl4⟩ | ⟨h1, h2⟩
  · rw [(cR6 h l).1, (cR6 h l).2, Ev.bnd_some, Ev.bnd_some]
    refine ⟨(h : Int) == 0 && decide ((l : Int) < 2), ?_, ?_⟩
    · show (bif !true then some false else bif (6 : Int) == 6 then bif (h : Int) == 0 then some (Ev.ltI (l : Int) 2) else some false else _) = _
      rw [Ev.ltI_eq]
      cases (h : Int) == 0 <;> rfl
    · show (bif !true then some false else bif (6 : Int) == 6 then bif (h : Int) == 0 then some (Ev.leI (l : Int) 1) else some false else _) = _
      rw [Ev.leI_eq, show decide ((l : Int) ≤ 1) = decide ((l : Int) < 2) from by rw [decide_eq_decide]; omega]
      cases (h : Int) == 0 <;> rfl
  · have e0 : ((0 : Nat) : Int) = 0 := rfl
    rw [e0, (cR4 l hl4).1, (cR4 l hl4).2, Ev.bnd_some, Ev.bnd_some, bytes4 l hl4]
    obtain ⟨c1, c2, c3⟩ := byte0_at (l := b4 l) (b := l / 16777216 % 256) rfl
    refine ⟨decide (l / 16777216 = 127) || decide (l / 16777216 = 0), ?_, ?_⟩
    · show (bif !true then some false else bif (4 : Int) == 6 then _ else bif Int.fdiv (l : Int) 16777216 == 127 then some true else some (Int.fdiv (l : Int) 16777216 == 0)) = _
      rw [fdk (k := 16777216) (16777216 : Int) rfl, show (127 : Int) = ((127 : Nat) : Int) from rfl, nb, show (((l / 16777216 : Nat) : Int) == (0 : Int)) = decide (l / 16777216 = 0) from nb (b := 0)]
      cases decide (l / 16777216 = 127) <;> rfl
    · simp only [Ev.bnd_some, c1, c2, c3 (Nat.mod_lt _ (by decide)), Bool.true_and, Bool.and_true, cond_true, Bool.not_true, cond_false]
      show (bif (4 : Int) == 6 then _ else bif ((l / 16777216 % 256 : Nat) : Int) == 127 then some true else some (((l / 16777216 % 256 : Nat) : Int) == 0)) = _
      rw [show l / 16777216 % 256 = l / 16777216 from by omega, show (127 : Int) = ((127 : Nat) : Int) from rfl, nb, show (((l / 16777216 : Nat) : Int) == (0 : Int)) = decide (l / 16777216 = 0) from nb (b := 0)]
      cases decide (l / 16777216 = 127) <;> rfl
  · rw [h1, h2]
    exact ⟨false, rfl, rfl⟩

theorem multi_eq (f : Int) (h l : Nat) (hh : h < 18446744073709551616) (hl : l < 18446744073709551616) : ∃ b, F_tuple_Multicast ⟨f, h, l⟩ = some b ∧ F_r14_Multicast ⟨f, h, l⟩ = some b := by
  unfold F_tuple_Multicast N_tuple_Multicast F_r14_Multicast N_r14_Multicast
  rcases cases3 f h l with rfl | ⟨rfl, rfl, hl4⟩ | ⟨h1, h2⟩
  · rw [(cR6 h l).1, (cR6 h l).2, Ev.bnd_some, Ev.bnd_some, bytes6 h l hh hl]
    obtain ⟨c1, c2, c3⟩ := byte0_at (l := b8 h ++ b8 l) (b := h / 4294967296 / 16777216 % 256) rfl
    refine ⟨decide (h / 72057594037927936 = 255), ?_, ?_⟩
    · show (bif !true then some false else bif (6 : Int) == 6 then some (Int.fdiv (h : Int) 72057594037927936 == 255) else _) = _
      rw [fdk (k := 72057594037927936) (72057594037927936 : Int) rfl, show (255 : Int) = ((255 : Nat) : Int) from rfl, nb]
      rfl
    · simp only [Ev.bnd_some, c1, c2, c3 (Nat.mod_lt _ (by decide)), Bool.true_and, Bool.and_true, cond_true, Bool.not_true, cond_false]
      show (bif (6 : Int) == 6 then some (((h / 4294967296 / 16777216 % 256 : Nat) : Int) == 255) else _) = _
      rw [show h / 4294967296 / 16777216 % 256 = h / 72057594037927936 from by omega, show (255 : Int) = ((255 : Nat) : Int) from rfl, nb]
      rfl
  · have e0 : ((0 : Nat) : Int) = 0 := rfl
    rw [e0, (cR4 l hl4).1, (cR4 l hl4).2, Ev.bnd_some, Ev.bnd_some, bytes4 l hl4]
    obtain ⟨c1, c2, c3⟩ := byte0_at (l := b4 l) (b := l / 16777216 % 256) rfl
    refine ⟨decide (l / 268435456 = 14) || (l : Int) == 4294967295, ?_, ?_⟩
    · show (bif !true then some false else bif (4 : Int) == 6 then _ else bif Int.fdiv (l : Int) 268435456 == 14 then some true else some ((l : Int) == 4294967295)) = _
      rw [fdk (k := 268435456) (268435456 : Int) rfl, show (14 : Int) = ((14 : Nat) : Int) from rfl, nb]
      cases decide (l / 268435456 = 14) <;> rfl
    · simp only [Ev.bnd_some, c1, c2, c3 (Nat.mod_lt _ (by decide)), Bool.true_and, Bool.and_true, cond_true, Bool.not_true, cond_false]
      show (bif (4 : Int) == 6 then _ else bif Ev.leI 224 ((l / 16777216 % 256 : Nat) : Int) then bif Ev.ltI ((l / 16777216 % 256 : Nat) : Int) 240 then some true else some ((l : Int) == 4294967295) else some ((l : Int) == 4294967295)) = _
      rw [Ev.leI_eq, Ev.ltI_eq]
      by_cases q : l / 268435456 = 14
      · rw [decide_eq_true q, decide_eq_true (by omega), decide_eq_true (by omega)]; rfl
      · rw [decide_eq_false q]
        by_cases q1 : (224 : Int) ≤ ((l / 16777216 % 256 : Nat) : Int)
        · rw [decide_eq_true q1, decide_eq_false (by omega)]; rfl
        · rw [decide_eq_false q1]; rfl
  · rw [h1, h2]
    exact ⟨false, rfl, rfl⟩
end Go.Proofs.Yteljeekapcenlaa
