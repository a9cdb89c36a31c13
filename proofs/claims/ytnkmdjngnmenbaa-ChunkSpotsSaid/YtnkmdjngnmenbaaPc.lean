/-
  Chunk: the point of a key. Plain. No conditions.
-/
import Derived.Test.YtnkmdjngnmenbaaCb
import Derived.Test.YtnkmdjngnmenbaaEvGf
import Derived.KernelRfl
namespace Go.Proofs.Ytnkmdjngnmenbaa
open Go Go.RowKit
set_option linter.unusedVariables false
set_option linter.unusedSimpArgs false

noncomputable def wb (n a b : Int) : Bool := decide (n < a ∨ b < n)
theorem within_eq (n a b : Int) : F_first_within_1 n a b = some (wb n a b) := by
  unfold F_first_within_1 N_first_within_1 wb
  rw [Ev.ltI_eq, Ev.ltI_eq]
  by_cases h : n < a <;> simp [h]
theorem in_eq (n a b : Int) : F_r10_in n a b = some (!wb n a b) := by
  unfold F_r10_in N_r10_in wb
  rw [Ev.leI_eq, Ev.leI_eq]
  by_cases h : a ≤ n
  · have h2 : ¬ n < a := by omega
    rw [decide_eq_true h, cond_true]
    by_cases h3 : n ≤ b
    · have h4 : ¬ b < n := by omega
      simp [h2, h3, h4]
    · have h4 : b < n := by omega
      simp [h2, h3, h4]
  · have h2 : n < a := by omega
    simp [h, h2]
noncomputable def ra (x : T_api_Addr) : Bool := decide (x.Fam = 6 ∨ x.Fam = 4 ∧ x.Hi = 0 ∧ x.Lo < 4294967296)
theorem right1 (x : T_api_Addr) (h : 0 ≤ x.Lo) : F_addr_Right x = some (ra x) := by
  unfold F_addr_Right N_addr_Right ra
  by_cases h4 : x.Fam = 4
  · have h6 : ¬ x.Fam = 6 := by omega
    by_cases hh : x.Hi = 0
    · have e : (Int.fdiv x.Lo 4294967296 == 0) = decide (x.Lo < 4294967296) := by
        rw [Bool.eq_iff_iff, beq_iff_eq, decide_eq_true_iff]
        rw [Int.fdiv_eq_ediv_of_nonneg _ (by decide)]
        omega
      simp [h4, hh, e]
    · simp [h4, hh, beq_eq_false_iff_ne.2 hh]
  · by_cases h6 : x.Fam = 6
    · simp [h4, h6]
    · simp [h4, h6, beq_eq_false_iff_ne.2 h4, beq_eq_false_iff_ne.2 h6]
theorem right2 (x : T_api_Addr) (h : 0 ≤ x.Lo) : F_r02_Right x = some (ra x) := by
  unfold F_r02_Right N_r02_Right ra
  rw [Ev.ltI_eq]
  by_cases h6 : x.Fam = 6
  · simp [h6]
  · by_cases h4 : x.Fam = 4
    · by_cases hh : x.Hi = 0
      · simp [h4, hh]
      · simp [h4, hh, beq_eq_false_iff_ne.2 hh]
    · simp [h4, h6, beq_eq_false_iff_ne.2 h4, beq_eq_false_iff_ne.2 h6]

theorem key_eq (k : T_api_Key) (h1 : 0 ≤ k.Src_Lo) (h2 : 0 ≤ k.Dst_Lo) : F_r10_RightKey k = F_first_RightKey k ∧ ∃ b, F_first_RightKey k = some b := by
  unfold F_r10_RightKey N_r10_RightKey F_first_RightKey N_first_RightKey
  rw [right1 ⟨k.Src_Fam, k.Src_Hi, k.Src_Lo⟩ h1, right1 ⟨k.Dst_Fam, k.Dst_Hi, k.Dst_Lo⟩ h2, right2 ⟨k.Src_Fam, k.Src_Hi, k.Src_Lo⟩ h1, right2 ⟨k.Dst_Fam, k.Dst_Hi, k.Dst_Lo⟩ h2]
  simp only [in_eq, within_eq, Ev.bnd_some]
  generalize wb k.From 0 15 = b1
  generalize wb k.To 0 15 = b2
  generalize wb k.Proto 0 255 = b3
  generalize wb k.Sport 0 65535 = b4
  generalize wb k.Dport 0 65535 = b5
  generalize ra ⟨k.Src_Fam, k.Src_Hi, k.Src_Lo⟩ = b6
  generalize ra ⟨k.Dst_Fam, k.Dst_Hi, k.Dst_Lo⟩ = b7
  generalize (k.Src_Fam == k.Dst_Fam) = b8
  cases b1 <;> cases b2 <;> cases b3 <;> cases b4 <;> cases b5 <;> cases b6 <;> cases b7 <;> cases b8 <;> exact ⟨rfl, _, rfl⟩

theorem spot_eq (k : T_api_Key) (d : Int) (h1 : 0 ≤ k.Src_Lo) (h2 : 0 ≤ k.Dst_Lo) : F_r11_Spot k d = F_chunk_Spot k d ∧ ∃ p, F_chunk_Spot k d = some p := by
  obtain ⟨e1, b, e2⟩ := key_eq k h1 h2
  unfold F_r11_Spot N_r11_Spot F_chunk_Spot N_chunk_Spot
  rw [show F_r10_RightKey ⟨k.From, k.To, k.Src_Fam, k.Src_Hi, k.Src_Lo, k.Dst_Fam, k.Dst_Hi, k.Dst_Lo, k.Proto, k.Sport, k.Dport⟩ = some b from e1.trans e2, show F_first_RightKey ⟨k.From, k.To, k.Src_Fam, k.Src_Hi, k.Src_Lo, k.Dst_Fam, k.Dst_Hi, k.Dst_Lo, k.Proto, k.Sport, k.Dport⟩ = some b from e2]
  rw [Ev.bnd_some, Ev.bnd_some]
  cases b with
  | false => exact ⟨rfl, _, rfl⟩
  | true =>
    by_cases hl : d < 0
    · have q : ∀ n : Int, 0 ≤ n → (d == n) = false := fun n hn => by rw [beq_eq_false_iff_ne]; omega
      rw [Ev.ltI_eq, decide_eq_true hl, q 0 (by decide), q 1 (by decide), q 2 (by decide), q 3 (by decide), q 4 (by decide), q 5 (by decide), q 6 (by decide)]
      exact ⟨rfl, _, rfl⟩
    · by_cases hg : 7 ≤ d
      · have q : ∀ n : Int, n < 7 → (d == n) = false := fun n hn => by rw [beq_eq_false_iff_ne]; omega
        rw [Ev.ltI_eq, decide_eq_false hl, Ev.leI_eq, decide_eq_true hg, q 0 (by decide), q 1 (by decide), q 2 (by decide), q 3 (by decide), q 4 (by decide), q 5 (by decide), q 6 (by decide)]
        exact ⟨rfl, _, rfl⟩
      · have : d = 0 ∨ d = 1 ∨ d = 2 ∨ d = 3 ∨ d = 4 ∨ d = 5 ∨ d = 6 := by omega
        rcases this with rfl | rfl | rfl | rfl | rfl | rfl | rfl <;> exact ⟨rfl, _, rfl⟩

theorem law_ChunkSpots (k : T_api_Key) (d : Int) (h1 : 0 ≤ k.Src_Lo) (h2 : 0 ≤ k.Dst_Lo) : F_law11_ChunkSpots k d = some true := by
  obtain ⟨e1, p, e2⟩ := spot_eq k d h1 h2
  unfold F_law11_ChunkSpots N_law11_ChunkSpots
  rw [show F_chunk_Spot ⟨k.From, k.To, k.Src_Fam, k.Src_Hi, k.Src_Lo, k.Dst_Fam, k.Dst_Hi, k.Dst_Lo, k.Proto, k.Sport, k.Dport⟩ d = some p from e2, show F_r11_Spot ⟨k.From, k.To, k.Src_Fam, k.Src_Hi, k.Src_Lo, k.Dst_Fam, k.Dst_Hi, k.Dst_Lo, k.Proto, k.Sport, k.Dport⟩ d = some p from e1.trans e2]
  rw [Ev.bnd_some, Ev.bnd_some]
  simp only [beq_self_eq_true, Bool.and_true, cond_true]
  rfl

theorem u64_nonneg {n : Int} (h : IntKind.u64.has n) : 0 ≤ n := by
  unfold IntKind.has at h
  simp [IntKind.min, IntKind.signed] at h
  omega

theorem lawd_ChunkSpots (x0 : T_api_Key) (x1 : Int) (r0 : IntKind.i64.has x0.From ∧ IntKind.i64.has x0.To ∧ IntKind.i64.has x0.Src_Fam ∧ IntKind.u64.has x0.Src_Hi ∧ IntKind.u64.has x0.Src_Lo ∧ IntKind.i64.has x0.Dst_Fam ∧ IntKind.u64.has x0.Dst_Hi ∧ IntKind.u64.has x0.Dst_Lo ∧ IntKind.i64.has x0.Proto ∧ IntKind.i64.has x0.Sport ∧ IntKind.i64.has x0.Dport) {R1 : Prop} (r1 : R1) : F_law11_ChunkSpots x0 x1 = some true :=
  law_ChunkSpots x0 x1 (u64_nonneg r0.2.2.2.2.1) (u64_nonneg r0.2.2.2.2.2.2.2.1)
end Go.Proofs.Ytnkmdjngnmenbaa
