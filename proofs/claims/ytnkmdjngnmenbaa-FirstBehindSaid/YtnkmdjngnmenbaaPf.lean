/-
  First: the first rule that takes a key. Plain. No conditions.
-/
import Derived.Test.YtnkmdjngnmenbaaDb
import Derived.Test.YtnkmdjngnmenbaaEvGf
namespace Go.Proofs.Ytnkmdjngnmenbaa
open Go Go.RowKit
set_option linter.unusedVariables false
set_option linter.unusedSimpArgs false

set_option maxHeartbeats 4000000 in
theorem tot_addr_Right (a : T_api_Addr) : Ev.Tot (F_addr_Right a) := by
  unfold F_addr_Right N_addr_Right
  repeat' (first | with_reducible exact Ev.Tot.some _ | with_reducible refine Ev.Tot.cond ?_ ?_ | with_reducible refine Ev.Tot.bnd ?_ (fun _ => ?_))
set_option maxHeartbeats 4000000 in
theorem tot_addr_bits (a : T_api_Addr) : Ev.Tot (F_addr_bits a) := by
  unfold F_addr_bits N_addr_bits
  repeat' (first | exact tot_addr_Right _ | with_reducible exact Ev.Tot.some _ | with_reducible refine Ev.Tot.cond ?_ ?_ | with_reducible refine Ev.Tot.bnd ?_ (fun _ => ?_))
theorem tot_addr_high (x : Int) : Ev.Tot (F_addr_high x) := by
  unfold F_addr_high N_addr_high
  rw [decide_eq_false (by omega : ¬ (Min.min (Max.max x 0) 64 < 0))]
  exact Ev.Tot.some _
set_option maxHeartbeats 4000000 in
theorem tot_addr_Mask (a : T_api_Addr) (n : Int) : Ev.Tot (F_addr_Mask a n) := by
  unfold F_addr_Mask N_addr_Mask
  repeat' (first | exact tot_addr_Right _ | exact tot_addr_bits _ | exact tot_addr_high _ | with_reducible exact Ev.Tot.some _ | with_reducible refine Ev.Tot.cond ?_ ?_ | with_reducible refine Ev.Tot.bnd ?_ (fun _ => ?_))
set_option maxHeartbeats 4000000 in
theorem tot_addr_RightPrefix (p : T_api_Prefix) : Ev.Tot (F_addr_RightPrefix p) := by
  unfold F_addr_RightPrefix N_addr_RightPrefix
  repeat' (first | exact tot_addr_Right _ | exact tot_addr_bits _ | exact tot_addr_high _ | exact tot_addr_Mask _ _ | with_reducible exact Ev.Tot.some _ | with_reducible refine Ev.Tot.cond ?_ ?_ | with_reducible refine Ev.Tot.bnd ?_ (fun _ => ?_))
set_option maxHeartbeats 4000000 in
theorem tot_addr_Has (p : T_api_Prefix) (a : T_api_Addr) : Ev.Tot (F_addr_Has p a) := by
  unfold F_addr_Has N_addr_Has
  repeat' (first | exact tot_addr_Right _ | exact tot_addr_bits _ | exact tot_addr_high _ | exact tot_addr_Mask _ _ | exact tot_addr_RightPrefix _ | with_reducible exact Ev.Tot.some _ | with_reducible refine Ev.Tot.cond ?_ ?_ | with_reducible refine Ev.Tot.bnd ?_ (fun _ => ?_))
set_option maxHeartbeats 4000000 in
theorem tot_first_anywhere (p : T_api_Prefix) : Ev.Tot (F_first_anywhere p) := by
  unfold F_first_anywhere N_first_anywhere
  repeat' (first | exact tot_addr_Right _ | exact tot_addr_bits _ | exact tot_addr_high _ | exact tot_addr_Mask _ _ | exact tot_addr_RightPrefix _ | exact tot_addr_Has _ _ | with_reducible exact Ev.Tot.some _ | with_reducible refine Ev.Tot.cond ?_ ?_ | with_reducible refine Ev.Tot.bnd ?_ (fun _ => ?_))
set_option maxHeartbeats 4000000 in
theorem tot_first_within_1 (a b c : Int) : Ev.Tot (F_first_within_1 a b c) := by
  unfold F_first_within_1 N_first_within_1
  repeat' (first | exact tot_addr_Right _ | exact tot_addr_bits _ | exact tot_addr_high _ | exact tot_addr_Mask _ _ | exact tot_addr_RightPrefix _ | exact tot_addr_Has _ _ | exact tot_first_anywhere _ | with_reducible exact Ev.Tot.some _ | with_reducible refine Ev.Tot.cond ?_ ?_ | with_reducible refine Ev.Tot.bnd ?_ (fun _ => ?_))
set_option maxHeartbeats 4000000 in
theorem tot_first_RightKey (k : T_api_Key) : Ev.Tot (F_first_RightKey k) := by
  unfold F_first_RightKey N_first_RightKey
  repeat' (first | exact tot_addr_Right _ | exact tot_addr_bits _ | exact tot_addr_high _ | exact tot_addr_Mask _ _ | exact tot_addr_RightPrefix _ | exact tot_addr_Has _ _ | exact tot_first_anywhere _ | exact tot_first_within_1 _ _ _ | with_reducible exact Ev.Tot.some _ | with_reducible refine Ev.Tot.cond ?_ ?_ | with_reducible refine Ev.Tot.bnd ?_ (fun _ => ?_))
set_option maxHeartbeats 4000000 in
theorem tot_first_RightRule (r : T_api_Rule) : Ev.Tot (F_first_RightRule r) := by
  unfold F_first_RightRule N_first_RightRule
  repeat' (first | exact tot_addr_Right _ | exact tot_addr_bits _ | exact tot_addr_high _ | exact tot_addr_Mask _ _ | exact tot_addr_RightPrefix _ | exact tot_addr_Has _ _ | exact tot_first_anywhere _ | exact tot_first_within_1 _ _ _ | exact tot_first_RightKey _ | with_reducible exact Ev.Tot.some _ | with_reducible refine Ev.Tot.cond ?_ ?_ | with_reducible refine Ev.Tot.bnd ?_ (fun _ => ?_))
set_option maxHeartbeats 4000000 in
theorem tot_first_holds (x0 : T_api_Ports) (x1 : Int) : Ev.Tot (F_first_holds x0 x1) := by
  unfold F_first_holds N_first_holds
  repeat' (first | exact tot_addr_Right _ | exact tot_addr_bits _ | exact tot_addr_high _ | exact tot_addr_Mask _ _ | exact tot_addr_RightPrefix _ | exact tot_addr_Has _ _ | exact tot_first_anywhere _ | exact tot_first_within_1 _ _ _ | exact tot_first_RightKey _ | exact tot_first_RightRule _ | with_reducible exact Ev.Tot.some _ | with_reducible refine Ev.Tot.cond ?_ ?_ | with_reducible refine Ev.Tot.bnd ?_ (fun _ => ?_))
set_option maxHeartbeats 4000000 in
theorem tot_first_Takes (r : T_api_Rule) (k : T_api_Key) : Ev.Tot (F_first_Takes r k) := by
  unfold F_first_Takes N_first_Takes
  repeat' (first | exact tot_addr_Right _ | exact tot_addr_bits _ | exact tot_addr_high _ | exact tot_addr_Mask _ _ | exact tot_addr_RightPrefix _ | exact tot_addr_Has _ _ | exact tot_first_anywhere _ | exact tot_first_within_1 _ _ _ | exact tot_first_RightKey _ | exact tot_first_RightRule _ | exact tot_first_holds _ _ | with_reducible exact Ev.Tot.some _ | with_reducible refine Ev.Tot.cond ?_ ?_ | with_reducible refine Ev.Tot.bnd ?_ (fun _ => ?_))
set_option maxHeartbeats 4000000 in
theorem tot_first_Find_1 (r : T_api_Rule) (k : T_api_Key) : Ev.Tot (F_first_Find_1 r k) := by
  unfold F_first_Find_1 N_first_Find_1
  repeat' (first | exact tot_addr_Right _ | exact tot_addr_bits _ | exact tot_addr_high _ | exact tot_addr_Mask _ _ | exact tot_addr_RightPrefix _ | exact tot_addr_Has _ _ | exact tot_first_anywhere _ | exact tot_first_within_1 _ _ _ | exact tot_first_RightKey _ | exact tot_first_RightRule _ | exact tot_first_holds _ _ | exact tot_first_Takes _ _ | with_reducible exact Ev.Tot.some _ | with_reducible refine Ev.Tot.cond ?_ ?_ | with_reducible refine Ev.Tot.bnd ?_ (fun _ => ?_))

/-- does a rule take a key? -/
noncomputable def tk (r : T_api_Rule) (k : T_api_Key) : Bool := (F_first_Takes r k).getD false
theorem takes_eq (r : T_api_Rule) (k : T_api_Key) : F_first_Takes r k = some (tk r k) := by
  obtain ⟨b, h⟩ := tot_first_Takes r k
  unfold tk
  rw [h]; rfl
theorem find1_eq (r : T_api_Rule) (k : T_api_Key) : F_first_Find_1 r k = some (tk r k) := by
  show Ev.bnd (F_first_Takes r k) (fun v => some v) = _
  rw [takes_eq]; rfl

theorem rule_len (x : T_api_Rule) : (c_api_Rule x).length = 17 := rfl
theorem wrap_i64 {n : Int} (h0 : 0 ≤ n) (h1 : n < 2 ^ 63) : IntKind.i64.wrap n = n := by
  simp [IntKind.wrap, IntKind.signed, IntKind.bits] at *; omega

noncomputable def kzRule : List (Ev.Kd × Nat) := [(Ev.Kd.int IntKind.i64, 0), (Ev.Kd.int IntKind.i64, 0), (Ev.Kd.int IntKind.i64, 0), (Ev.Kd.int IntKind.u64, 0), (Ev.Kd.int IntKind.u64, 0), (Ev.Kd.int IntKind.i64, 0), (Ev.Kd.int IntKind.i64, 0), (Ev.Kd.int IntKind.u64, 0), (Ev.Kd.int IntKind.u64, 0), (Ev.Kd.int IntKind.i64, 0), (Ev.Kd.int IntKind.i64, 0), (Ev.Kd.int IntKind.i64, 0), (Ev.Kd.int IntKind.i64, 0), (Ev.Kd.int IntKind.i64, 0), (Ev.Kd.int IntKind.i64, 0), (Ev.Kd.int IntKind.i64, 0), (Ev.Kd.int IntKind.i64, 0)]

/-- the first rule that takes a key, from a place on -/
noncomputable def ixOf (k : T_api_Key) : List T_api_Rule → Nat → Int
  | [], _ => -1
  | x :: xs, i => bif tk x k then (i : Int) else ixOf k xs (i + 1)

set_option maxHeartbeats 4000000 in
theorem ix_loop (m : Nat) (k : T_api_Key) (xs : List T_api_Rule) (hlen : xs.length < 2 ^ 62) : ∀ (n i : Nat), i ≤ xs.length → xs.length - i < n →
    N_slices_IndexFunc_api_Rule_api_Rule__first_Find_1_2 F_first_Find_1 m n (xs.flatMap c_api_Rule) k.From k.To k.Src_Fam k.Src_Hi k.Src_Lo k.Dst_Fam k.Dst_Hi k.Dst_Lo k.Proto k.Sport k.Dport (xs.length : Nat) (i : Nat) = some (ixOf k (xs.drop i) i) := by
  intro n
  induction n with
  | zero => intro i _ h; omega
  | succ n ih =>
    intro i hi hn
    rw [N_slices_IndexFunc_api_Rule_api_Rule__first_Find_1_2]
    rw [Ev.ltI_eq]
    by_cases hlt : i < xs.length
    · rw [decide_eq_true (by omega : ((i : Nat) : Int) < ((xs.length : Nat) : Int)), cond_true]
      obtain ⟨x, hx⟩ : ∃ x, xs[i]? = some x := ⟨xs[i], List.getElem?_eq_getElem hlt⟩
      have hd := Ev.flat_drop (c := c_api_Rule) (z := 17) rule_len hx
      generalize (xs.flatMap c_api_Rule).drop ((i + 1) * 17) = rest at hd
      rw [Ev.flat_dlen (c := c_api_Rule) (z := 17) rule_len (by decide)]
      rw [decide_eq_true (by omega : (0 : Int) ≤ ((i : Nat) : Int)), decide_eq_true (by omega : ((i : Nat) : Int) < ((xs.length : Nat) : Int))]
      simp only [Bool.and_true, Bool.true_and, cond_true, Int.toNat_natCast]
      have ho : Ev.okD [(Ev.Kd.int IntKind.i64, 0), (Ev.Kd.int IntKind.i64, 0), (Ev.Kd.int IntKind.i64, 0), (Ev.Kd.int IntKind.u64, 0), (Ev.Kd.int IntKind.u64, 0), (Ev.Kd.int IntKind.i64, 0), (Ev.Kd.int IntKind.i64, 0), (Ev.Kd.int IntKind.u64, 0), (Ev.Kd.int IntKind.u64, 0), (Ev.Kd.int IntKind.i64, 0), (Ev.Kd.int IntKind.i64, 0), (Ev.Kd.int IntKind.i64, 0), (Ev.Kd.int IntKind.i64, 0), (Ev.Kd.int IntKind.i64, 0), (Ev.Kd.int IntKind.i64, 0), (Ev.Kd.int IntKind.i64, 0), (Ev.Kd.int IntKind.i64, 0)] (xs.flatMap c_api_Rule) (i * 17) = true := by
        rw [Ev.okD_drop0, hd]; rfl
      rw [ho, cond_true]
      have h0 : ∀ j, Ev.nthC (xs.flatMap c_api_Rule) (i * 17 + j) = Ev.nthC (c_api_Rule x ++ rest) j := fun j => by rw [Ev.nthC_drop, hd]
      have h00 : Ev.nthC (xs.flatMap c_api_Rule) (i * 17) = Ev.nthC (c_api_Rule x ++ rest) 0 := h0 0
      simp only [Nat.add_assoc, Nat.reduceAdd, h0, h00]
      have e : xs.drop i = x :: xs.drop (i + 1) := by
        rw [List.drop_eq_getElem_cons hlt]
        congr 1
        rw [List.getElem?_eq_getElem hlt] at hx
        exact Option.some.inj hx
      show Ev.bnd (F_first_Find_1 x k) _ = _
      rw [find1_eq, Ev.bnd_some, e, ixOf]
      cases htk : tk x k with
      | true => rfl
      | false =>
        simp only [cond_false]
        rw [wrap_i64 (by omega) (by omega)]
        exact ih (i + 1) (by omega) (by omega)
    · rw [decide_eq_false (by omega), cond_false]
      rw [List.drop_eq_nil_of_le (by omega)]
      rfl

theorem ix_eq (k : T_api_Key) (xs : List T_api_Rule) (hlen : xs.length < 2 ^ 62) : F_slices_IndexFunc_api_Rule_api_Rule__first_Find_1 (xs.flatMap c_api_Rule) k = some (ixOf k xs 0) := by
  unfold F_slices_IndexFunc_api_Rule_api_Rule__first_Find_1
  refine Ev.lim_eq (xs.length + 1) fun m hm => ?_
  unfold N_slices_IndexFunc_api_Rule_api_Rule__first_Find_1
  rw [Ev.flat_dlen (c := c_api_Rule) (z := 17) rule_len (by decide)]
  exact ix_loop m k xs hlen m 0 (Nat.zero_le _) (by omega)

theorem find_eq (k : T_api_Key) (xs : List T_api_Rule) (hlen : xs.length < 2 ^ 62) : F_first_Find (xs.flatMap c_api_Rule) k = some (ixOf k xs 0, Ev.leI 0 (ixOf k xs 0)) := by
  show Ev.bnd (F_slices_IndexFunc_api_Rule_api_Rule__first_Find_1 (xs.flatMap c_api_Rule) k) (fun v0 => some (v0, Ev.leI 0 v0)) = _
  rw [ix_eq k xs hlen]; rfl

theorem ixOf_spec (k : T_api_Key) : ∀ (xs : List T_api_Rule) (i : Nat), ixOf k xs i = -1 ∧ (∀ r, ixOf k (xs ++ [r]) i = bif tk r k then ((i + xs.length : Nat) : Int) else -1) ∨ 0 ≤ ixOf k xs i ∧ (∀ ys, ixOf k (xs ++ ys) i = ixOf k xs i)
  | [], i => .inl ⟨rfl, fun r => by simp [ixOf]⟩
  | x :: xs, i => by
    have ih := ixOf_spec k xs (i + 1)
    simp only [List.cons_append, ixOf, List.length_cons]
    cases htk : tk x k with
    | true => exact .inr ⟨by simp, fun ys => rfl⟩
    | false =>
      simp only [cond_false]
      rcases ih with ⟨h1, h2⟩ | h
      · exact .inl ⟨h1, fun r => by rw [h2]; congr 2; omega⟩
      · exact .inr h

theorem leI_zero (n : Int) : Ev.leI 0 n = decide (0 ≤ n) := Ev.leI_eq 0 n
theorem alive_eq : F_law10_alive = some true := rfl

set_option maxHeartbeats 4000000 in
theorem law_FirstBehind (xs : List T_api_Rule) (r : T_api_Rule) (k : T_api_Key) (hlen : xs.length * 136 + 136 ≤ 2 ^ 47) : F_law10_FirstBehind (xs.flatMap c_api_Rule) r k = some true := by
  have hl : xs.length < 2 ^ 62 := by omega
  have e1 : ∀ (n : Nat), Nat.beq (n * 17) ((xs.flatMap c_api_Rule).length) = decide (n = xs.length) := fun n => by
    rw [Ev.flat_len rule_len, Bool.eq_iff_iff, Nat.beq_eq]; simp; omega
  have e2 : ((xs ++ [r]).flatMap c_api_Rule) = xs.flatMap c_api_Rule ++ c_api_Rule r := by simp
  have e3 : F_first_Find (xs.flatMap c_api_Rule ++ c_api_Rule r) k = some (ixOf k (xs ++ [r]) 0, Ev.leI 0 (ixOf k (xs ++ [r]) 0)) := by
    rw [← e2]; exact find_eq k _ (by simp; omega)
  have e4 : (xs.flatMap c_api_Rule ++ c_api_Rule r).length = (xs.length + 1) * 17 := by
    rw [List.length_append, Ev.flat_len rule_len, rule_len]; omega
  unfold F_law10_FirstBehind N_law10_FirstBehind
  show Ev.bnd (F_first_Find (xs.flatMap c_api_Rule) k) _ = _
  rw [find_eq k xs hl, Ev.bnd_some]
  rw [Ev.flat_dlen (c := c_api_Rule) (z := 17) rule_len (by decide)]
  have sp := ixOf_spec k xs 0
  generalize ixOf k xs 0 = A at sp
  show (bif decide ((0 + xs.length) * 136 ≤ 140737488355328) && decide (0 + xs.length ≤ 140737488355328) then bif Nat.beq ((0 + xs.length) * 17) (List.length ([] ++ xs.flatMap c_api_Rule)) then bif decide ((0 + xs.length + 1) * 136 ≤ 140737488355328) && decide (0 + xs.length + 1 ≤ 140737488355328) then bif Nat.beq ((0 + xs.length + 1) * 17) (List.length ([] ++ xs.flatMap c_api_Rule ++ c_api_Rule r)) then Ev.bnd (F_first_Find ([] ++ xs.flatMap c_api_Rule ++ c_api_Rule r) k) fun v1 => bif (Ev.leI 0 A) then bif Prod.snd v1 then bif A == Prod.fst v1 then Ev.bnd F_law10_alive fun v2 => some v2 else some false else some false else bif A == -1 then Ev.bnd (F_first_Takes r k) fun v3 => bif Prod.snd v1 == v3 then bif !Prod.snd v1 then Ev.bnd F_law10_alive fun v4 => some v4 else bif Prod.fst v1 == ↑(xs.length) then Ev.bnd F_law10_alive fun v5 => some v5 else some false else some false else some false else none else none else none else none) = some true
  have c1 : (decide ((0 + xs.length) * 136 ≤ 140737488355328) && decide (0 + xs.length ≤ 140737488355328)) = true := by simp; omega
  have c2 : Nat.beq ((0 + xs.length) * 17) (List.length ([] ++ xs.flatMap c_api_Rule)) = true := by
    rw [List.nil_append, e1]; simp
  have c3 : (decide ((0 + xs.length + 1) * 136 ≤ 140737488355328) && decide (0 + xs.length + 1 ≤ 140737488355328)) = true := by simp; omega
  have c4 : Nat.beq ((0 + xs.length + 1) * 17) (List.length ([] ++ xs.flatMap c_api_Rule ++ c_api_Rule r)) = true := by
    rw [List.nil_append, e4, Nat.beq_eq]; omega
  rw [c1, cond_true, c2, cond_true, c3, cond_true, c4, cond_true]
  rw [List.nil_append, e3, Ev.bnd_some, takes_eq, alive_eq]
  simp only [Ev.bnd_some, leI_zero]
  rcases sp with ⟨rfl, h2⟩ | ⟨h1, h2⟩
  · rw [h2]
    cases htk : tk r k with
    | true => simp
    | false => simp
  · rw [h2]
    simp [h1]
theorem lawd_FirstBehind (x0 : List T_api_Rule) (x1 : T_api_Rule) (x2 : T_api_Key) (z0 : x0.length * 136 ≤ reachBytes) {Q0 R1 R2 : Prop} (q0 : Q0) (r1 : R1) (r2 : R2) : F_law10_FirstBehind (x0.flatMap c_api_Rule) x1 x2 = some true :=
  law_FirstBehind x0 x1 x2 (by unfold reachBytes at z0; omega)
end Go.Proofs.Ytnkmdjngnmenbaa
