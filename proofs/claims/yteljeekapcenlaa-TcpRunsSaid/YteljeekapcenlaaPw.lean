/-
  A call of 'TcpRuns' in whatever world answers true. No conditions.
-/
import Derived.Test.YteljeekapcenlaaPq
namespace Go.Proofs.Yteljeekapcenlaa
open Go Go.RowKit Go.Proofs.Yteljeekapcenlaa.Ev
set_option linter.unusedSimpArgs false
set_option linter.unusedVariables false

theorem talks_of_rows : ∀ (rows : List (List Value)), (∀ r ∈ rows, Ev.HasL [.int .i64, .int .i64, .int .i64, .int .i64, .int .u32, .int .u32] r) → ∃ xs : List T_law15_Talk, rows = xs.map c_law15_Talk := by
  intro rows
  induction rows with
  | nil => intro _; exact ⟨[], rfl⟩
  | cons r rs ih =>
    intro h
    obtain ⟨xs, rfl⟩ := ih (fun r hr => h r (List.mem_cons_of_mem _ hr))
    have h1 := h r List.mem_cons_self
    obtain ⟨n0, c0, rfl, r0, h2⟩ := Ev.HasL.int h1
    obtain ⟨n1, c1, rfl, r1, h3⟩ := Ev.HasL.int h2
    obtain ⟨n2, c2, rfl, r2, h4⟩ := Ev.HasL.int h3
    obtain ⟨n3, c3, rfl, r3, h5⟩ := Ev.HasL.int h4
    obtain ⟨n4, c4, rfl, r4, h6⟩ := Ev.HasL.int h5
    obtain ⟨n5, c5, rfl, r5, h7⟩ := Ev.HasL.int h6
    obtain rfl := Ev.HasL.nil h7
    exact ⟨⟨n0, n1, n2, n3, n4, n5⟩ :: xs, rfl⟩

set_option maxRecDepth 100000 in
theorem runs_calls {H : Type} {enc : TypeId × Value → H} (x0 x1 : Int) (v : Value) (W : World) (base : Nat) (d : DataW H) (p : List MemPlace) (hok : Value.okWide Try.prog W .any base 43 v)
    (h : DataW.Trod enc Try.prog W 0 (fun _ => true) true 43 v d p) : Calls Try.prog 6 #[.int .u32 x0, .int .i64 x1, v] W fun e w' => e = .returned (.bool true) ∧ Below W.heap.size W w' := by
  rcases Ev.slice_of_trod (ks := [.int .i64, .int .i64, .int .i64, .int .i64, .int .u32, .int .u32]) (dp := 8) (e := 45) (by kernel_rfl) (by kernel_rfl) (by kernel_rfl) (by decide) hok h with rfl | ⟨b, o, cap, rfl⟩ | ⟨b, o, cap, ty, fz, pre, post, rows, rfl, hne, hlc, hcm, hrows, hpre, hheap⟩
  · obtain ⟨H', g⟩ := good_runs x0 x1 ⟨none, 0, 0⟩ [] (Ev.argH []) ⟨Nat.le_refl _, fun b hb => by cases hb⟩ ⟨rfl, Nat.le_refl _, fun _ => ⟨rfl, rfl⟩, fun a ha => by cases ha⟩ (by decide)
    exact Ev.calls_of_good_at («as» := []) g (fun a ha => by cases ha) (.cons _ _ _ _ (.int _ _) (.cons _ _ _ _ (.int _ _) (.cons _ _ _ _ .sliceNil .nil))) (by kernel_rfl)
  · obtain ⟨H', g⟩ := good_runs x0 x1 ⟨some ⟨0, 0, some 0⟩, 0, 0⟩ [] (Ev.argH []) ⟨Nat.le_refl _, fun b hb => by cases hb⟩ ⟨rfl, Nat.le_refl _, fun h => (by cases h), fun a ha hx => absurd rfl hx⟩ (by decide)
    exact Ev.calls_of_good_at («as» := []) g (fun a ha => by cases ha) (.cons _ _ _ _ (.int _ _) (.cons _ _ _ _ (.int _ _) (.cons _ _ _ _ (.sliceE _ _ _ _) .nil))) (by kernel_rfl)
  · obtain ⟨xs, rfl⟩ := talks_of_rows rows hrows
    have hfl : (xs.map c_law15_Talk).flatten = el_law15_Talk.flat xs := by rw [Ev.El.flat, List.flatMap_def]; rfl
    have hp : (el_law15_Talk.flat xs).all plain = true := by
      rw [← hfl, List.all_eq_true]
      intro v hv
      obtain ⟨r, hr, hv⟩ := List.mem_flatten.1 hv
      exact List.all_eq_true.1 ((hrows r hr).plain (by rfl)) v hv
    rw [hfl] at hheap
    rw [List.length_map] at hlc ⊢
    have hsm : xs.length < 9223372036854775808 := Nat.lt_of_le_of_lt (Nat.le_trans hlc hcm) (by decide)
    obtain ⟨H', g⟩ := good_runs x0 x1 ⟨some ⟨0, 0, none⟩, xs.length, cap⟩ xs (Ev.argH [some ⟨b, o, el_law15_Talk.flat xs⟩]) ⟨Nat.le_refl _, fun b hb => by cases hb⟩
      ⟨rfl, hlc, fun h => (by cases h), fun a ha _ => by
        obtain rfl := Option.some.inj ha
        exact ⟨_, rfl, by show ((el_law15_Talk.flat xs).drop 0).take _ = _; rw [List.drop_zero, ← Ev.El.flat_len, List.take_length]⟩⟩ hsm
    refine Ev.calls_of_good_at («as» := [some ⟨b, o, el_law15_Talk.flat xs⟩]) g (fun a ha => ?_) (.cons _ _ _ _ (.int _ _) (.cons _ _ _ _ (.int _ _) (.cons _ _ _ _ (.slice 0 0 _ _ ⟨b, o, 0⟩ rfl) .nil))) (by kernel_rfl)
    obtain rfl : a = ⟨b, o, el_law15_Talk.flat xs⟩ := by simpa using ha
    exact ⟨hp, ty, fz, pre, post, hheap, hpre⟩

end Go.Proofs.Yteljeekapcenlaa
