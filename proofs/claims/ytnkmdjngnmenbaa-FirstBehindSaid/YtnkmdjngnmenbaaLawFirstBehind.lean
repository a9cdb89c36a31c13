/-
  'FirstBehind' answers true at every input; its arguments read behind the call as they did before. No conditions.
-/
import Derived.Test.YtnkmdjngnmenbaaRows
import Derived.Test.YtnkmdjngnmenbaaEvR
import Derived.Test.YtnkmdjngnmenbaaEvGf
import Derived.Test.YtnkmdjngnmenbaaFac
import Derived.Test.YtnkmdjngnmenbaaPf
namespace Go.Proofs.Ytnkmdjngnmenbaa.firstBehind
open Go Go.ChangeShapes Go.WideShapes Go.ChangeAt Go.RowKit
set_option linter.unusedVariables false
theorem own : ownKnob Try.prog.godebug = none := by kernel_rfl
theorem laidOut : laidOutB Try.prog = true := fLaid
theorem rows30 : ∀ (rows : List (List Value)), (∀ r ∈ rows, Ev.HasL [.int .i64, .int .i64, .int .i64, .int .u64, .int .u64, .int .i64, .int .i64, .int .u64, .int .u64, .int .i64, .int .i64, .int .i64, .int .i64, .int .i64, .int .i64, .int .i64, .int .i64] r) → ∃ xs : List T_api_Rule, rows = xs.map c_api_Rule ∧ ∀ x ∈ xs, IntKind.i64.has x.From ∧ IntKind.i64.has x.To ∧ IntKind.i64.has x.Src_Addr_Fam ∧ IntKind.u64.has x.Src_Addr_Hi ∧ IntKind.u64.has x.Src_Addr_Lo ∧ IntKind.i64.has x.Src_Bits ∧ IntKind.i64.has x.Dst_Addr_Fam ∧ IntKind.u64.has x.Dst_Addr_Hi ∧ IntKind.u64.has x.Dst_Addr_Lo ∧ IntKind.i64.has x.Dst_Bits ∧ IntKind.i64.has x.Proto ∧ IntKind.i64.has x.Sport_Lo ∧ IntKind.i64.has x.Sport_Hi ∧ IntKind.i64.has x.Dport_Lo ∧ IntKind.i64.has x.Dport_Hi ∧ IntKind.i64.has x.Action ∧ IntKind.i64.has x.Help := by
  intro rows
  induction rows with
  | nil => intro _; exact ⟨[], rfl, fun x hx => (by cases hx)⟩
  | cons r rs ih =>
    intro h
    obtain ⟨xs, rfl, hxs⟩ := ih (fun r hr => h r (List.mem_cons_of_mem _ hr))
    have h1 := h r List.mem_cons_self
    obtain ⟨n0, c0, rfl, r0, h2⟩ := Ev.HasL.int h1
    obtain ⟨n1, c1, rfl, r1, h3⟩ := Ev.HasL.int h2
    obtain ⟨n2, c2, rfl, r2, h4⟩ := Ev.HasL.int h3
    obtain ⟨n3, c3, rfl, r3, h5⟩ := Ev.HasL.int h4
    obtain ⟨n4, c4, rfl, r4, h6⟩ := Ev.HasL.int h5
    obtain ⟨n5, c5, rfl, r5, h7⟩ := Ev.HasL.int h6
    obtain ⟨n6, c6, rfl, r6, h8⟩ := Ev.HasL.int h7
    obtain ⟨n7, c7, rfl, r7, h9⟩ := Ev.HasL.int h8
    obtain ⟨n8, c8, rfl, r8, h10⟩ := Ev.HasL.int h9
    obtain ⟨n9, c9, rfl, r9, h11⟩ := Ev.HasL.int h10
    obtain ⟨n10, c10, rfl, r10, h12⟩ := Ev.HasL.int h11
    obtain ⟨n11, c11, rfl, r11, h13⟩ := Ev.HasL.int h12
    obtain ⟨n12, c12, rfl, r12, h14⟩ := Ev.HasL.int h13
    obtain ⟨n13, c13, rfl, r13, h15⟩ := Ev.HasL.int h14
    obtain ⟨n14, c14, rfl, r14, h16⟩ := Ev.HasL.int h15
    obtain ⟨n15, c15, rfl, r15, h17⟩ := Ev.HasL.int h16
    obtain ⟨n16, c16, rfl, r16, h18⟩ := Ev.HasL.int h17
    obtain rfl := Ev.HasL.nil h18
    refine ⟨⟨n0, n1, n2, n3, n4, n5, n6, n7, n8, n9, n10, n11, n12, n13, n14, n15, n16⟩ :: xs, rfl, fun x hx => ?_⟩
    rcases List.mem_cons.1 hx with rfl | hx
    · exact ⟨r0, r1, r2, r3, r4, r5, r6, r7, r8, r9, r10, r11, r12, r13, r14, r15, r16⟩
    · exact hxs x hx
set_option maxRecDepth 100000 in
theorem open30 {w : World} {base : Nat} {v : Value} (h : Value.okWide Try.prog w .any base 30 v) : ∃ x : T_api_Rule, v = v_api_Rule x ∧ IntKind.i64.has x.From ∧ IntKind.i64.has x.To ∧ IntKind.i64.has x.Src_Addr_Fam ∧ IntKind.u64.has x.Src_Addr_Hi ∧ IntKind.u64.has x.Src_Addr_Lo ∧ IntKind.i64.has x.Src_Bits ∧ IntKind.i64.has x.Dst_Addr_Fam ∧ IntKind.u64.has x.Dst_Addr_Hi ∧ IntKind.u64.has x.Dst_Addr_Lo ∧ IntKind.i64.has x.Dst_Bits ∧ IntKind.i64.has x.Proto ∧ IntKind.i64.has x.Sport_Lo ∧ IntKind.i64.has x.Sport_Hi ∧ IntKind.i64.has x.Dport_Lo ∧ IntKind.i64.has x.Dport_Hi ∧ IntKind.i64.has x.Action ∧ IntKind.i64.has x.Help := by
  have e : List.map (Ev.kindP Try.prog) [3, 3, 3, 22, 22, 3, 3, 22, 22, 3, 3, 3, 3, 3, 3, 3, 3] = [.int .i64, .int .i64, .int .i64, .int .u64, .int .u64, .int .i64, .int .i64, .int .u64, .int .u64, .int .i64, .int .i64, .int .i64, .int .i64, .int .i64, .int .i64, .int .i64, .int .i64] := by kernel_rfl
  obtain ⟨cs, rfl, h1⟩ := Ev.agg_has h (by kernel_rfl) (ts := [3, 3, 3, 22, 22, 3, 3, 22, 22, 3, 3, 3, 3, 3, 3, 3, 3]) (by kernel_rfl) (by kernel_rfl) (by kernel_rfl)
  rw [e] at h1
  obtain ⟨n0, c0, rfl, r0, h2⟩ := Ev.HasL.int h1
  obtain ⟨n1, c1, rfl, r1, h3⟩ := Ev.HasL.int h2
  obtain ⟨n2, c2, rfl, r2, h4⟩ := Ev.HasL.int h3
  obtain ⟨n3, c3, rfl, r3, h5⟩ := Ev.HasL.int h4
  obtain ⟨n4, c4, rfl, r4, h6⟩ := Ev.HasL.int h5
  obtain ⟨n5, c5, rfl, r5, h7⟩ := Ev.HasL.int h6
  obtain ⟨n6, c6, rfl, r6, h8⟩ := Ev.HasL.int h7
  obtain ⟨n7, c7, rfl, r7, h9⟩ := Ev.HasL.int h8
  obtain ⟨n8, c8, rfl, r8, h10⟩ := Ev.HasL.int h9
  obtain ⟨n9, c9, rfl, r9, h11⟩ := Ev.HasL.int h10
  obtain ⟨n10, c10, rfl, r10, h12⟩ := Ev.HasL.int h11
  obtain ⟨n11, c11, rfl, r11, h13⟩ := Ev.HasL.int h12
  obtain ⟨n12, c12, rfl, r12, h14⟩ := Ev.HasL.int h13
  obtain ⟨n13, c13, rfl, r13, h15⟩ := Ev.HasL.int h14
  obtain ⟨n14, c14, rfl, r14, h16⟩ := Ev.HasL.int h15
  obtain ⟨n15, c15, rfl, r15, h17⟩ := Ev.HasL.int h16
  obtain ⟨n16, c16, rfl, r16, h18⟩ := Ev.HasL.int h17
  obtain rfl := Ev.HasL.nil h18
  exact ⟨⟨n0, n1, n2, n3, n4, n5, n6, n7, n8, n9, n10, n11, n12, n13, n14, n15, n16⟩, rfl, r0, r1, r2, r3, r4, r5, r6, r7, r8, r9, r10, r11, r12, r13, r14, r15, r16⟩
set_option maxRecDepth 100000 in
theorem open32 {w : World} {base : Nat} {v : Value} (h : Value.okWide Try.prog w .any base 32 v) : ∃ x : T_api_Key, v = v_api_Key x ∧ IntKind.i64.has x.From ∧ IntKind.i64.has x.To ∧ IntKind.i64.has x.Src_Fam ∧ IntKind.u64.has x.Src_Hi ∧ IntKind.u64.has x.Src_Lo ∧ IntKind.i64.has x.Dst_Fam ∧ IntKind.u64.has x.Dst_Hi ∧ IntKind.u64.has x.Dst_Lo ∧ IntKind.i64.has x.Proto ∧ IntKind.i64.has x.Sport ∧ IntKind.i64.has x.Dport := by
  have e : List.map (Ev.kindP Try.prog) [3, 3, 3, 22, 22, 3, 22, 22, 3, 3, 3] = [.int .i64, .int .i64, .int .i64, .int .u64, .int .u64, .int .i64, .int .u64, .int .u64, .int .i64, .int .i64, .int .i64] := by kernel_rfl
  obtain ⟨cs, rfl, h1⟩ := Ev.agg_has h (by kernel_rfl) (ts := [3, 3, 3, 22, 22, 3, 22, 22, 3, 3, 3]) (by kernel_rfl) (by kernel_rfl) (by kernel_rfl)
  rw [e] at h1
  obtain ⟨n0, c0, rfl, r0, h2⟩ := Ev.HasL.int h1
  obtain ⟨n1, c1, rfl, r1, h3⟩ := Ev.HasL.int h2
  obtain ⟨n2, c2, rfl, r2, h4⟩ := Ev.HasL.int h3
  obtain ⟨n3, c3, rfl, r3, h5⟩ := Ev.HasL.int h4
  obtain ⟨n4, c4, rfl, r4, h6⟩ := Ev.HasL.int h5
  obtain ⟨n5, c5, rfl, r5, h7⟩ := Ev.HasL.int h6
  obtain ⟨n6, c6, rfl, r6, h8⟩ := Ev.HasL.int h7
  obtain ⟨n7, c7, rfl, r7, h9⟩ := Ev.HasL.int h8
  obtain ⟨n8, c8, rfl, r8, h10⟩ := Ev.HasL.int h9
  obtain ⟨n9, c9, rfl, r9, h11⟩ := Ev.HasL.int h10
  obtain ⟨n10, c10, rfl, r10, h12⟩ := Ev.HasL.int h11
  obtain rfl := Ev.HasL.nil h12
  exact ⟨⟨n0, n1, n2, n3, n4, n5, n6, n7, n8, n9, n10⟩, rfl, r0, r1, r2, r3, r4, r5, r6, r7, r8, r9, r10⟩
theorem walk (x0 : List T_api_Rule) (x1 : T_api_Rule) (x2 : T_api_Key) (z0 : x0.length * 136 ≤ reachBytes) (q0 : ∀ x ∈ x0, IntKind.i64.has x.From ∧ IntKind.i64.has x.To ∧ IntKind.i64.has x.Src_Addr_Fam ∧ IntKind.u64.has x.Src_Addr_Hi ∧ IntKind.u64.has x.Src_Addr_Lo ∧ IntKind.i64.has x.Src_Bits ∧ IntKind.i64.has x.Dst_Addr_Fam ∧ IntKind.u64.has x.Dst_Addr_Hi ∧ IntKind.u64.has x.Dst_Addr_Lo ∧ IntKind.i64.has x.Dst_Bits ∧ IntKind.i64.has x.Proto ∧ IntKind.i64.has x.Sport_Lo ∧ IntKind.i64.has x.Sport_Hi ∧ IntKind.i64.has x.Dport_Lo ∧ IntKind.i64.has x.Dport_Hi ∧ IntKind.i64.has x.Action ∧ IntKind.i64.has x.Help) (r1 : IntKind.i64.has x1.From ∧ IntKind.i64.has x1.To ∧ IntKind.i64.has x1.Src_Addr_Fam ∧ IntKind.u64.has x1.Src_Addr_Hi ∧ IntKind.u64.has x1.Src_Addr_Lo ∧ IntKind.i64.has x1.Src_Bits ∧ IntKind.i64.has x1.Dst_Addr_Fam ∧ IntKind.u64.has x1.Dst_Addr_Hi ∧ IntKind.u64.has x1.Dst_Addr_Lo ∧ IntKind.i64.has x1.Dst_Bits ∧ IntKind.i64.has x1.Proto ∧ IntKind.i64.has x1.Sport_Lo ∧ IntKind.i64.has x1.Sport_Hi ∧ IntKind.i64.has x1.Dport_Lo ∧ IntKind.i64.has x1.Dport_Hi ∧ IntKind.i64.has x1.Action ∧ IntKind.i64.has x1.Help) (r2 : IntKind.i64.has x2.From ∧ IntKind.i64.has x2.To ∧ IntKind.i64.has x2.Src_Fam ∧ IntKind.u64.has x2.Src_Hi ∧ IntKind.u64.has x2.Src_Lo ∧ IntKind.i64.has x2.Dst_Fam ∧ IntKind.u64.has x2.Dst_Hi ∧ IntKind.u64.has x2.Dst_Lo ∧ IntKind.i64.has x2.Proto ∧ IntKind.i64.has x2.Sport ∧ IntKind.i64.has x2.Dport) (W : World) {v0 : Value} (dr0 : Ev.DR W (Ev.dS 17 (x0.flatMap c_api_Rule)) v0) : Calls Try.prog 7 #[v0, v_api_Rule x1, v_api_Key x2] W fun e w' => e = .returned (.bool true) ∧ Below W.heap.size W w' := by
  refine Ev.calls_of_spec g_law10_FirstBehind (vs := [Ev.dS 17 (x0.flatMap c_api_Rule), v_api_Rule x1, v_api_Key x2]) (u := .bool true) ?_ ?_ rfl
  · show Ev.bnd (F_law10_FirstBehind (x0.flatMap c_api_Rule) x1 x2) _ = _
    rw [lawd_FirstBehind x0 x1 x2 z0 q0 r1 r2]
    rfl
  · exact .cons _ _ _ _ (dr0) (.cons _ _ _ _ (Ev.dr_agg rfl) (.cons _ _ _ _ (Ev.dr_agg rfl) (.nil)))
set_option maxRecDepth 100000 in
theorem lifted (os : Os) (started : os.Started) (H : Type) (enc : TypeId × Value → H) :
    ReturnsInHanded {} Try.checked os 7 .any (Rows.firstBehindSpec.pre6 enc Try.prog Try.f7 Rows.firstBehindRow.domain false) (Rows.firstBehindSpec.post enc Try.prog Try.f7 false true false false) := by
  refine returnsInHanded_of_change_sized (C := Try.checked) own started (by kernel_rfl) Try.func7
    (ChangeSpec.witness6 (enc := enc) (C := Try.checked) false ⟨#[], #[.slice none 0 0, .agg ⟨[.int .i64 0, .int .i64 0, .int .i64 0, .int .u64 0, .int .u64 0, .int .i64 0, .int .i64 0, .int .u64 0, .int .u64 0, .int .i64 0, .int .i64 0, .int .i64 0, .int .i64 0, .int .i64 0, .int .i64 0, .int .i64 0, .int .i64 0]⟩, .agg ⟨[.int .i64 0, .int .i64 0, .int .i64 0, .int .u64 0, .int .u64 0, .int .i64 0, .int .u64 0, .int .u64 0, .int .i64 0, .int .i64 0, .int .i64 0]⟩], []⟩ 8 (by kernel_rfl) (by kernel_rfl) (by kernel_rfl) (by kernel_rfl)) ?_
  intro W base args ds gs before hval0 hW hcnd hsz0 _
  have hval : ∀ (j : Nat) t v, Try.f7.params[j]? = some t → args[j]? = some v → Value.okWide Try.prog W .any base t v := hval0
  have hW' := hW
  obtain ⟨p, q, hA0, hV, rfl, hfz, hnd⟩ := hW
  have hA : DataW.TrodAll enc Try.prog W 0 (fun _ => true) true Try.f7.params.toList args.toList ds p := hA0
  rw [Try.params7] at hA hval
  obtain ⟨v0, vs0, d0, ds0, p0, q0, hargs, rfl, rfl, h0, k0⟩ := trodAll_cons hA
  obtain ⟨v1, vs1, d1, ds1, p1, q1, rfl, rfl, rfl, h1, k1⟩ := trodAll_cons k0
  obtain ⟨v2, vs2, d2, ds2, p2, q2, rfl, rfl, rfl, h2, k2⟩ := trodAll_cons k1
  obtain ⟨rfl, rfl, rfl⟩ := trodAll_nil k2
  obtain rfl : args = #[v0, v1, v2] := by cases args; simp_all
  obtain ⟨rfl, rfl⟩ := trodVars_none hV
  have lt0 : ∀ x ∈ p0, x.block < W.heap.size := by obtain ⟨m, hm⟩ := h0; exact DataW.trod_lt m _ _ _ hm
  obtain ⟨rows0, hr0, hm0, dr0, hl0⟩ := Ev.slice_dr (P := Try.prog) (ks := [.int .i64, .int .i64, .int .i64, .int .u64, .int .u64, .int .i64, .int .i64, .int .u64, .int .u64, .int .i64, .int .i64, .int .i64, .int .i64, .int .i64, .int .i64, .int .i64, .int .i64]) (dp := 8) (e := 30) (by kernel_rfl) (by kernel_rfl) (by kernel_rfl) (by decide) (by rfl) (hval 0 37 v0 rfl rfl) h0
  obtain ⟨x0, rfl, q0⟩ := rows30 rows0 hr0
  rw [← List.flatMap_def] at dr0
  have z0 : x0.length * 136 ≤ reachBytes := by
    rcases hl0 with hl0 | ⟨el0, sp0, rfl, hl0⟩
    · have e : x0 = [] := by simpa using hl0
      rw [e]; decide
    · have hsz := sized_slice hsz0 (j := 0) (t := 37) (e := 30) rfl rfl (by kernel_rfl)
      rw [show Go.Program.bytesOf Try.checked.prog 30 = 136 from by kernel_rfl, hl0, List.length_map] at hsz
      exact Nat.le_trans (Nat.mul_le_mul_right _ (Nat.le_add_right _ _)) hsz
  have lt1 : ∀ x ∈ p1, x.block < W.heap.size := by obtain ⟨m, hm⟩ := h1; exact DataW.trod_lt m _ _ _ hm
  obtain ⟨x1, rfl, r1⟩ := open30 (hval 1 30 v1 rfl rfl)
  have lt2 : ∀ x ∈ p2, x.block < W.heap.size := by obtain ⟨m, hm⟩ := h2; exact DataW.trod_lt m _ _ _ hm
  obtain ⟨x2, rfl, r2⟩ := open32 (hval 2 32 v2 rfl rfl)
  refine (walk x0 x1 x2 z0 q0 r1 r2 W dr0).mono fun e W' ⟨he, bel⟩ => ?_
  subst he
  exact ⟨_, rfl, _, _, _, [], _, [], hW', trodAll_mk1 (shut_bool Try.underlying4 _), (trodAll_cons_mk (Below.trod laidOut (by kernel_rfl) (of_decide_eq_true (by kernel_rfl)) h0 bel lt0) (trodAll_cons_mk (Below.trod laidOut (by kernel_rfl) (of_decide_eq_true (by kernel_rfl)) h1 bel lt1) (trodAll_cons_mk (Below.trod laidOut (by kernel_rfl) (of_decide_eq_true (by kernel_rfl)) h2 bel lt2) trodAll_mk0))), rfl, bel.frame _, fun h => by cases h⟩
theorem joined : joinedFacts Try.prog 7 Try.f7 Rows.firstBehindSpec Rows.firstBehindRow = true :=
  joined_of (by kernel_rfl) fLaid fMaps (by kernel_rfl) (by kernel_rfl) (by kernel_rfl) (by kernel_rfl) (by kernel_rfl) (by kernel_rfl) (by kernel_rfl) (by kernel_rfl) (by kernel_rfl) (by kernel_rfl) (by kernel_rfl) (by kernel_rfl) (by kernel_rfl) (by kernel_rfl) (by kernel_rfl) (by kernel_rfl) (by kernel_rfl) (by kernel_rfl) (by kernel_rfl) (by kernel_rfl) (by kernel_rfl) fHeard fEnter (by rw [fFinal]; kernel_rfl) (by rw [fMake]; kernel_rfl) (by kernel_rfl) (by kernel_rfl) (by kernel_rfl) (by kernel_rfl)
theorem over : Rows.firstBehindRow.holds Try.pinned (OpenSpec.ofChange Rows.firstBehindSpec) :=
  OpenClaim.holds_of_wide 7 Try.f7 rfl rfl rfl rfl rfl rfl rfl ⟨rfl, rfl, rfl, rfl, rfl⟩ rfl rfl rfl rfl rfl (by kernel_rfl) Try.func7 joined
    (of_decide_eq_true (by kernel_rfl)) (by unfold Func.isWrapper; first | (rw [if_pos (by decide +kernel)]; kernel_rfl) | (rw [if_neg (by decide +kernel)]; exact ⟨rfl, rfl⟩))
    (fun os started H enc _ => lifted os started H enc)
end Go.Proofs.Ytnkmdjngnmenbaa.firstBehind
namespace Go.Proofs.Ytnkmdjngnmenbaa
/-- The row, under a short name, for the claim. -/
theorem firstBehind_holds : Rows.FirstBehindSaid := firstBehind.over
#print axioms firstBehind_holds
end Go.Proofs.Ytnkmdjngnmenbaa
