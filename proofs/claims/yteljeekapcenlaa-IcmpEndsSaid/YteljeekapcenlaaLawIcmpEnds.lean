/-
  'IcmpEnds' answers true at every input; its arguments read behind the call as they did before. No conditions.
-/
import Derived.Test.YteljeekapcenlaaRows
import Derived.Test.YteljeekapcenlaaEvR
import Derived.Test.YteljeekapcenlaaEvGg
import Derived.Test.YteljeekapcenlaaFac
import Derived.Test.YteljeekapcenlaaPh
namespace Go.Proofs.Yteljeekapcenlaa.icmpEnds
open Go Go.ChangeShapes Go.WideShapes Go.ChangeAt Go.RowKit
set_option linter.unusedVariables false
theorem own : ownKnob Try.prog.godebug = none := by kernel_rfl
theorem laidOut : laidOutB Try.prog = true := fLaid
set_option maxRecDepth 100000 in
theorem open59 {ds : List Value} (h1 : Ev.HasTL [.k (.int .i64), .k (.int .u64), .k (.int .u64)] ds) : ∃ x : T_api_Addr, ds = c_api_Addr x ∧ IntKind.i64.has x.Fam ∧ IntKind.u64.has x.Hi ∧ IntKind.u64.has x.Lo := by
  obtain ⟨n0, c0, rfl, r2, h2⟩ := Ev.HasTL.int h1
  obtain ⟨n1, c1, rfl, r3, h3⟩ := Ev.HasTL.int h2
  obtain ⟨n2, c2, rfl, r4, h4⟩ := Ev.HasTL.int h3
  obtain rfl := Ev.HasTL.nil h4
  exact ⟨⟨n0, n1, n2⟩, rfl, r2, r3, r4⟩
theorem walk (x0 : T_api_Addr) (x1 : T_api_Addr) (r0 : IntKind.i64.has x0.Fam ∧ IntKind.u64.has x0.Hi ∧ IntKind.u64.has x0.Lo) (r1 : IntKind.i64.has x1.Fam ∧ IntKind.u64.has x1.Hi ∧ IntKind.u64.has x1.Lo) (W : World) {v0 : Value} {v1 : Value} (dr0 : Ev.DR W (v_api_Addr x0) v0) (dr1 : Ev.DR W (v_api_Addr x1) v1) : Calls Try.prog 23 #[v0, v1] W fun e w' => e = .returned (.bool true) ∧ Below W.heap.size W w' := by
  refine Ev.calls_of_spec g_law21_IcmpEnds (vs := [v_api_Addr x0, v_api_Addr x1]) (u := .bool true) ?_ ?_ rfl
  · show Ev.bnd (F_law21_IcmpEnds x0 x1) _ = _
    rw [lawd_IcmpEnds x0 x1 r0 r1]
    rfl
  · exact .cons _ _ _ _ (dr0) (.cons _ _ _ _ (dr1) (.nil))
set_option maxRecDepth 100000 in
theorem lifted (os : Os) (started : os.Started) (H : Type) (enc : TypeId × Value → H) :
    ReturnsInHanded {} Try.checked os 23 .any (Rows.icmpEndsSpec.pre6 enc Try.prog Try.f23 Rows.icmpEndsRow.domain false) (Rows.icmpEndsSpec.post enc Try.prog Try.f23 false true false false) := by
  refine returnsInHanded_of_change_sized (C := Try.checked) own started (by kernel_rfl) Try.func23
    (ChangeSpec.witness6 (enc := enc) (C := Try.checked) false ⟨#[], #[.agg ⟨[.int  .i64 0, .int  .u64 0, .int  .u64 0]⟩, .agg ⟨[.int  .i64 0, .int  .u64 0, .int  .u64 0]⟩], []⟩ 8 (by kernel_rfl) (by kernel_rfl) (by kernel_rfl) (by kernel_rfl)) ?_
  intro W base args ds gs before hval0 hW hcnd hsz0 _
  have hval : ∀ (j : Nat) t v, Try.f23.params[j]? = some t → args[j]? = some v → Value.okWide Try.prog W .any base t v := hval0
  have hW' := hW
  obtain ⟨p, q, hA0, hV, rfl, hfz, hnd⟩ := hW
  have hA : DataW.TrodAll enc Try.prog W 0 (fun _ => true) true Try.f23.params.toList args.toList ds p := hA0
  rw [Try.params23] at hA hval
  obtain ⟨v0, vs0, d0, ds0, p0, q0, hargs, rfl, rfl, h0, k0⟩ := trodAll_cons hA
  obtain ⟨v1, vs1, d1, ds1, p1, q1, rfl, rfl, rfl, h1, k1⟩ := trodAll_cons k0
  obtain ⟨rfl, rfl, rfl⟩ := trodAll_nil k1
  obtain rfl : args = #[v0, v1] := by cases args; simp_all
  obtain ⟨rfl, rfl⟩ := trodVars_none hV
  have lt0 : ∀ x ∈ p0, x.block < W.heap.size := by obtain ⟨m, hm⟩ := h0; exact DataW.trod_lt m _ _ _ hm
  have li0 : Ev.light Try.prog 59 d0 := Ev.light_each hsz0 (i := 0) rfl rfl
  obtain ⟨u0, hu0, dr0⟩ := Ev.agg_told (P := Try.prog) (dp := 9) (ks := [.k (.int .i64), .k (.int .u64), .k (.int .u64)]) (by kernel_rfl) (by kernel_rfl) (hval 0 59 v0 rfl rfl) h0 li0
  obtain ⟨x0, rfl, r0⟩ := open59 hu0
  have lt1 : ∀ x ∈ p1, x.block < W.heap.size := by obtain ⟨m, hm⟩ := h1; exact DataW.trod_lt m _ _ _ hm
  have li1 : Ev.light Try.prog 59 d1 := Ev.light_each hsz0 (i := 1) rfl rfl
  obtain ⟨u1, hu1, dr1⟩ := Ev.agg_told (P := Try.prog) (dp := 9) (ks := [.k (.int .i64), .k (.int .u64), .k (.int .u64)]) (by kernel_rfl) (by kernel_rfl) (hval 1 59 v1 rfl rfl) h1 li1
  obtain ⟨x1, rfl, r1⟩ := open59 hu1
  refine (walk x0 x1 r0 r1 W dr0 dr1).mono fun e W' ⟨he, bel⟩ => ?_
  subst he
  exact ⟨_, rfl, _, _, _, [], _, [], hW', trodAll_mk1 (shut_bool Try.underlying4 _), (trodAll_cons_mk (Below.trod laidOut (by kernel_rfl) (of_decide_eq_true (by kernel_rfl)) h0 bel lt0) (trodAll_cons_mk (Below.trod laidOut (by kernel_rfl) (of_decide_eq_true (by kernel_rfl)) h1 bel lt1) trodAll_mk0)), rfl, bel.frame _, fun h => by cases h⟩
theorem joined : joinedFacts Try.prog 23 Try.f23 Rows.icmpEndsSpec Rows.icmpEndsRow = true :=
  joined_of (by kernel_rfl) fLaid fMaps (by kernel_rfl) (by kernel_rfl) (by kernel_rfl) (by kernel_rfl) (by kernel_rfl) (by kernel_rfl) (by kernel_rfl) (by kernel_rfl) (by kernel_rfl) (by kernel_rfl) (by kernel_rfl) (by kernel_rfl) (by kernel_rfl) (by kernel_rfl) (by kernel_rfl) (by kernel_rfl) (by kernel_rfl) (by kernel_rfl) (by kernel_rfl) (by kernel_rfl) (by kernel_rfl) fHeard fEnter (by rw [fFinal]; kernel_rfl) (by rw [fMake]; kernel_rfl) (by kernel_rfl) (by kernel_rfl) (by kernel_rfl) (by kernel_rfl)
theorem over : Rows.icmpEndsRow.holds Try.pinned (OpenSpec.ofChange Rows.icmpEndsSpec) :=
  OpenClaim.holds_of_wide 23 Try.f23 rfl rfl rfl rfl rfl rfl rfl ⟨rfl, rfl, rfl, rfl, rfl⟩ rfl rfl rfl rfl rfl (by kernel_rfl) Try.func23 joined
    (of_decide_eq_true (by kernel_rfl)) (by unfold Func.isWrapper; first | (rw [if_pos (by decide +kernel)]; kernel_rfl) | (rw [if_neg (by decide +kernel)]; exact ⟨rfl, rfl⟩))
    (fun os started H enc _ => lifted os started H enc)
end Go.Proofs.Yteljeekapcenlaa.icmpEnds
namespace Go.Proofs.Yteljeekapcenlaa
/-- The row, under a short name, for the claim. -/
theorem icmpEnds_holds : Rows.IcmpEndsSaid := icmpEnds.over
#print axioms icmpEnds_holds
end Go.Proofs.Yteljeekapcenlaa
