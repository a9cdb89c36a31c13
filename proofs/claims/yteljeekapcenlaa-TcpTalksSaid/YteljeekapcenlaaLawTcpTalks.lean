/-
  'TcpTalks' answers true at every input; its arguments read behind the call as they did before. No conditions.
-/
import Derived.Test.YteljeekapcenlaaRows
import Derived.Test.YteljeekapcenlaaEvR
import Derived.Test.YteljeekapcenlaaEvGg
import Derived.Test.YteljeekapcenlaaFac
import Derived.Test.YteljeekapcenlaaPe
namespace Go.Proofs.Yteljeekapcenlaa.tcpTalks
open Go Go.ChangeShapes Go.WideShapes Go.ChangeAt Go.RowKit
set_option linter.unusedVariables false
theorem own : ownKnob Try.prog.godebug = none := by kernel_rfl
theorem laidOut : laidOutB Try.prog = true := fLaid
theorem rows52 : ∀ (rows : List (List Value)), (∀ r ∈ rows, Ev.HasTL [.k (.int .u16)] r) → ∃ xs : List Int, rows = xs.map (fun x => [.int .u16 x]) ∧ ∀ x ∈ xs, IntKind.u16.has x := by
  intro rows
  induction rows with
  | nil => intro _; exact ⟨[], rfl, fun x hx => (by cases hx)⟩
  | cons r rs ih =>
    intro h
    obtain ⟨xs, rfl, hxs⟩ := ih (fun r hr => h r (List.mem_cons_of_mem _ hr))
    have h1 := h r List.mem_cons_self
    obtain ⟨n0, c0, rfl, r2, h2⟩ := Ev.HasTL.int h1
    obtain rfl := Ev.HasTL.nil h2
    refine ⟨n0 :: xs, rfl, fun x hx => ?_⟩
    rcases List.mem_cons.1 hx with rfl | hx
    · exact r2
    · exact hxs x hx
theorem walk (x0 : Int) (x1 : Int) (x2 : List Int) (r0 : IntKind.u32.has x0) (r1 : IntKind.u32.has x1) (z2 : x2.length * 2 ≤ reachBytes) (q2 : ∀ x ∈ x2, IntKind.u16.has x) (W : World) {v2 : Value} (dr2 : Ev.DR W (Ev.dS 1 (x2.flatMap (fun x => [.int .u16 x]))) v2) : Calls Try.prog 7 #[.int .u32 x0, .int .u32 x1, v2] W fun e w' => e = .returned (.bool true) ∧ Below W.heap.size W w' := by
  refine Ev.calls_of_spec g_law15_TcpTalks (vs := [.int .u32 x0, .int .u32 x1, Ev.dS 1 (x2.flatMap (fun x => [.int .u16 x]))]) (u := .bool true) ?_ ?_ rfl
  · show Ev.bnd (F_law15_TcpTalks x0 x1 (x2.flatMap (fun x => [.int .u16 x]))) _ = _
    rw [lawd_TcpTalks x0 x1 x2 r0 r1 z2 q2]
    rfl
  · exact .cons _ _ _ _ (.scalar _ rfl) (.cons _ _ _ _ (.scalar _ rfl) (.cons _ _ _ _ (dr2) (.nil)))
set_option maxRecDepth 100000 in
theorem lifted (os : Os) (started : os.Started) (H : Type) (enc : TypeId × Value → H) :
    ReturnsInHanded {} Try.checked os 7 .any (Rows.tcpTalksSpec.pre6 enc Try.prog Try.f7 Rows.tcpTalksRow.domain false) (Rows.tcpTalksSpec.post enc Try.prog Try.f7 false true false false) := by
  refine returnsInHanded_of_change_sized (C := Try.checked) own started (by kernel_rfl) Try.func7
    (ChangeSpec.witness6 (enc := enc) (C := Try.checked) false ⟨#[], #[.int  .u32 0, .int  .u32 0, .slice none 0 0], []⟩ 8 (by kernel_rfl) (by kernel_rfl) (by kernel_rfl) (by kernel_rfl)) ?_
  intro W base args ds gs before hval0 hW hcnd hsz0 _
  have hval : ∀ (j : Nat) t v, Try.f7.params[j]? = some t → args[j]? = some v → Value.okWide Try.prog W .any base t v := hval0
  have hW' := hW
  obtain ⟨p, q, hA0, hV, rfl, hfz, hnd⟩ := hW
  have hA : DataW.TrodAll enc Try.prog W 0 (fun _ => true) true Try.f7.params.toList args.toList ds p := hA0
  rw [Try.params7] at hA hval
  obtain ⟨v0, vs0, d0, ds0, p0, q0, hargs, rfl, rfl, h0, k0⟩ := trodAll_cons hA
  obtain ⟨v1, vs1, d1, ds1, p1, q1, rfl, rfl, rfl, h1, k1⟩ := trodAll_cons k0
  obtain ⟨v2, vs2, d2, ds2, p2, q2, rfl, rfl, rfl, h2, k2⟩ := trodAll_cons k1
  obtain ⟨rfl, rfl, rfl⟩ := trodAll_nil k2
  obtain rfl : args = #[v0, v1, v2] := by cases args; simp_all
  obtain ⟨rfl, rfl⟩ := trodVars_none hV
  have lt0 : ∀ x ∈ p0, x.block < W.heap.size := by obtain ⟨m, hm⟩ := h0; exact DataW.trod_lt m _ _ _ hm
  have e0 := Ev.scalar_has (hval 0 22 v0 rfl rfl) (by kernel_rfl)
  rw [show Ev.kindP Try.prog 22 = .int .u32 from by kernel_rfl] at e0
  obtain ⟨x0, rfl, r0⟩ := e0
  have lt1 : ∀ x ∈ p1, x.block < W.heap.size := by obtain ⟨m, hm⟩ := h1; exact DataW.trod_lt m _ _ _ hm
  have e1 := Ev.scalar_has (hval 1 22 v1 rfl rfl) (by kernel_rfl)
  rw [show Ev.kindP Try.prog 22 = .int .u32 from by kernel_rfl] at e1
  obtain ⟨x1, rfl, r1⟩ := e1
  have lt2 : ∀ x ∈ p2, x.block < W.heap.size := by obtain ⟨m, hm⟩ := h2; exact DataW.trod_lt m _ _ _ hm
  have li2 : Ev.light Try.prog 48 d2 := Ev.light_each hsz0 (i := 2) rfl rfl
  obtain ⟨u2, hu2, dr2⟩ := Ev.sl_told (P := Try.prog) (dp := 9) (k := .s 2 [.k (.int .u16)]) ⟨52, by kernel_rfl⟩ (by kernel_rfl) (hval 2 48 v2 rfl rfl) h2 li2
  simp only [Ev.HasT] at hu2
  obtain ⟨rows2, rfl, hm2, z2, hr2⟩ := hu2
  obtain ⟨x2, rfl, q2⟩ := rows52 rows2 hr2
  rw [← List.flatMap_def] at dr2
  rw [List.length_map] at z2
  refine (walk x0 x1 x2 r0 r1 z2 q2 W dr2).mono fun e W' ⟨he, bel⟩ => ?_
  subst he
  exact ⟨_, rfl, _, _, _, [], _, [], hW', trodAll_mk1 (shut_bool Try.underlying4 _), (trodAll_cons_mk (Below.trod laidOut (by kernel_rfl) (of_decide_eq_true (by kernel_rfl)) h0 bel lt0) (trodAll_cons_mk (Below.trod laidOut (by kernel_rfl) (of_decide_eq_true (by kernel_rfl)) h1 bel lt1) (trodAll_cons_mk (Below.trod laidOut (by kernel_rfl) (of_decide_eq_true (by kernel_rfl)) h2 bel lt2) trodAll_mk0))), rfl, bel.frame _, fun h => by cases h⟩
theorem joined : joinedFacts Try.prog 7 Try.f7 Rows.tcpTalksSpec Rows.tcpTalksRow = true :=
  joined_of (by kernel_rfl) fLaid fMaps (by kernel_rfl) (by kernel_rfl) (by kernel_rfl) (by kernel_rfl) (by kernel_rfl) (by kernel_rfl) (by kernel_rfl) (by kernel_rfl) (by kernel_rfl) (by kernel_rfl) (by kernel_rfl) (by kernel_rfl) (by kernel_rfl) (by kernel_rfl) (by kernel_rfl) (by kernel_rfl) (by kernel_rfl) (by kernel_rfl) (by kernel_rfl) (by kernel_rfl) (by kernel_rfl) fHeard fEnter (by rw [fFinal]; kernel_rfl) (by rw [fMake]; kernel_rfl) (by kernel_rfl) (by kernel_rfl) (by kernel_rfl) (by kernel_rfl)
theorem over : Rows.tcpTalksRow.holds Try.pinned (OpenSpec.ofChange Rows.tcpTalksSpec) :=
  OpenClaim.holds_of_wide 7 Try.f7 rfl rfl rfl rfl rfl rfl rfl ⟨rfl, rfl, rfl, rfl, rfl⟩ rfl rfl rfl rfl rfl (by kernel_rfl) Try.func7 joined
    (of_decide_eq_true (by kernel_rfl)) (by unfold Func.isWrapper; first | (rw [if_pos (by decide +kernel)]; kernel_rfl) | (rw [if_neg (by decide +kernel)]; exact ⟨rfl, rfl⟩))
    (fun os started H enc _ => lifted os started H enc)
end Go.Proofs.Yteljeekapcenlaa.tcpTalks
namespace Go.Proofs.Yteljeekapcenlaa
/-- The row, under a short name, for the claim. -/
theorem tcpTalks_holds : Rows.TcpTalksSaid := tcpTalks.over
#print axioms tcpTalks_holds
end Go.Proofs.Yteljeekapcenlaa
