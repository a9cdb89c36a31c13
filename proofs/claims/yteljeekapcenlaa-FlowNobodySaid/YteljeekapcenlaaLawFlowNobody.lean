/-
  'FlowNobody' answers true at every input; its arguments read behind the call as they did before. No conditions.
-/
import Derived.Test.YteljeekapcenlaaRows
import Derived.Test.YteljeekapcenlaaEvR
import Derived.Test.YteljeekapcenlaaFac
import Derived.Test.YteljeekapcenlaaNFlowNobody
namespace Go.Proofs.Yteljeekapcenlaa.flowNobody
open Go Go.ChangeShapes Go.WideShapes Go.ChangeAt Go.RowKit
set_option linter.unusedVariables false
theorem own : ownKnob Try.prog.godebug = none := by kernel_rfl
theorem laidOut : laidOutB Try.prog = true := fLaid
set_option maxRecDepth 100000 in
theorem open63 {w : World} {base : Nat} {v : Value} (h : Value.okWide Try.prog w .any base 63 v) : ∃ x : T_api_Flow, v = v_api_Flow x ∧ IntKind.i64.has x.Tuple_Fam ∧ IntKind.i64.has x.Tuple_Proto ∧ IntKind.i64.has x.Tuple_Src_Fam ∧ IntKind.u64.has x.Tuple_Src_Hi ∧ IntKind.u64.has x.Tuple_Src_Lo ∧ IntKind.i64.has x.Tuple_Dst_Fam ∧ IntKind.u64.has x.Tuple_Dst_Hi ∧ IntKind.u64.has x.Tuple_Dst_Lo ∧ IntKind.i64.has x.Tuple_Sport ∧ IntKind.i64.has x.Tuple_Dport ∧ IntKind.i64.has x.Conn_State ∧ IntKind.u32.has x.Conn_Next_c0 ∧ IntKind.u32.has x.Conn_Next_c1 ∧ IntKind.u32.has x.Conn_Edge_c0 ∧ IntKind.u32.has x.Conn_Edge_c1 ∧ IntKind.i64.has x.Ends ∧ IntKind.i64.has x.Help := by
  have e : List.map (Ev.kindP Try.prog) [3, 3, 3, 57, 57, 3, 57, 57, 3, 3, 3, 22, 22, 22, 22, 4, 4, 4, 4, 3, 3, 4] = [.int .i64, .int .i64, .int .i64, .int .u64, .int .u64, .int .i64, .int .u64, .int .u64, .int .i64, .int .i64, .int .i64, .int .u32, .int .u32, .int .u32, .int .u32, .bool, .bool, .bool, .bool, .int .i64, .int .i64, .bool] := by kernel_rfl
  obtain ⟨cs, rfl, h1⟩ := Ev.agg_has h (by kernel_rfl) (ts := [3, 3, 3, 57, 57, 3, 57, 57, 3, 3, 3, 22, 22, 22, 22, 4, 4, 4, 4, 3, 3, 4]) (by kernel_rfl) (by kernel_rfl) (by kernel_rfl)
  rw [e] at h1
  obtain ⟨n0, c0, rfl, r0, h2⟩ := Ev.HasL.int h1
  obtain ⟨n1, c1, rfl, r1, h3⟩ := Ev.HasL.int h2
  obtain ⟨n2, c2, rfl, r2, h4⟩ := Ev.HasL.int h3
  obtain ⟨n3, c3, rfl, r3, h5⟩ := Ev.HasL.int h4
  obtain ⟨n4, c4, rfl, r4, h6⟩ := Ev.HasL.int h5
  obtain ⟨n5, c5, rfl, r5, h7⟩ := Ev.HasL.int h6
  obtain ⟨n6, c6, rfl, r6, h8⟩ := Ev.HasL.int h7
  obtain ⟨n7, c7, rfl, r7, h9⟩ := Ev.HasL.int h8
  obtain ⟨n8, c8, rfl, r8, h10⟩ := Ev.HasL.int h9
  obtain ⟨n9, c9, rfl, r9, h11⟩ := Ev.HasL.int h10
  obtain ⟨n10, c10, rfl, r10, h12⟩ := Ev.HasL.int h11
  obtain ⟨n11, c11, rfl, r11, h13⟩ := Ev.HasL.int h12
  obtain ⟨n12, c12, rfl, r12, h14⟩ := Ev.HasL.int h13
  obtain ⟨n13, c13, rfl, r13, h15⟩ := Ev.HasL.int h14
  obtain ⟨n14, c14, rfl, r14, h16⟩ := Ev.HasL.int h15
  obtain ⟨n15, c15, rfl, h17⟩ := Ev.HasL.bool h16
  obtain ⟨n16, c16, rfl, h18⟩ := Ev.HasL.bool h17
  obtain ⟨n17, c17, rfl, h19⟩ := Ev.HasL.bool h18
  obtain ⟨n18, c18, rfl, h20⟩ := Ev.HasL.bool h19
  obtain ⟨n19, c19, rfl, r19, h21⟩ := Ev.HasL.int h20
  obtain ⟨n20, c20, rfl, r20, h22⟩ := Ev.HasL.int h21
  obtain ⟨n21, c21, rfl, h23⟩ := Ev.HasL.bool h22
  obtain rfl := Ev.HasL.nil h23
  exact ⟨⟨n0, n1, n2, n3, n4, n5, n6, n7, n8, n9, n10, n11, n12, n13, n14, n15, n16, n17, n18, n19, n20, n21⟩, rfl, r0, r1, r2, r3, r4, r5, r6, r7, r8, r9, r10, r11, r12, r13, r14, r19, r20⟩
theorem walk (x0 : T_api_Flow) (x1 : Int) (r0 : IntKind.i64.has x0.Tuple_Fam ∧ IntKind.i64.has x0.Tuple_Proto ∧ IntKind.i64.has x0.Tuple_Src_Fam ∧ IntKind.u64.has x0.Tuple_Src_Hi ∧ IntKind.u64.has x0.Tuple_Src_Lo ∧ IntKind.i64.has x0.Tuple_Dst_Fam ∧ IntKind.u64.has x0.Tuple_Dst_Hi ∧ IntKind.u64.has x0.Tuple_Dst_Lo ∧ IntKind.i64.has x0.Tuple_Sport ∧ IntKind.i64.has x0.Tuple_Dport ∧ IntKind.i64.has x0.Conn_State ∧ IntKind.u32.has x0.Conn_Next_c0 ∧ IntKind.u32.has x0.Conn_Next_c1 ∧ IntKind.u32.has x0.Conn_Edge_c0 ∧ IntKind.u32.has x0.Conn_Edge_c1 ∧ IntKind.i64.has x0.Ends ∧ IntKind.i64.has x0.Help) (r1 : IntKind.i64.has x1) (W : World) : Calls Try.prog 15 #[v_api_Flow x0, .int .i64 x1] W fun e w' => e = .returned (.bool true) ∧ Below W.heap.size W w' :=
  Ev.calls_of_good (good_law16_FlowNobody x0 x1) (by kernel_rfl) (by kernel_rfl) W
set_option maxRecDepth 100000 in
theorem lifted (os : Os) (started : os.Started) (H : Type) (enc : TypeId × Value → H) :
    ReturnsInHanded {} Try.checked os 15 .any (Rows.flowNobodySpec.pre6 enc Try.prog Try.f15 Rows.flowNobodyRow.domain false) (Rows.flowNobodySpec.post enc Try.prog Try.f15 false true false false) := by
  refine returnsInHanded_of_change_sized (C := Try.checked) own started (by kernel_rfl) Try.func15
    (ChangeSpec.witness6 (enc := enc) (C := Try.checked) false ⟨#[], #[.agg ⟨[.int .i64 0, .int .i64 0, .int .i64 0, .int .u64 0, .int .u64 0, .int .i64 0, .int .u64 0, .int .u64 0, .int .i64 0, .int .i64 0, .int .i64 0, .int .u32 0, .int .u32 0, .int .u32 0, .int .u32 0, .bool false, .bool false, .bool false, .bool false, .int .i64 0, .int .i64 0, .bool false]⟩, .int .i64 0], []⟩ 8 (by kernel_rfl) (by kernel_rfl) (by kernel_rfl) (by kernel_rfl)) ?_
  intro W base args ds gs before hval0 hW hcnd hsz0 _
  have hval : ∀ (j : Nat) t v, Try.f15.params[j]? = some t → args[j]? = some v → Value.okWide Try.prog W .any base t v := hval0
  have hW' := hW
  obtain ⟨p, q, hA0, hV, rfl, hfz, hnd⟩ := hW
  have hA : DataW.TrodAll enc Try.prog W 0 (fun _ => true) true Try.f15.params.toList args.toList ds p := hA0
  rw [Try.params15] at hA hval
  obtain ⟨v0, vs0, d0, ds0, p0, q0, hargs, rfl, rfl, h0, k0⟩ := trodAll_cons hA
  obtain ⟨v1, vs1, d1, ds1, p1, q1, rfl, rfl, rfl, h1, k1⟩ := trodAll_cons k0
  obtain ⟨rfl, rfl, rfl⟩ := trodAll_nil k1
  obtain rfl : args = #[v0, v1] := by cases args; simp_all
  obtain ⟨rfl, rfl⟩ := trodVars_none hV
  have lt0 : ∀ x ∈ p0, x.block < W.heap.size := by obtain ⟨m, hm⟩ := h0; exact DataW.trod_lt m _ _ _ hm
  obtain ⟨x0, rfl, r0⟩ := open63 (hval 0 63 v0 rfl rfl)
  have lt1 : ∀ x ∈ p1, x.block < W.heap.size := by obtain ⟨m, hm⟩ := h1; exact DataW.trod_lt m _ _ _ hm
  have e1 := Ev.scalar_has (hval 1 3 v1 rfl rfl) (by kernel_rfl)
  rw [show Ev.kindP Try.prog 3 = .int .i64 from by kernel_rfl] at e1
  obtain ⟨x1, rfl, r1⟩ := e1
  refine (walk x0 x1 r0 r1 W).mono fun e W' ⟨he, bel⟩ => ?_
  subst he
  exact ⟨_, rfl, _, _, _, [], _, [], hW', trodAll_mk1 (shut_bool Try.underlying4 _), (trodAll_cons_mk (Below.trod laidOut (by kernel_rfl) (of_decide_eq_true (by kernel_rfl)) h0 bel lt0) (trodAll_cons_mk (Below.trod laidOut (by kernel_rfl) (of_decide_eq_true (by kernel_rfl)) h1 bel lt1) trodAll_mk0)), rfl, bel.frame _, fun h => by cases h⟩
theorem joined : joinedFacts Try.prog 15 Try.f15 Rows.flowNobodySpec Rows.flowNobodyRow = true :=
  joined_of (by kernel_rfl) fLaid fMaps (by kernel_rfl) (by kernel_rfl) (by kernel_rfl) (by kernel_rfl) (by kernel_rfl) (by kernel_rfl) (by kernel_rfl) (by kernel_rfl) (by kernel_rfl) (by kernel_rfl) (by kernel_rfl) (by kernel_rfl) (by kernel_rfl) (by kernel_rfl) (by kernel_rfl) (by kernel_rfl) (by kernel_rfl) (by kernel_rfl) (by kernel_rfl) (by kernel_rfl) (by kernel_rfl) fHeard fEnter (by rw [fFinal]; kernel_rfl) (by rw [fMake]; kernel_rfl) (by kernel_rfl) (by kernel_rfl) (by kernel_rfl) (by kernel_rfl)
theorem over : Rows.flowNobodyRow.holds Try.pinned (OpenSpec.ofChange Rows.flowNobodySpec) :=
  OpenClaim.holds_of_wide 15 Try.f15 rfl rfl rfl rfl rfl rfl rfl ⟨rfl, rfl, rfl, rfl, rfl⟩ rfl rfl rfl rfl rfl (by kernel_rfl) Try.func15 joined
    (of_decide_eq_true (by kernel_rfl)) (by unfold Func.isWrapper; first | (rw [if_pos (by decide +kernel)]; kernel_rfl) | (rw [if_neg (by decide +kernel)]; exact ⟨rfl, rfl⟩))
    (fun os started H enc _ => lifted os started H enc)
end Go.Proofs.Yteljeekapcenlaa.flowNobody
namespace Go.Proofs.Yteljeekapcenlaa
/-- The row, under a short name, for the claim. -/
theorem flowNobody_holds : Rows.FlowNobodySaid := flowNobody.over
#print axioms flowNobody_holds
end Go.Proofs.Yteljeekapcenlaa
