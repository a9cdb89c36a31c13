/-
  Flows: what begins and goes on may be. No conditions.
-/
import Derived.Test.YteljeekapcenlaaPx
import Derived.Test.YteljeekapcenlaaPk
import Derived.Test.YteljeekapcenlaaFm
import Derived.Test.YteljeekapcenlaaEvGg
namespace Go.Proofs.Yteljeekapcenlaa
open Go Go.RowKit
set_option linter.unusedVariables false
set_option linter.unusedSimpArgs false

theorem life_in {c : T_api_Conn} (h : F_r15_Right c = true) : 1 ≤ F_r15_Life c ∧ F_r15_Life c ≤ 3600 := by
  have h' : F_r15_Right ⟨c.State, c.Next_c0, c.Next_c1, c.Edge_c0, c.Edge_c1, c.Known_c0, c.Known_c1, c.Ended_c0, c.Ended_c1⟩ = true := h
  unfold F_r15_Life N_r15_Life G_r15_Life
  rw [h']
  simp only [Bool.not_true, cond_false]
  cases c.State == 3 <;> cases c.State == 4 <;> cases c.State == 6 <;> decide

theorem inB_iff {a x b : Int} : inB a x b = true ↔ a ≤ x ∧ x ≤ b := by
  unfold inB
  rw [Ev.leI_eq, Ev.leI_eq]
  simp

theorem kept_R {t : T_api_Tuple} {c : T_api_Conn} {help now : Int} {both : Bool} (ht : tupR t = true) (hn : inB 0 now 4611686018427384304 = true) (hh : inB 0 help 3 = true)
    (hc : t.Proto = 6 → F_r15_Right c = true) (hz : t.Proto ≠ 6 → zC c = true) : flowR (keptV t c help both now) = true ∧ now < (keptV t c help both now).Ends ∧ flT (keptV t c help both now) = t := by
  obtain ⟨n1, n2⟩ := inB_iff.1 hn
  have hl : 1 ≤ lifeV t c both ∧ lifeV t c both ≤ 3600 := by
    unfold lifeV
    by_cases h6 : t.Proto = 6
    · rw [h6, k66, cond_true]; exact life_in (hc h6)
    · rw [beq_eq_false_iff_ne.2 h6, cond_false]
      cases t.Proto == 17 <;> cases both <;> decide
  have he : (keptV t c help both now).Ends = now + lifeV t c both := by
    show IntKind.wrap .i64 (now + lifeV t c both) = _
    simp [IntKind.wrap, IntKind.signed, IntKind.bits]
    omega
  refine ⟨?_, by rw [he]; omega, rfl⟩
  unfold flowR
  have e1 : flT (keptV t c help both now) = t := rfl
  have e2 : (keptV t c help both now).Help = help := rfl
  have e3 : (keptV t c help both now).Tuple_Proto = t.Proto := rfl
  have e4 : flC (keptV t c help both now) = c := rfl
  rw [e1, e2, e3, e4, ht, hh, he]
  have : inB 0 (now + lifeV t c both) 4611686018427387904 = true := inB_iff.2 ⟨by omega, by omega⟩
  rw [this]
  by_cases h6 : t.Proto = 6
  · rw [h6, k66, hc h6]; rfl
  · rw [beq_eq_false_iff_ne.2 h6, hz h6]; rfl

theorem begin_R {a b c d : Int} (h : (F_r15_Begin a b c d).2 = 0) : F_r15_Right (F_r15_Begin a b c d).1 = true := by
  revert h
  unfold F_r15_Begin N_r15_Begin G_r15_Begin
  cases F_r15_in c <;> cases F_r15_in d <;> cases (Ev.bitsOp BinOp.and IntKind.i64 a 23 != 2) <;> cases (d != 0)
  all_goals first
    | (intro h; exact absurd (show (1 : Int) = 0 from h) (by decide))
    | (intro h; exact absurd (show (23 : Int) = 0 from h) (by decide))
    | (intro _; rfl)

/-- what is kept of a flow -/
def Kept (s : D_api_Seg) (now : Int) (f : T_api_Flow) : Prop := flowR f = true ∧ now < f.Ends ∧ flT f = sgT s

theorem start_keeps {s : D_api_Seg} {now : Int} (h : (startV s now 0).2 = 0) : Kept s now (startV s now 0).1 := by
  unfold startV at h ⊢
  cases hc : tupR (sgT s) && (inB 0 now 4611686018427384304 && inB 0 0 3) with
  | false => rw [hc] at h; exact absurd (show (1 : Int) = 0 from h) (by decide)
  | true =>
    rw [hc] at h
    simp only [Bool.and_eq_true] at hc
    obtain ⟨h1, h2, h3⟩ := hc
    rw [cond_true] at h ⊢
    by_cases h6 : s.Tuple_Proto = 6
    · rw [h6, k66, cond_true] at h
      rw [h6, k66, cond_true]
      cases hb : (F_r15_Begin s.Flags s.Seq s.Win ↑(Ev.dlen 1 s.Data)).2 == 0 with
      | false =>
        rw [hb, cond_false] at h
        rw [show (F_r15_Begin s.Flags s.Seq s.Win ↑(Ev.dlen 1 s.Data)).2 = 0 from h] at hb
        cases hb
      | true =>
        rw [cond_true]
        exact kept_R h1 h2 h3 (fun _ => begin_R (by simpa using hb)) (fun q => absurd h6 q)
    · rw [beq_eq_false_iff_ne.2 h6, cond_false] at h
      rw [beq_eq_false_iff_ne.2 h6, cond_false]
      cases he : s.Tuple_Proto == 17 || echoV s 0 with
      | false => rw [he] at h; exact absurd (show (23 : Int) = 0 from h) (by decide)
      | true =>
        rw [cond_true]
        exact kept_R h1 h2 h3 (fun q => absurd q h6) (fun _ => rfl)

theorem go_keeps {s x : D_api_Seg} {f : T_api_Flow} {side now : Int} (hf : Kept s now f) (h : (goV f side x now).2 = 0) : Kept s now (goV f side x now).1 := by
  obtain ⟨f1, f2, f3⟩ := hf
  have ht := flowR_tup f1
  have hR := f1
  unfold flowR at hR
  simp only [Bool.and_eq_true] at hR
  obtain ⟨_, _, hh, hc⟩ := hR
  unfold goV at h ⊢
  rw [f1, Bool.true_and] at h ⊢
  cases hb : (inB 0 side 1 && inB 0 now 4611686018427384304) with
  | false => rw [hb] at h; exact absurd (show (1 : Int) = 0 from h) (by decide)
  | true =>
    rw [hb, cond_true] at h
    rw [cond_true]
    simp only [Bool.and_eq_true] at hb
    obtain ⟨h1, h2⟩ := hb
    cases he : eqT (sgT x) (bif side == 1 then revT (flT f) else flT f) with
    | false => rw [he] at h; exact absurd (show (23 : Int) = 0 from h) (by decide)
    | true =>
      rw [he, cond_true] at h
      rw [cond_true]
      by_cases h6 : f.Tuple_Proto = 6
      · rw [h6, k66, cond_true] at h hc
        rw [h6, k66, cond_true]
        cases hs : (F_r15_Step (flC f) side (sgm x)).2 == 0 with
        | false =>
          rw [hs, cond_false] at h
          rw [show (F_r15_Step (flC f) side (sgm x)).2 = 0 from h] at hs
          cases hs
        | true =>
          rw [cond_true]
          have := taken_ok (flC f) side (sgm x) hc (by rw [a_Step]; simpa using hs)
          rw [a_Step] at this
          obtain ⟨q1, q2, q3⟩ := kept_R (both := f.Both || side == 1) ht h2 hh (fun _ => this.1) (fun q => absurd h6 q)
          exact ⟨q1, q2, q3.trans f3⟩
      · rw [beq_eq_false_iff_ne.2 h6, cond_false] at h hc
        rw [beq_eq_false_iff_ne.2 h6, cond_false]
        cases hx : f.Tuple_Proto == 17 || echoV x side with
        | false => rw [hx] at h; exact absurd (show (23 : Int) = 0 from h) (by decide)
        | true =>
          rw [cond_true]
          obtain ⟨q1, q2, q3⟩ := kept_R (c := flC f) (both := f.Both || side == 1) ht h2 hh (fun q => absurd q h6) (fun _ => hc)
          exact ⟨q1, q2, q3.trans f3⟩

theorem seg_len (x : D_api_Seg) : (c_api_Seg x).length = 28 := rfl
theorem wrap_i64' {n : Int} (h0 : 0 ≤ n) (h1 : n < 2 ^ 63) : IntKind.i64.wrap n = n := by
  simp [IntKind.wrap, IntKind.signed, IntKind.bits] at *; omega

noncomputable def LP (m n : Nat) (now : Int) (cs : List Value) (len i : Int) (s : D_api_Seg) (f : T_api_Flow) : Option Bool :=
  N_law16_FlowMakes_5 F_flow_Start F_law16_alive F_flow_Right F_flow_Go m n now cs len i s.Tuple_Fam s.Tuple_Proto s.Tuple_Src_Fam s.Tuple_Src_Hi s.Tuple_Src_Lo s.Tuple_Dst_Fam s.Tuple_Dst_Hi s.Tuple_Dst_Lo s.Tuple_Sport s.Tuple_Dport
    s.Flags s.Seq s.Ack s.Win s.Type_ s.Code s.Err s.Inner_Fam s.Inner_Proto s.Inner_Src_Fam s.Inner_Src_Hi s.Inner_Src_Lo s.Inner_Dst_Fam s.Inner_Dst_Hi s.Inner_Dst_Lo s.Inner_Sport s.Inner_Dport s.Data
    f.Tuple_Fam f.Tuple_Proto f.Tuple_Src_Fam f.Tuple_Src_Hi f.Tuple_Src_Lo f.Tuple_Dst_Fam f.Tuple_Dst_Hi f.Tuple_Dst_Lo f.Tuple_Sport f.Tuple_Dport f.Conn_State f.Conn_Next_c0 f.Conn_Next_c1 f.Conn_Edge_c0 f.Conn_Edge_c1 f.Conn_Known_c0 f.Conn_Known_c1 f.Conn_Ended_c0 f.Conn_Ended_c1 f.Ends f.Help f.Both

theorem eqT_refl (t : T_api_Tuple) : eqT t t = true := by unfold eqT; simp

set_option maxHeartbeats 4000000 in
theorem makes_loop (m : Nat) (now : Int) (s : D_api_Seg) (xs : List D_api_Seg) (hlen : xs.length < 2 ^ 62) : ∀ (n i : Nat), i ≤ xs.length → xs.length - i < n → ∀ f, Kept s now f →
    LP m n now (xs.flatMap c_api_Seg) (xs.length : Nat) (i : Nat) s f = some true := by
  intro n
  induction n with
  | zero => intro i _ h; omega
  | succ n ih =>
    intro i hi hn f hf
    unfold LP
    rw [N_law16_FlowMakes_5]
    rw [Ev.ltI_eq]
    have eR : F_flow_Right { Tuple_Fam := f.Tuple_Fam, Tuple_Proto := f.Tuple_Proto, Tuple_Src_Fam := f.Tuple_Src_Fam, Tuple_Src_Hi := f.Tuple_Src_Hi, Tuple_Src_Lo := f.Tuple_Src_Lo, Tuple_Dst_Fam := f.Tuple_Dst_Fam, Tuple_Dst_Hi := f.Tuple_Dst_Hi, Tuple_Dst_Lo := f.Tuple_Dst_Lo, Tuple_Sport := f.Tuple_Sport, Tuple_Dport := f.Tuple_Dport, Conn_State := f.Conn_State, Conn_Next_c0 := f.Conn_Next_c0, Conn_Next_c1 := f.Conn_Next_c1, Conn_Edge_c0 := f.Conn_Edge_c0, Conn_Edge_c1 := f.Conn_Edge_c1, Conn_Known_c0 := f.Conn_Known_c0, Conn_Known_c1 := f.Conn_Known_c1, Conn_Ended_c0 := f.Conn_Ended_c0, Conn_Ended_c1 := f.Conn_Ended_c1, Ends := f.Ends, Help := f.Help, Both := f.Both } = some true := by
      rw [q_flow_Right]; exact congrArg some hf.1
    by_cases hlt : i < xs.length
    · rw [decide_eq_true (by omega : ((i : Nat) : Int) < ((xs.length : Nat) : Int)), cond_true]
      obtain ⟨x, hx⟩ : ∃ x, xs[i]? = some x := ⟨xs[i], List.getElem?_eq_getElem hlt⟩
      have hd := Ev.flat_drop (c := c_api_Seg) (z := 28) seg_len hx
      generalize (xs.flatMap c_api_Seg).drop ((i + 1) * 28) = rest at hd
      rw [Ev.flat_dlen (c := c_api_Seg) (z := 28) seg_len (by decide)]
      rw [decide_eq_true (by omega : (0 : Int) ≤ ((i : Nat) : Int)), decide_eq_true (by omega : ((i : Nat) : Int) < ((xs.length : Nat) : Int))]
      simp only [Bool.and_true, Bool.true_and, cond_true, Int.toNat_natCast]
      rw [Ev.okD_drop0 _ _ (i * 28), hd]
      rw [eR]
      have h0 : ∀ j, Ev.nthC (xs.flatMap c_api_Seg) (i * 28 + j) = Ev.nthC (c_api_Seg x ++ rest) j := fun j => by rw [Ev.nthC_drop, hd]
      have h00 : Ev.nthC (xs.flatMap c_api_Seg) (i * 28) = Ev.nthC (c_api_Seg x ++ rest) 0 := h0 0
      simp only [Nat.add_assoc, Nat.reduceAdd, h0, h00]
      have e : xs.drop i = x :: xs.drop (i + 1) := by
        rw [List.drop_eq_getElem_cons hlt]
        congr 1
        rw [List.getElem?_eq_getElem hlt] at hx
        exact Option.some.inj hx
      change (bif !true then some false else bif Ev.leI f.Ends now then some false else bif !(eqT (flT f) (sgT s)) then some false else Ev.bnd (F_flow_Go f (Ev.bitsOp BinOp.and IntKind.i64 i 1) x now) fun v58 => bif v58.2 == 0 then LP m n now (xs.flatMap c_api_Seg) (xs.length : Nat) (IntKind.wrap .i64 ((i : Int) + 1)) s v58.1 else LP m n now (xs.flatMap c_api_Seg) (xs.length : Nat) (IntKind.wrap .i64 ((i : Int) + 1)) s f) = some true
      have hends : Ev.leI f.Ends now = false := by
        rw [Ev.leI_eq, decide_eq_false]
        have := hf.2.1
        omega
      rw [hends, hf.2.2, eqT_refl, q_Go, Ev.bnd_some, wrap_i64' (by omega) (by omega)]
      simp only [Bool.not_true, cond_false]
      cases hg : (goV f (Ev.bitsOp BinOp.and IntKind.i64 i 1) x now).2 == 0 with
      | true =>
        rw [cond_true]
        exact ih (i + 1) (by omega) (by omega) _ (go_keeps hf (by simpa using hg))
      | false =>
        rw [cond_false]
        exact ih (i + 1) (by omega) (by omega) _ hf
    · rw [decide_eq_false (by omega), cond_false, eR]
      rfl

theorem lawp_FlowMakes (x0 : D_api_Seg) (x1 : List D_api_Seg) (x2 : Int) (hlen : x1.length < 2 ^ 62) : F_law16_FlowMakes x0 (x1.flatMap c_api_Seg) x2 = some true := by
  unfold F_law16_FlowMakes
  refine Ev.lim_eq (x1.length + 1) fun m hm => ?_
  unfold N_law16_FlowMakes
  rw [q_Start, Ev.bnd_some]
  rw [Ev.flat_dlen (c := c_api_Seg) (z := 28) seg_len (by decide)]
  change (bif (startV x0 x2 0).2 != 0 then Ev.bnd F_law16_alive fun v1 => some v1 else LP m m x2 (x1.flatMap c_api_Seg) (x1.length : Nat) (0 : Nat) x0 (startV x0 x2 0).1) = some true
  rw [ne_cond]
  cases hs : (startV x0 x2 0).2 == 0 with
  | false => rfl
  | true =>
    rw [cond_true]
    exact makes_loop m x2 x0 x1 hlen m 0 (Nat.zero_le _) (by omega) _ (start_keeps (by simpa using hs))
theorem lawd_FlowMakes (x0 : D_api_Seg) (x1 : List D_api_Seg) (x2 : Int) (r0 : IntKind.i64.has x0.Tuple_Fam ∧ IntKind.i64.has x0.Tuple_Proto ∧ IntKind.i64.has x0.Tuple_Src_Fam ∧ IntKind.u64.has x0.Tuple_Src_Hi ∧ IntKind.u64.has x0.Tuple_Src_Lo ∧ IntKind.i64.has x0.Tuple_Dst_Fam ∧ IntKind.u64.has x0.Tuple_Dst_Hi ∧ IntKind.u64.has x0.Tuple_Dst_Lo ∧ IntKind.i64.has x0.Tuple_Sport ∧ IntKind.i64.has x0.Tuple_Dport ∧ IntKind.i64.has x0.Flags ∧ IntKind.u32.has x0.Seq ∧ IntKind.u32.has x0.Ack ∧ IntKind.i64.has x0.Win ∧ IntKind.i64.has x0.Type_ ∧ IntKind.i64.has x0.Code ∧ IntKind.i64.has x0.Inner_Fam ∧ IntKind.i64.has x0.Inner_Proto ∧ IntKind.i64.has x0.Inner_Src_Fam ∧ IntKind.u64.has x0.Inner_Src_Hi ∧ IntKind.u64.has x0.Inner_Src_Lo ∧ IntKind.i64.has x0.Inner_Dst_Fam ∧ IntKind.u64.has x0.Inner_Dst_Hi ∧ IntKind.u64.has x0.Inner_Dst_Lo ∧ IntKind.i64.has x0.Inner_Sport ∧ IntKind.i64.has x0.Inner_Dport ∧ Ev.SlT 1 [.k (.int .u8)] x0.Data) (z1 : x1.length * 232 ≤ reachBytes) (q1 : ∀ x ∈ x1, IntKind.i64.has x.Tuple_Fam ∧ IntKind.i64.has x.Tuple_Proto ∧ IntKind.i64.has x.Tuple_Src_Fam ∧ IntKind.u64.has x.Tuple_Src_Hi ∧ IntKind.u64.has x.Tuple_Src_Lo ∧ IntKind.i64.has x.Tuple_Dst_Fam ∧ IntKind.u64.has x.Tuple_Dst_Hi ∧ IntKind.u64.has x.Tuple_Dst_Lo ∧ IntKind.i64.has x.Tuple_Sport ∧ IntKind.i64.has x.Tuple_Dport ∧ IntKind.i64.has x.Flags ∧ IntKind.u32.has x.Seq ∧ IntKind.u32.has x.Ack ∧ IntKind.i64.has x.Win ∧ IntKind.i64.has x.Type_ ∧ IntKind.i64.has x.Code ∧ IntKind.i64.has x.Inner_Fam ∧ IntKind.i64.has x.Inner_Proto ∧ IntKind.i64.has x.Inner_Src_Fam ∧ IntKind.u64.has x.Inner_Src_Hi ∧ IntKind.u64.has x.Inner_Src_Lo ∧ IntKind.i64.has x.Inner_Dst_Fam ∧ IntKind.u64.has x.Inner_Dst_Hi ∧ IntKind.u64.has x.Inner_Dst_Lo ∧ IntKind.i64.has x.Inner_Sport ∧ IntKind.i64.has x.Inner_Dport ∧ Ev.SlT 1 [.k (.int .u8)] x.Data) (r2 : IntKind.i64.has x2) : F_law16_FlowMakes x0 (x1.flatMap c_api_Seg) x2 = some true := by
  refine lawp_FlowMakes x0 x1 x2 ?_
  have : reachBytes = 0x7ffffffff000 := rfl
  rw [this] at z1
  omega

end Go.Proofs.Yteljeekapcenlaa
