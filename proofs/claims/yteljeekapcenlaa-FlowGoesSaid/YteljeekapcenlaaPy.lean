/-
  Flows: the document's answers are the same plain values; two laws. No conditions.
-/
import Derived.Test.YteljeekapcenlaaPx
import Derived.Test.YteljeekapcenlaaFb
import Derived.Test.YteljeekapcenlaaEvGg
namespace Go.Proofs.Yteljeekapcenlaa
open Go
set_option linter.unusedVariables false
set_option linter.unusedSimpArgs false

theorem r_addr (x : T_api_Addr) (h : 0 ≤ x.Lo) : F_r02_Right x = some (addrR x) := by
  unfold F_r02_Right N_r02_Right addrR
  have e : Ev.ltI x.Lo 4294967296 = (Int.fdiv x.Lo 4294967296 == 0) := by
    rw [Ev.ltI_eq, Bool.eq_iff_iff, Int.fdiv_eq_ediv_of_nonneg _ (by decide)]
    simp
    omega
  rw [e]
  by_cases h4 : x.Fam = 4
  · rw [h4]
    cases x.Hi == 0 <;> cases (Int.fdiv x.Lo 4294967296 == 0) <;> rfl
  · rw [beq_eq_false_iff_ne.2 h4]
    cases x.Fam == 6 <;> rfl

theorem r_Ends (fam : Int) (a b : T_api_Addr) (ha : 0 ≤ a.Lo) (hb : 0 ≤ b.Lo) : F_r05_Ends fam a b = some ((fam == 4 || fam == 6) && (a.Fam == fam && (b.Fam == fam && (addrR a && addrR b)))) := by
  unfold F_r05_Ends N_r05_Ends
  have e1 : F_r02_Right ⟨a.Fam, a.Hi, a.Lo⟩ = some (addrR a) := r_addr a ha
  have e2 : F_r02_Right ⟨b.Fam, b.Hi, b.Lo⟩ = some (addrR b) := r_addr b hb
  simp only [e1, e2, Ev.bnd_some]
  cases fam == 4 <;> cases fam == 6 <;> cases a.Fam == fam <;> cases b.Fam == fam <;> cases addrR a <;> cases addrR b <;> rfl

theorem tup_alt (t : T_api_Tuple) : tupR t = (((t.Fam == 4 || t.Fam == 6) && ((srcA t).Fam == t.Fam && ((dstA t).Fam == t.Fam && (addrR (srcA t) && addrR (dstA t))))) && ((t.Proto == 6 || (t.Proto == 17 || t.Proto == (bif t.Fam == 4 then 1 else 58))) && (inB 0 t.Sport 65535 && inB 0 t.Dport 65535))) := by
  unfold tupR protoR
  have h1 : (srcA t).Fam = t.Src_Fam := rfl
  have h2 : (dstA t).Fam = t.Dst_Fam := rfl
  rw [h1, h2]
  cases hs : t.Src_Fam == t.Fam
  · simp
  · have hs' : t.Src_Fam = t.Fam := by simpa using hs
    by_cases h4 : t.Fam = 4
    · rw [h4]
      have k46 : ((4 : Int) == 6) = false := rfl
      have k44 : ((4 : Int) == 4) = true := rfl
      simp only [k46, k44, cond_true, Bool.true_or, Bool.true_and, Bool.and_true, Bool.and_false, Bool.or_false]
      cases t.Dst_Fam == 4 <;> cases addrR (srcA t) <;> cases addrR (dstA t) <;> cases t.Proto == 6 <;> cases t.Proto == 17 <;> cases t.Proto == 1 <;> cases inB 0 t.Sport 65535 <;> cases inB 0 t.Dport 65535 <;> rfl
    · by_cases h6 : t.Fam = 6
      · rw [h6]
        have k64 : ((6 : Int) == 4) = false := rfl
        simp only [k64, k66, cond_false, Bool.true_or, Bool.or_true, Bool.true_and, Bool.and_true, Bool.and_false, Bool.or_false]
        cases t.Dst_Fam == 6 <;> cases addrR (srcA t) <;> cases addrR (dstA t) <;> cases t.Proto == 6 <;> cases t.Proto == 17 <;> cases t.Proto == 58 <;> cases inB 0 t.Sport 65535 <;> cases inB 0 t.Dport 65535 <;> rfl
      · have ha : addrR (srcA t) = false := by
          unfold addrR srcA
          rw [hs', beq_eq_false_iff_ne.2 h4, beq_eq_false_iff_ne.2 h6]
          rfl
        rw [ha]
        simp

theorem r_Right14 (t : T_api_Tuple) (h1 : 0 ≤ t.Src_Lo) (h2 : 0 ≤ t.Dst_Lo) : F_r14_Right t = some (tupR t) := by
  rw [tup_alt]
  unfold F_r14_Right N_r14_Right
  have e : F_r05_Ends t.Fam ⟨t.Src_Fam, t.Src_Hi, t.Src_Lo⟩ ⟨t.Dst_Fam, t.Dst_Hi, t.Dst_Lo⟩ = _ := r_Ends t.Fam (srcA t) (dstA t) h1 h2
  have ei : F_r05_Icmp t.Fam = some (bif t.Fam == 4 then 1 else 58) := by
    unfold F_r05_Icmp N_r05_Icmp
    cases t.Fam == 4 <;> rfl
  simp only [e, ei, Ev.bnd_some]
  generalize ((t.Fam == 4 || t.Fam == 6) && ((srcA t).Fam == t.Fam && ((dstA t).Fam == t.Fam && (addrR (srcA t) && addrR (dstA t))))) = c
  generalize (t.Proto == bif t.Fam == 4 then 1 else 58) = d
  unfold inB
  cases c <;> cases d <;> cases t.Proto == 6 <;> cases t.Proto == 17 <;> cases Ev.leI 0 t.Sport <;> cases Ev.leI t.Sport 65535 <;> cases Ev.leI 0 t.Dport <;> cases Ev.leI t.Dport 65535 <;> rfl

theorem r_in (x lo hi : Int) : F_r16_in x lo hi = some (inB lo x hi) := by
  unfold F_r16_in N_r16_in inB
  cases Ev.leI lo x <;> cases Ev.leI x hi <;> rfl

theorem r_Right16 (f : T_api_Flow) (h1 : 0 ≤ f.Tuple_Src_Lo) (h2 : 0 ≤ f.Tuple_Dst_Lo) : F_r16_Right f = some (flowR f) := by
  unfold F_r16_Right N_r16_Right
  have e : F_r14_Right ⟨f.Tuple_Fam, f.Tuple_Proto, f.Tuple_Src_Fam, f.Tuple_Src_Hi, f.Tuple_Src_Lo, f.Tuple_Dst_Fam, f.Tuple_Dst_Hi, f.Tuple_Dst_Lo, f.Tuple_Sport, f.Tuple_Dport⟩ = some (tupR (flT f)) := r_Right14 (flT f) h1 h2
  simp only [e, r_in, Ev.bnd_some]
  unfold flowR zC flC
  cases tupR (flT f) <;> cases inB 0 f.Ends 4611686018427387904 <;> cases inB 0 f.Help 3 <;> cases f.Tuple_Proto == 6 <;> simp

theorem r_life (f : T_api_Flow) : F_r16_life f = some (lifeV (flT f) (flC f) f.Both) := by
  unfold F_r16_life N_r16_life lifeV flT flC
  cases f.Tuple_Proto == 6 <;> cases f.Tuple_Proto == 17 <;> cases f.Both <;> rfl

theorem r_question (x : Int) : F_r16_question x = some (bif x == 4 then 8 else 128) := by
  unfold F_r16_question N_r16_question
  cases x == 4 <;> rfl
theorem r_answer (x : Int) : F_r16_answer x = some (bif x == 4 then 0 else 129) := by
  unfold F_r16_answer N_r16_answer
  cases x == 4 <;> rfl
theorem and_cond {α : Type} {a b : Bool} {x y : α} : (bif a then (bif b then x else y) else y) = bif (a && b) then x else y := by cases a <;> cases b <;> rfl

theorem r_Start (s : D_api_Seg) (now help : Int) (h1 : 0 ≤ s.Tuple_Src_Lo) (h2 : 0 ≤ s.Tuple_Dst_Lo) : F_r16_Start s now help = some (startV s now help) := by
  unfold F_r16_Start N_r16_Start startV
  have e : F_r14_Right ⟨s.Tuple_Fam, s.Tuple_Proto, s.Tuple_Src_Fam, s.Tuple_Src_Hi, s.Tuple_Src_Lo, s.Tuple_Dst_Fam, s.Tuple_Dst_Hi, s.Tuple_Dst_Lo, s.Tuple_Sport, s.Tuple_Dport⟩ = some (tupR (sgT s)) := r_Right14 (sgT s) h1 h2
  simp only [e, r_in, r_life, r_question, Ev.bnd_some, not_cond, ne_cond]
  cases ht : tupR (sgT s)
  · rfl
  cases inB 0 now 4611686018427384304
  · rfl
  cases inB 0 help 3
  · rfl
  simp only [cond_true, Bool.and_true]
  rcases tupR_proto ht with h | h | ⟨h, h2⟩ | ⟨h, h2⟩
  all_goals (have h' : s.Tuple_Proto = _ := h; simp only [h', k66, k617, k176, k1717, k171, k1758, k16, k117, k11, k586, k5817, k581, k5858, cond_true, cond_false, Bool.true_or, Bool.false_or])
  · cases (F_r15_Begin s.Flags s.Seq s.Win (Ev.dlen 1 s.Data)).2 == 0
    · rfl
    · simp only [keptV, sgT, flT, flC, mkF, h', cond_true]
  · simp only [keptV, sgT, flT, flC, mkF, h', z_Conn]
  · have hf : s.Tuple_Fam = 4 := h2
    have e4 : echoV s 0 = (s.Type_ == 8 && s.Code == 0) := by unfold echoV; rw [hf]; rfl
    rw [e4, hf]
    change (bif s.Type_ == 8 then (bif s.Code == 0 then _ else _) else _) = _
    cases s.Type_ == 8 <;> cases s.Code == 0
    all_goals first | rfl | simp only [keptV, sgT, flT, flC, mkF, h', hf, z_Conn, cond_true, Bool.and_true]
  · have hf : s.Tuple_Fam = 6 := h2
    have e4 : echoV s 0 = (s.Type_ == 128 && s.Code == 0) := by unfold echoV; rw [hf]; rfl
    rw [e4, hf]
    change (bif s.Type_ == 128 then (bif s.Code == 0 then _ else _) else _) = _
    cases s.Type_ == 128 <;> cases s.Code == 0
    all_goals first | rfl | simp only [keptV, sgT, flT, flC, mkF, h', hf, z_Conn, cond_true, Bool.and_true]

theorem r_Go (f : T_api_Flow) (side : Int) (s : D_api_Seg) (now : Int) (h1 : 0 ≤ f.Tuple_Src_Lo) (h2 : 0 ≤ f.Tuple_Dst_Lo) : F_r16_Go f side s now = some (goV f side s now) := by
  unfold F_r16_Go N_r16_Go goV
  have hrev : ∀ t, F_r14_Reverse t = some (revT t) := fun _ => rfl
  have e : F_r16_Right ⟨f.Tuple_Fam, f.Tuple_Proto, f.Tuple_Src_Fam, f.Tuple_Src_Hi, f.Tuple_Src_Lo, f.Tuple_Dst_Fam, f.Tuple_Dst_Hi, f.Tuple_Dst_Lo, f.Tuple_Sport, f.Tuple_Dport, f.Conn_State, f.Conn_Next_c0, f.Conn_Next_c1, f.Conn_Edge_c0, f.Conn_Edge_c1, f.Conn_Known_c0, f.Conn_Known_c1, f.Conn_Ended_c0, f.Conn_Ended_c1, f.Ends, f.Help, f.Both⟩ = some (flowR f) := r_Right16 f h1 h2
  simp only [e, r_in, r_life, r_question, r_answer, hrev, Ev.bnd_some, not_cond, ne_cond]
  cases hf : flowR f
  · rfl
  cases hs : inB 0 side 1
  · rfl
  cases inB 0 now 4611686018427384304
  · rfl
  simp only [cond_true, Bool.and_true]
  have hp := tupR_proto (flowR_tup hf)
  rcases inB_side.1 hs with rfl | rfl
  · simp only [k01, cond_false]
    change (bif eqT (sgT s) (flT f) then _ else _) = _
    cases heq : eqT (sgT s) (flT f)
    · rfl
    have hfam : s.Tuple_Fam = f.Tuple_Fam := by
      unfold eqT at heq
      simp only [Bool.and_eq_true, beq_iff_eq] at heq
      exact heq.1
    rcases hp with h | h | ⟨h, h2⟩ | ⟨h, h2⟩
    all_goals (have h' : f.Tuple_Proto = _ := h; simp only [h', k66, k617, k176, k1717, k171, k1758, k16, k117, k11, k586, k5817, k581, k5858, cond_true, cond_false, Bool.true_or, Bool.false_or, Bool.or_false])
    · change (bif (F_r15_Step (flC f) 0 (sgm s)).2 == 0 then _ else _) = _
      cases (F_r15_Step (flC f) 0 (sgm s)).2 == 0
      · rfl
      · cases hb : f.Both <;> simp only [keptV, flT, flC, mkF, h', hb, cond_true, cond_false] <;> rfl
    · cases hb : f.Both <;> simp only [keptV, flT, flC, mkF, h', hb, cond_true, cond_false]
    · have hf4 : f.Tuple_Fam = 4 := h2
      have e4 : echoV s 0 = (s.Type_ == 8 && s.Code == 0) := by unfold echoV; rw [hfam, hf4]; rfl
      rw [e4, hf4]
      change (bif s.Type_ == 8 then (bif s.Code == 0 then _ else _) else _) = _
      cases s.Type_ == 8 <;> cases s.Code == 0 <;> cases hb : f.Both
      all_goals first | rfl | simp only [keptV, flT, flC, mkF, h', hf4, hb, cond_true, cond_false, Bool.and_true]
    · have hf4 : f.Tuple_Fam = 6 := h2
      have e4 : echoV s 0 = (s.Type_ == 128 && s.Code == 0) := by unfold echoV; rw [hfam, hf4]; rfl
      rw [e4, hf4]
      change (bif s.Type_ == 128 then (bif s.Code == 0 then _ else _) else _) = _
      cases s.Type_ == 128 <;> cases s.Code == 0 <;> cases hb : f.Both
      all_goals first | rfl | simp only [keptV, flT, flC, mkF, h', hf4, hb, cond_true, cond_false, Bool.and_true]
  · simp only [k11, cond_true, Bool.or_true]
    change (bif eqT (sgT s) (revT (flT f)) then _ else _) = _
    cases heq : eqT (sgT s) (revT (flT f))
    · rfl
    have hfam : s.Tuple_Fam = f.Tuple_Fam := by
      unfold eqT at heq
      simp only [Bool.and_eq_true, beq_iff_eq] at heq
      exact heq.1
    rcases hp with h | h | ⟨h, h2⟩ | ⟨h, h2⟩
    all_goals (have h' : f.Tuple_Proto = _ := h; simp only [h', k66, k617, k176, k1717, k171, k1758, k16, k117, k11, k586, k5817, k581, k5858, cond_true, cond_false, Bool.true_or, Bool.false_or, Bool.or_false])
    · change (bif (F_r15_Step (flC f) 1 (sgm s)).2 == 0 then _ else _) = _
      cases (F_r15_Step (flC f) 1 (sgm s)).2 == 0
      · rfl
      · cases hb : f.Both <;> simp only [keptV, flT, flC, mkF, h', hb, cond_true, cond_false] <;> rfl
    · cases hb : f.Both <;> simp only [keptV, flT, flC, mkF, h', hb, cond_true, cond_false]
    · have hf4 : f.Tuple_Fam = 4 := h2
      have e4 : echoV s 1 = (s.Type_ == 0 && s.Code == 0) := by unfold echoV; rw [hfam, hf4]; rfl
      rw [e4, hf4]
      change (bif s.Type_ == 0 then (bif s.Code == 0 then _ else _) else _) = _
      cases s.Type_ == 0 <;> cases s.Code == 0 <;> cases hb : f.Both
      all_goals first | rfl | simp only [keptV, flT, flC, mkF, h', hf4, hb, cond_true, cond_false, Bool.and_true]
    · have hf4 : f.Tuple_Fam = 6 := h2
      have e4 : echoV s 1 = (s.Type_ == 129 && s.Code == 0) := by unfold echoV; rw [hfam, hf4]; rfl
      rw [e4, hf4]
      change (bif s.Type_ == 129 then (bif s.Code == 0 then _ else _) else _) = _
      cases s.Type_ == 129 <;> cases s.Code == 0 <;> cases hb : f.Both
      all_goals first | rfl | simp only [keptV, flT, flC, mkF, h', hf4, hb, cond_true, cond_false, Bool.and_true]
theorem lawd_FlowRights (x0 : T_api_Flow) (x1 : D_api_Seg) (x2 : Int) (r0 : IntKind.i64.has x0.Tuple_Fam ∧ IntKind.i64.has x0.Tuple_Proto ∧ IntKind.i64.has x0.Tuple_Src_Fam ∧ IntKind.u64.has x0.Tuple_Src_Hi ∧ IntKind.u64.has x0.Tuple_Src_Lo ∧ IntKind.i64.has x0.Tuple_Dst_Fam ∧ IntKind.u64.has x0.Tuple_Dst_Hi ∧ IntKind.u64.has x0.Tuple_Dst_Lo ∧ IntKind.i64.has x0.Tuple_Sport ∧ IntKind.i64.has x0.Tuple_Dport ∧ IntKind.i64.has x0.Conn_State ∧ IntKind.u32.has x0.Conn_Next_c0 ∧ IntKind.u32.has x0.Conn_Next_c1 ∧ IntKind.u32.has x0.Conn_Edge_c0 ∧ IntKind.u32.has x0.Conn_Edge_c1 ∧ IntKind.i64.has x0.Ends ∧ IntKind.i64.has x0.Help) (r1 : IntKind.i64.has x1.Tuple_Fam ∧ IntKind.i64.has x1.Tuple_Proto ∧ IntKind.i64.has x1.Tuple_Src_Fam ∧ IntKind.u64.has x1.Tuple_Src_Hi ∧ IntKind.u64.has x1.Tuple_Src_Lo ∧ IntKind.i64.has x1.Tuple_Dst_Fam ∧ IntKind.u64.has x1.Tuple_Dst_Hi ∧ IntKind.u64.has x1.Tuple_Dst_Lo ∧ IntKind.i64.has x1.Tuple_Sport ∧ IntKind.i64.has x1.Tuple_Dport ∧ IntKind.i64.has x1.Flags ∧ IntKind.u32.has x1.Seq ∧ IntKind.u32.has x1.Ack ∧ IntKind.i64.has x1.Win ∧ IntKind.i64.has x1.Type_ ∧ IntKind.i64.has x1.Code ∧ IntKind.i64.has x1.Inner_Fam ∧ IntKind.i64.has x1.Inner_Proto ∧ IntKind.i64.has x1.Inner_Src_Fam ∧ IntKind.u64.has x1.Inner_Src_Hi ∧ IntKind.u64.has x1.Inner_Src_Lo ∧ IntKind.i64.has x1.Inner_Dst_Fam ∧ IntKind.u64.has x1.Inner_Dst_Hi ∧ IntKind.u64.has x1.Inner_Dst_Lo ∧ IntKind.i64.has x1.Inner_Sport ∧ IntKind.i64.has x1.Inner_Dport ∧ Ev.SlT 1 [.k (.int .u8)] x1.Data) (r2 : IntKind.i64.has x2) : F_law16_FlowRights x0 x1 x2 = some true := by
  unfold F_law16_FlowRights N_law16_FlowRights
  have h1 : 0 ≤ x0.Tuple_Src_Lo := r0.2.2.2.2.1.1
  have h2 : 0 ≤ x0.Tuple_Dst_Lo := r0.2.2.2.2.2.2.2.1.1
  have h3 : 0 ≤ x1.Tuple_Src_Lo := r1.2.2.2.2.1.1
  have h4 : 0 ≤ x1.Tuple_Dst_Lo := r1.2.2.2.2.2.2.2.1.1
  change Ev.bnd (F_flow_Start x1 x2 x0.Help) (fun v0 => Ev.bnd (F_r16_Start x1 x2 x0.Help) fun v1 => Ev.bnd (F_flow_Right x0) fun v2 => Ev.bnd (F_r16_Right x0) fun v3 => _) = _
  rw [q_Start, r_Start _ _ _ h3 h4, q_flow_Right, r_Right16 _ h1 h2]
  simp only [Ev.bnd_some, beq_self_eq_true, Bool.and_true, Bool.true_and, cond_true]
  rfl

theorem lawd_FlowGoes (x0 : T_api_Flow) (x1 : D_api_Seg) (x2 : T_law17_Caps) (r0 : IntKind.i64.has x0.Tuple_Fam ∧ IntKind.i64.has x0.Tuple_Proto ∧ IntKind.i64.has x0.Tuple_Src_Fam ∧ IntKind.u64.has x0.Tuple_Src_Hi ∧ IntKind.u64.has x0.Tuple_Src_Lo ∧ IntKind.i64.has x0.Tuple_Dst_Fam ∧ IntKind.u64.has x0.Tuple_Dst_Hi ∧ IntKind.u64.has x0.Tuple_Dst_Lo ∧ IntKind.i64.has x0.Tuple_Sport ∧ IntKind.i64.has x0.Tuple_Dport ∧ IntKind.i64.has x0.Conn_State ∧ IntKind.u32.has x0.Conn_Next_c0 ∧ IntKind.u32.has x0.Conn_Next_c1 ∧ IntKind.u32.has x0.Conn_Edge_c0 ∧ IntKind.u32.has x0.Conn_Edge_c1 ∧ IntKind.i64.has x0.Ends ∧ IntKind.i64.has x0.Help) (r1 : IntKind.i64.has x1.Tuple_Fam ∧ IntKind.i64.has x1.Tuple_Proto ∧ IntKind.i64.has x1.Tuple_Src_Fam ∧ IntKind.u64.has x1.Tuple_Src_Hi ∧ IntKind.u64.has x1.Tuple_Src_Lo ∧ IntKind.i64.has x1.Tuple_Dst_Fam ∧ IntKind.u64.has x1.Tuple_Dst_Hi ∧ IntKind.u64.has x1.Tuple_Dst_Lo ∧ IntKind.i64.has x1.Tuple_Sport ∧ IntKind.i64.has x1.Tuple_Dport ∧ IntKind.i64.has x1.Flags ∧ IntKind.u32.has x1.Seq ∧ IntKind.u32.has x1.Ack ∧ IntKind.i64.has x1.Win ∧ IntKind.i64.has x1.Type_ ∧ IntKind.i64.has x1.Code ∧ IntKind.i64.has x1.Inner_Fam ∧ IntKind.i64.has x1.Inner_Proto ∧ IntKind.i64.has x1.Inner_Src_Fam ∧ IntKind.u64.has x1.Inner_Src_Hi ∧ IntKind.u64.has x1.Inner_Src_Lo ∧ IntKind.i64.has x1.Inner_Dst_Fam ∧ IntKind.u64.has x1.Inner_Dst_Hi ∧ IntKind.u64.has x1.Inner_Dst_Lo ∧ IntKind.i64.has x1.Inner_Sport ∧ IntKind.i64.has x1.Inner_Dport ∧ Ev.SlT 1 [.k (.int .u8)] x1.Data) (r2 : IntKind.i64.has x2.c0 ∧ IntKind.i64.has x2.c1) : F_law16_FlowGoes x0 x1 x2 = some true := by
  unfold F_law16_FlowGoes N_law16_FlowGoes
  have h1 : 0 ≤ x0.Tuple_Src_Lo := r0.2.2.2.2.1.1
  have h2 : 0 ≤ x0.Tuple_Dst_Lo := r0.2.2.2.2.2.2.2.1.1
  change Ev.bnd (F_flow_Go x0 x2.c0 x1 x2.c1) (fun v0 => Ev.bnd (F_r16_Go x0 x2.c0 x1 x2.c1) fun v1 => _) = _
  rw [q_Go, r_Go _ _ _ _ h1 h2]
  simp only [Ev.bnd_some, beq_self_eq_true, Bool.and_true, Bool.true_and, cond_true]
  rfl

end Go.Proofs.Yteljeekapcenlaa
