/-
  Flows, by plain values: what may be, what begins, what goes on. No conditions.
-/
import Derived.Test.YteljeekapcenlaaFa
import Derived.Test.YteljeekapcenlaaPs
namespace Go.Proofs.Yteljeekapcenlaa
open Go
set_option linter.unusedVariables false
set_option linter.unusedSimpArgs false

def addrR (x : T_api_Addr) : Bool := bif x.Fam == 4 then (x.Hi == 0 && Int.fdiv x.Lo 4294967296 == 0) else x.Fam == 6
def srcA (t : T_api_Tuple) : T_api_Addr := ⟨t.Src_Fam, t.Src_Hi, t.Src_Lo⟩
def dstA (t : T_api_Tuple) : T_api_Addr := ⟨t.Dst_Fam, t.Dst_Hi, t.Dst_Lo⟩
def protoR (f p : Int) : Bool := p == 6 || p == 17 || (p == 1 && f == 4) || (p == 58 && f == 6)
noncomputable def inB (lo x hi : Int) : Bool := Ev.leI lo x && Ev.leI x hi
noncomputable def tupR (t : T_api_Tuple) : Bool :=
  t.Src_Fam == t.Fam && t.Dst_Fam == t.Fam && addrR (srcA t) && addrR (dstA t) && protoR t.Fam t.Proto && inB 0 t.Sport 65535 && inB 0 t.Dport 65535

theorem q_addr_Right (x : T_api_Addr) : F_addr_Right x = some (addrR x) := by
  unfold F_addr_Right N_addr_Right addrR
  cases x.Fam == 4 <;> cases x.Fam == 6 <;> cases x.Hi == 0 <;> cases (Int.fdiv x.Lo 4294967296 == 0) <;> rfl

theorem q_word (f p : Int) : ∃ w, F_tuple_word f p = some w ∧ (!(ByteArray.toList w == [])) = protoR f p := by
  unfold F_tuple_word N_tuple_word protoR
  cases p == 6 <;> cases p == 17 <;> cases p == 1 <;> cases f == 4 <;> cases p == 58 <;> cases f == 6 <;> exact ⟨_, rfl, by kernel_rfl⟩

theorem q_port (n : Int) : F_tuple_port n = some (inB 0 n 65535) := by
  unfold F_tuple_port N_tuple_port inB
  cases Ev.leI 0 n <;> cases Ev.leI n 65535 <;> rfl

theorem q_within (n m : Int) : F_flow_within n m = some (inB 0 n m) := by
  unfold F_flow_within N_flow_within inB
  cases Ev.leI 0 n <;> cases Ev.leI n m <;> rfl

theorem q_tuple_Right (t : T_api_Tuple) : F_tuple_Right t = some (tupR t) := by
  unfold F_tuple_Right N_tuple_Right
  obtain ⟨w, hw, hp⟩ := q_word t.Fam t.Proto
  simp only [q_addr_Right, hw, q_port, Ev.bnd_some, hp]
  unfold tupR srcA dstA
  cases t.Src_Fam == t.Fam <;> cases t.Dst_Fam == t.Fam <;> cases addrR ⟨t.Src_Fam, t.Src_Hi, t.Src_Lo⟩ <;> cases addrR ⟨t.Dst_Fam, t.Dst_Hi, t.Dst_Lo⟩ <;> cases protoR t.Fam t.Proto <;> cases inB 0 t.Sport 65535 <;> cases inB 0 t.Dport 65535 <;> rfl

theorem proto_of {f p : Int} (h : protoR f p = true) : p = 6 ∨ p = 17 ∨ (p = 1 ∧ f = 4) ∨ (p = 58 ∧ f = 6) := by
  unfold protoR at h
  simp only [Bool.or_eq_true, Bool.and_eq_true, beq_iff_eq] at h
  rcases h with ((h | h) | h) | h
  · exact .inl h
  · exact .inr (.inl h)
  · exact .inr (.inr (.inl h))
  · exact .inr (.inr (.inr h))

theorem tupR_proto {t : T_api_Tuple} (h : tupR t = true) : t.Proto = 6 ∨ t.Proto = 17 ∨ (t.Proto = 1 ∧ t.Fam = 4) ∨ (t.Proto = 58 ∧ t.Fam = 6) := by
  unfold tupR at h
  simp only [Bool.and_eq_true] at h
  exact proto_of h.1.1.2
theorem tupR_fam {t : T_api_Tuple} (h : tupR t = true) : t.Fam = 4 ∨ t.Fam = 6 := by
  unfold tupR addrR srcA at h
  simp only [Bool.and_eq_true, beq_iff_eq] at h
  have h1 := h.1.1.1.1.2
  have h2 := h.1.1.1.1.1.1
  rw [h2] at h1
  by_cases q : t.Fam = 4
  · exact .inl q
  · rw [beq_eq_false_iff_ne.2 q] at h1
    exact .inr (by simpa using h1)

def flT (f : T_api_Flow) : T_api_Tuple := ⟨f.Tuple_Fam, f.Tuple_Proto, f.Tuple_Src_Fam, f.Tuple_Src_Hi, f.Tuple_Src_Lo, f.Tuple_Dst_Fam, f.Tuple_Dst_Hi, f.Tuple_Dst_Lo, f.Tuple_Sport, f.Tuple_Dport⟩
def flC (f : T_api_Flow) : T_api_Conn := ⟨f.Conn_State, f.Conn_Next_c0, f.Conn_Next_c1, f.Conn_Edge_c0, f.Conn_Edge_c1, f.Conn_Known_c0, f.Conn_Known_c1, f.Conn_Ended_c0, f.Conn_Ended_c1⟩
def sgT (s : D_api_Seg) : T_api_Tuple := ⟨s.Tuple_Fam, s.Tuple_Proto, s.Tuple_Src_Fam, s.Tuple_Src_Hi, s.Tuple_Src_Lo, s.Tuple_Dst_Fam, s.Tuple_Dst_Hi, s.Tuple_Dst_Lo, s.Tuple_Sport, s.Tuple_Dport⟩
def mkF (t : T_api_Tuple) (c : T_api_Conn) (ends help : Int) (both : Bool) : T_api_Flow :=
  ⟨t.Fam, t.Proto, t.Src_Fam, t.Src_Hi, t.Src_Lo, t.Dst_Fam, t.Dst_Hi, t.Dst_Lo, t.Sport, t.Dport, c.State, c.Next_c0, c.Next_c1, c.Edge_c0, c.Edge_c1, c.Known_c0, c.Known_c1, c.Ended_c0, c.Ended_c1, ends, help, both⟩
def revT (t : T_api_Tuple) : T_api_Tuple := ⟨t.Fam, t.Proto, t.Dst_Fam, t.Dst_Hi, t.Dst_Lo, t.Src_Fam, t.Src_Hi, t.Src_Lo, t.Dport, t.Sport⟩
def zC (c : T_api_Conn) : Bool := c.State == 0 && (c.Next_c0 == 0 && (c.Next_c1 == 0 && (c.Edge_c0 == 0 && (c.Edge_c1 == 0 && (c.Known_c0 == false && (c.Known_c1 == false && (c.Ended_c0 == false && c.Ended_c1 == false)))))))
def z_flow : T_api_Flow := mkF ⟨0, 0, 0, 0, 0, 0, 0, 0, 0, 0⟩ z_Conn 0 0 false
noncomputable def flowR (f : T_api_Flow) : Bool := tupR (flT f) && (inB 0 f.Ends 4611686018427387904 && (inB 0 f.Help 3 && (bif f.Tuple_Proto == 6 then F_r15_Right (flC f) else zC (flC f))))

theorem q_flow_Right (f : T_api_Flow) : F_flow_Right f = some (flowR f) := by
  unfold F_flow_Right N_flow_Right
  simp only [q_tuple_Right, q_within, Ev.bnd_some, a_Right]
  unfold flowR flT flC zC
  cases tupR ⟨f.Tuple_Fam, f.Tuple_Proto, f.Tuple_Src_Fam, f.Tuple_Src_Hi, f.Tuple_Src_Lo, f.Tuple_Dst_Fam, f.Tuple_Dst_Hi, f.Tuple_Dst_Lo, f.Tuple_Sport, f.Tuple_Dport⟩ <;> cases inB 0 f.Ends 4611686018427387904 <;> cases inB 0 f.Help 3 <;> cases f.Tuple_Proto == 6 <;> simp

noncomputable def lifeV (t : T_api_Tuple) (c : T_api_Conn) (both : Bool) : Int := bif t.Proto == 6 then F_r15_Life c else bif t.Proto == 17 then (bif both then 180 else 30) else 10
noncomputable def keptV (t : T_api_Tuple) (c : T_api_Conn) (help : Int) (both : Bool) (now : Int) : T_api_Flow := mkF t c (IntKind.wrap .i64 (now + lifeV t c both)) help both

theorem q_kept (f : T_api_Flow) (now : Int) : F_flow_kept f now = some (keptV (flT f) (flC f) f.Help f.Both now) := by
  unfold F_flow_kept N_flow_kept keptV lifeV mkF flT flC
  simp only [a_Life]
  cases f.Tuple_Proto == 6 <;> cases f.Tuple_Proto == 17 <;> cases f.Both <;> rfl

noncomputable def echoV (s : D_api_Seg) (side : Int) : Bool :=
  (s.Type_ == (bif side == 0 then (bif s.Tuple_Fam == 6 then 128 else 8) else (bif s.Tuple_Fam == 6 then 129 else 0))) && s.Code == 0
theorem q_echo0 (s : D_api_Seg) : F_flow_echo s 0 = some (echoV s 0) := by
  unfold F_flow_echo N_flow_echo__v0 echoV
  cases s.Tuple_Fam == 6 <;> simp <;> cases s.Type_ == 128 <;> cases s.Type_ == 8 <;> simp
theorem q_echo1 (s : D_api_Seg) : F_flow_echo s 1 = some (echoV s 1) := by
  unfold F_flow_echo N_flow_echo__v1 echoV
  cases s.Tuple_Fam == 6 <;> simp <;> cases s.Type_ == 129 <;> cases s.Type_ == 0 <;> simp

noncomputable def startV (s : D_api_Seg) (now help : Int) : T_api_Flow × Int :=
  bif tupR (sgT s) && (inB 0 now 4611686018427384304 && inB 0 help 3) then
    bif s.Tuple_Proto == 6 then
      bif (F_r15_Begin s.Flags s.Seq s.Win (Ev.dlen 1 s.Data)).2 == 0 then (keptV (sgT s) (F_r15_Begin s.Flags s.Seq s.Win (Ev.dlen 1 s.Data)).1 help false now, 0)
      else (z_flow, (F_r15_Begin s.Flags s.Seq s.Win (Ev.dlen 1 s.Data)).2)
    else bif s.Tuple_Proto == 17 || echoV s 0 then (keptV (sgT s) z_Conn help false now, 0) else (z_flow, 23)
  else (z_flow, 1)

theorem ne_cond {α : Type} {a b : Int} {x y : α} : (bif a != b then x else y) = bif a == b then y else x := by
  cases h : a == b <;> simp [bne, h]
theorem not_cond {α : Type} {c : Bool} {x y : α} : (bif !c then x else y) = bif c then y else x := by cases c <;> rfl
theorem k66 : ((6 : Int) == 6) = true := rfl
theorem k617 : ((6 : Int) == 17) = false := rfl
theorem k176 : ((17 : Int) == 6) = false := rfl
theorem k1717 : ((17 : Int) == 17) = true := rfl
theorem k171 : ((17 : Int) == 1) = false := rfl
theorem k1758 : ((17 : Int) == 58) = false := rfl
theorem k16 : ((1 : Int) == 6) = false := rfl
theorem k117 : ((1 : Int) == 17) = false := rfl
theorem k11 : ((1 : Int) == 1) = true := rfl
theorem k586 : ((58 : Int) == 6) = false := rfl
theorem k5817 : ((58 : Int) == 17) = false := rfl
theorem k581 : ((58 : Int) == 1) = false := rfl
theorem k5858 : ((58 : Int) == 58) = true := rfl
theorem k01 : ((0 : Int) == 1) = false := rfl

theorem q_Start (s : D_api_Seg) (now help : Int) : F_flow_Start s now help = some (startV s now help) := by
  unfold F_flow_Start N_flow_Start startV
  simp only [q_tuple_Right, q_within, Ev.bnd_some, a_Begin, q_kept, q_echo0, not_cond, ne_cond]
  change (bif tupR (sgT s) then _ else _) = _
  cases ht : tupR (sgT s)
  · rfl
  cases inB 0 now 4611686018427384304
  · rfl
  cases inB 0 help 3
  · rfl
  simp only [cond_true, Bool.and_true]
  rcases tupR_proto ht with h | h | ⟨h, h2⟩ | ⟨h, h2⟩
  all_goals (have h' : s.Tuple_Proto = _ := h; simp only [h', k66, k617, k176, k1717, k171, k1758, k16, k117, k11, k586, k5817, k581, k5858, cond_true, cond_false, Bool.true_or, Bool.false_or])
  · cases (F_r15_Begin s.Flags s.Seq s.Win (Ev.dlen 1 s.Data)).2 == 0
    · rfl
    · simp only [keptV, sgT, flT, flC, mkF, h', cond_true]
  · simp only [keptV, sgT, flT, flC, mkF, h', z_Conn]
  · cases echoV s 0
    · rfl
    · simp only [keptV, sgT, flT, flC, mkF, h', z_Conn, cond_true]
  · cases echoV s 0
    · rfl
    · simp only [keptV, sgT, flT, flC, mkF, h', z_Conn, cond_true]

def eqT (a b : T_api_Tuple) : Bool := a.Fam == b.Fam && (a.Proto == b.Proto && (a.Src_Fam == b.Src_Fam && (a.Src_Hi == b.Src_Hi && (a.Src_Lo == b.Src_Lo && (a.Dst_Fam == b.Dst_Fam && (a.Dst_Hi == b.Dst_Hi && (a.Dst_Lo == b.Dst_Lo && (a.Sport == b.Sport && a.Dport == b.Dport))))))))
noncomputable def sgm (s : D_api_Seg) : T_r15_Segment := ⟨s.Flags, s.Win, Ev.dlen 1 s.Data, s.Seq, s.Ack⟩
noncomputable def goV (f : T_api_Flow) (side : Int) (s : D_api_Seg) (now : Int) : T_api_Flow × Int :=
  bif flowR f && (inB 0 side 1 && inB 0 now 4611686018427384304) then
    bif eqT (sgT s) (bif side == 1 then revT (flT f) else flT f) then
      bif f.Tuple_Proto == 6 then
        bif (F_r15_Step (flC f) side (sgm s)).2 == 0 then (keptV (flT f) (F_r15_Step (flC f) side (sgm s)).1 f.Help (f.Both || side == 1) now, 0)
        else (z_flow, (F_r15_Step (flC f) side (sgm s)).2)
      else bif f.Tuple_Proto == 17 || echoV s side then (keptV (flT f) (flC f) f.Help (f.Both || side == 1) now, 0) else (z_flow, 23)
    else (z_flow, 23)
  else (z_flow, 1)

theorem flowR_tup {f : T_api_Flow} (h : flowR f = true) : tupR (flT f) = true := by
  unfold flowR at h
  simp only [Bool.and_eq_true] at h
  exact h.1
theorem inB_side {x : Int} : inB 0 x 1 = true ↔ x = 0 ∨ x = 1 := by
  unfold inB
  rw [Ev.leI_eq, Ev.leI_eq]
  simp
  omega


theorem q_Go (f : T_api_Flow) (side : Int) (s : D_api_Seg) (now : Int) : F_flow_Go f side s now = some (goV f side s now) := by
  unfold F_flow_Go N_flow_Go goV
  have hrev : ∀ t, F_tuple_Reverse t = some (revT t) := fun _ => rfl
  simp only [q_flow_Right, q_within, Ev.bnd_some, a_Step, q_kept, hrev, not_cond, ne_cond]
  change (bif flowR f then _ else _) = _
  cases hf : flowR f
  · rfl
  cases hs : inB 0 side 1
  · rfl
  cases inB 0 now 4611686018427384304
  · rfl
  simp only [cond_true, Bool.and_true]
  have hp := tupR_proto (flowR_tup hf)
  rcases inB_side.1 hs with rfl | rfl
  · simp only [k01, cond_false, q_echo0, Ev.bnd_some, not_cond]
    change (bif eqT (sgT s) (flT f) then _ else _) = _
    cases eqT (sgT s) (flT f)
    · rfl
    rcases hp with h | h | ⟨h, h2⟩ | ⟨h, h2⟩
    all_goals (have h' : f.Tuple_Proto = _ := h; simp only [h', k66, k617, k176, k1717, k171, k1758, k16, k117, k11, k586, k5817, k581, k5858, cond_true, cond_false, Bool.true_or, Bool.false_or, Bool.or_false])
    · change (bif (F_r15_Step (flC f) 0 (sgm s)).2 == 0 then _ else _) = _
      cases (F_r15_Step (flC f) 0 (sgm s)).2 == 0
      · rfl
      · cases hb : f.Both <;> simp only [keptV, flT, flC, mkF, h', hb, cond_true, cond_false] <;> rfl
    · cases hb : f.Both <;> simp only [keptV, flT, flC, mkF, h', hb, cond_true, cond_false]
    · change (bif echoV s 0 then _ else _) = _
      cases echoV s 0
      · rfl
      · cases hb : f.Both <;> simp only [keptV, flT, flC, mkF, h', hb, cond_true, cond_false]
    · change (bif echoV s 0 then _ else _) = _
      cases echoV s 0
      · rfl
      · cases hb : f.Both <;> simp only [keptV, flT, flC, mkF, h', hb, cond_true, cond_false]
  · simp only [k11, cond_true, q_echo1, Ev.bnd_some, not_cond, Bool.or_true]
    change (bif eqT (sgT s) (revT (flT f)) then _ else _) = _
    cases eqT (sgT s) (revT (flT f))
    · rfl
    rcases hp with h | h | ⟨h, h2⟩ | ⟨h, h2⟩
    all_goals (have h' : f.Tuple_Proto = _ := h; simp only [revT, flT, h', k66, k617, k176, k1717, k171, k1758, k16, k117, k11, k586, k5817, k581, k5858, cond_true, cond_false, Bool.true_or, Bool.false_or, Bool.or_false])
    · change (bif (F_r15_Step (flC f) 1 (sgm s)).2 == 0 then _ else _) = _
      cases (F_r15_Step (flC f) 1 (sgm s)).2 == 0
      · rfl
      · cases hb : f.Both <;> simp only [keptV, flT, flC, mkF, h', hb, cond_true, cond_false] <;> rfl
    · cases hb : f.Both <;> simp only [keptV, flT, flC, mkF, h', hb, cond_true, cond_false]
    · change (bif echoV s 1 then _ else _) = _
      cases echoV s 1
      · rfl
      · cases hb : f.Both <;> simp only [keptV, flT, flC, mkF, h', hb, cond_true, cond_false]
    · change (bif echoV s 1 then _ else _) = _
      cases echoV s 1
      · rfl
      · cases hb : f.Both <;> simp only [keptV, flT, flC, mkF, h', hb, cond_true, cond_false]
end Go.Proofs.Yteljeekapcenlaa
