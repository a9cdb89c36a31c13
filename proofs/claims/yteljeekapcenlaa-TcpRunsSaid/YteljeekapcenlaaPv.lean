/-
  Streams: what an opened stream is, and which segments it refuses. No conditions.
-/
import Derived.Test.YteljeekapcenlaaTc
import Derived.Test.YteljeekapcenlaaPs
namespace Go.Proofs.Yteljeekapcenlaa
open Go
set_option linter.unusedSimpArgs false
set_option linter.unusedVariables false
set_option maxHeartbeats 4000000

theorem From_eq (a b : Int) : F_r15_From a b = decide ((a - b) % 4294967296 < 2147483648) := by
  show Ev.ltI (IntKind.u32.wrap (a - b)) 2147483648 = _
  rw [Ev.ltI_eq, w_u32]

theorem End_eq (g : T_r15_Segment) : ∃ k : Int, 0 ≤ k ∧ k ≤ 2 ∧ F_r15_End g = (g.Seq + g.Size + k) % 4294967296 := by
  show ∃ k : Int, 0 ≤ k ∧ k ≤ 2 ∧ G_r15_End (fun x => x) g = _
  unfold G_r15_End
  simp only [w_u32]
  generalize (Ev.bitsOp .and .i64 g.Flags 1 != 0) = p1
  generalize (Ev.bitsOp .and .i64 g.Flags 2 != 0) = p2
  cases p1 <;> cases p2 <;> simp only [cond_true, cond_false]
  · exact ⟨0, by omega, by omega, by omega⟩
  · exact ⟨1, by omega, by omega, by omega⟩
  · exact ⟨1, by omega, by omega, by omega⟩
  · exact ⟨2, by omega, by omega, by omega⟩

theorem End_plain (s a w : Int) : F_r15_End ⟨16, w, 0, s, a⟩ = s % 4294967296 := by
  show G_r15_End (fun x => x) ⟨16, w, 0, s, a⟩ = _
  unfold G_r15_End
  have h1 : (Ev.bitsOp .and .i64 16 1 != 0) = false := by kernel_rfl
  have h2 : (Ev.bitsOp .and .i64 16 2 != 0) = false := by kernel_rfl
  simp only [h1, h2, cond_false, w_u32]; omega
theorem End_syn (s a w : Int) : F_r15_End ⟨18, w, 0, s, a⟩ = (s + 1) % 4294967296 := by
  show G_r15_End (fun x => x) ⟨18, w, 0, s, a⟩ = _
  unfold G_r15_End
  have h1 : (Ev.bitsOp .and .i64 18 1 != 0) = false := by kernel_rfl
  have h2 : (Ev.bitsOp .and .i64 18 2 != 0) = true := by kernel_rfl
  simp only [h1, h2, cond_false, cond_true, w_u32]; omega

theorem window0 (c : T_api_Conn) (g : T_r15_Segment) : F_r15_window c (.ofNat 0) g = (c.Known_c0 && (F_r15_From (F_r15_End g) (IntKind.u32.wrap (c.Next_c0 - 65535)) && F_r15_From c.Edge_c0 (F_r15_End g))) := by
  show G_r15_windowv0 (fun x => x) F_r15_End F_r15_From c g = _
  unfold G_r15_windowv0
  generalize c.Known_c0 = x
  generalize F_r15_From (F_r15_End _) _ = y
  cases x <;> cases y <;> rfl
theorem window1 (c : T_api_Conn) (g : T_r15_Segment) : F_r15_window c (.ofNat 1) g = (c.Known_c1 && (F_r15_From (F_r15_End g) (IntKind.u32.wrap (c.Next_c1 - 65535)) && F_r15_From c.Edge_c1 (F_r15_End g))) := by
  show G_r15_windowv1 (fun x => x) F_r15_End F_r15_From c g = _
  unfold G_r15_windowv1
  generalize c.Known_c1 = x
  generalize F_r15_From (F_r15_End _) _ = y
  cases x <;> cases y <;> rfl

/-- a stream behind its handshake -/
def oc (a b e f : Int) : T_api_Conn := ⟨3, a, b, e, f, true, true, false, false⟩
theorem oc_Right (a b e f : Int) : F_r15_Right (oc a b e f) = true := rfl

theorem stray0 (a b e f : Int) (g : T_r15_Segment) (hW : F_r15_in g.Win = true) (hZ : F_r15_in g.Size = true) (hw : F_r15_window (oc a b e f) 0 g = false) : (F_r15_Step (oc a b e f) (.ofNat 0) g).2 = 23 := by
  have hy : (F_r15_syn (oc a b e f) 0 g).2 = 23 := by
    show (G_r15_synv0 (fun x => x) F_r15_End (oc a b e f) g).2 = 23
    unfold G_r15_synv0
    generalize (Ev.bitsOp .and .i64 g.Flags 1 != 0) = p1
    generalize (g.Size != 0) = z
    cases p1 <;> cases z <;> rfl
  show (G_r15_Stepv0 (fun x => x) F_r15_Right F_r15_in F_r15_window F_r15_syn F_r15_From F_r15_End (oc a b e f) g).2 = 23
  unfold G_r15_Stepv0
  have hR := oc_Right a b e f
  simp only [hR, hW, hZ, hw, Bool.not_true, Bool.not_false, cond_true, cond_false]
  generalize (Ev.bitsOp .and .i64 g.Flags 4 != 0) = p4
  generalize (Ev.bitsOp .and .i64 g.Flags 2 != 0) = p2
  generalize (Ev.bitsOp .and .i64 g.Flags 16 != 0) = p16
  cases p4
  · cases p2
    · cases p16 <;> rfl
    · exact hy
  · rfl
theorem stray1 (a b e f : Int) (g : T_r15_Segment) (hW : F_r15_in g.Win = true) (hZ : F_r15_in g.Size = true) (hw : F_r15_window (oc a b e f) 1 g = false) : (F_r15_Step (oc a b e f) (.ofNat 1) g).2 = 23 := by
  have hy : (F_r15_syn (oc a b e f) 1 g).2 = 23 := by
    show (G_r15_synv1 (fun x => x) F_r15_End (oc a b e f) g).2 = 23
    unfold G_r15_synv1
    generalize (Ev.bitsOp .and .i64 g.Flags 1 != 0) = p1
    generalize (Ev.bitsOp .and .i64 g.Flags 16 != 0) = p16
    generalize (g.Size != 0) = z
    generalize (g.Ack == (oc a b e f).Next_c0) = q
    cases p1 <;> cases z <;> cases p16 <;> cases q <;> rfl
  show (G_r15_Stepv1 (fun x => x) F_r15_Right F_r15_in F_r15_window F_r15_syn F_r15_From F_r15_End (oc a b e f) g).2 = 23
  unfold G_r15_Stepv1
  have hR := oc_Right a b e f
  simp only [hR, hW, hZ, hw, Bool.not_true, Bool.not_false, cond_true, cond_false]
  generalize (Ev.bitsOp .and .i64 g.Flags 4 != 0) = p4
  generalize (Ev.bitsOp .and .i64 g.Flags 2 != 0) = p2
  generalize (Ev.bitsOp .and .i64 g.Flags 16 != 0) = p16
  cases p4
  · cases p2
    · cases p16 <;> rfl
    · exact hy
  · rfl
/-- an ack of what was not sent -/
theorem strayA (a b e f : Int) (w s k : Int) (hW : F_r15_in w = true) (hA : F_r15_From b k = false) : (F_r15_Step (oc a b e f) (.ofNat 0) ⟨16, w, 0, s, k⟩).2 = 23 := by
  show (G_r15_Stepv0 (fun x => x) F_r15_Right F_r15_in F_r15_window F_r15_syn F_r15_From F_r15_End (oc a b e f) ⟨16, w, 0, s, k⟩).2 = 23
  unfold G_r15_Stepv0
  have hR := oc_Right a b e f
  have hZ : F_r15_in 0 = true := rfl
  have h4 : (Ev.bitsOp .and .i64 16 4 != 0) = false := by kernel_rfl
  have h2 : (Ev.bitsOp .and .i64 16 2 != 0) = false := by kernel_rfl
  have h16 : (Ev.bitsOp .and .i64 16 16 != 0) = true := by kernel_rfl
  have hb : (oc a b e f).Next_c1 = b := rfl
  simp only [hR, hW, hZ, h4, h2, h16, hb, hA, Bool.not_true, Bool.not_false, cond_true, cond_false]
  generalize F_r15_window _ 0 _ = w
  generalize F_r15_From k _ = v
  cases w <;> cases v <;> rfl

theorem begins (a : Int) : F_tcp_Begin 2 a 100 0 = (⟨1, IntKind.u32.wrap (a + 1), 0, IntKind.u32.wrap (a + 1), 100, true, false, false, false⟩, 0) := by
  rw [a_Begin]
  show G_r15_Begin (fun x => x) F_r15_in 2 a 100 0 = _
  unfold G_r15_Begin
  have h1 : F_r15_in 100 = true := rfl
  have h2 : F_r15_in 0 = true := rfl
  have h3 : (Ev.bitsOp .and .i64 2 23 != 2) = false := by kernel_rfl
  have h4 : IntKind.u32.wrap 100 = 100 := by kernel_rfl
  simp only [h1, h2, h3, h4, Bool.not_true, Bool.not_false, cond_true, cond_false]
  rfl

theorem answered (a n b : Int) : F_r15_Step ⟨1, a, 0, n, 100, true, false, false, false⟩ (.ofNat 1) ⟨18, 100, 0, b, a⟩ = (⟨2, a, (b + 1) % 4294967296, IntKind.u32.wrap (a + 100), IntKind.u32.wrap ((b + 1) % 4294967296 + 100), true, true, false, false⟩, 0) := by
  have hy : F_r15_syn ⟨1, a, 0, n, 100, true, false, false, false⟩ (.ofNat 1) ⟨18, 100, 0, b, a⟩ = (⟨2, a, (b + 1) % 4294967296, IntKind.u32.wrap (a + 100), IntKind.u32.wrap ((b + 1) % 4294967296 + 100), true, true, false, false⟩, 0) := by
    show G_r15_synv1 (fun x => x) F_r15_End ⟨1, a, 0, n, 100, true, false, false, false⟩ ⟨18, 100, 0, b, a⟩ = _
    unfold G_r15_synv1
    have h1 : (Ev.bitsOp .and .i64 18 1 != 0) = false := by kernel_rfl
    have h16 : (Ev.bitsOp .and .i64 18 16 != 0) = true := by kernel_rfl
    have h4 : IntKind.u32.wrap 100 = 100 := by kernel_rfl
    simp only [h1, h16, h4, End_syn, beq_self_eq_true, cond_true, cond_false]
    rfl
  show G_r15_Stepv1 (fun x => x) F_r15_Right F_r15_in F_r15_window F_r15_syn F_r15_From F_r15_End ⟨1, a, 0, n, 100, true, false, false, false⟩ ⟨18, 100, 0, b, a⟩ = _
  unfold G_r15_Stepv1
  have h1 : F_r15_in 100 = true := rfl
  have h2 : F_r15_in 0 = true := rfl
  have hR : F_r15_Right ⟨1, a, 0, n, 100, true, false, false, false⟩ = true := rfl
  have h3 : (Ev.bitsOp .and .i64 18 4 != 0) = false := by kernel_rfl
  have h4 : (Ev.bitsOp .and .i64 18 2 != 0) = true := by kernel_rfl
  have h5 : ((1 : Int) == 6) = false := rfl
  simp only [hR, h1, h2, h3, h4, h5, Bool.not_true, Bool.not_false, cond_true, cond_false]
  exact hy

theorem opens (a b : Int) (ha : 0 ≤ a ∧ a < 4294967296) (hb : 0 ≤ b ∧ b < 4294967296) : F_r15_Step ⟨2, a, b, IntKind.u32.wrap (a + 100), IntKind.u32.wrap (b + 100), true, true, false, false⟩ (.ofNat 0) ⟨16, 100, 0, a, b⟩ = (oc a b (IntKind.u32.wrap (a + 100)) (IntKind.u32.wrap (b + 100)), 0) := by
  rw [← a_Step]
  show G_tcp_Stepv0 (fun x => x) F_tcp_Right F_tcp_Segment_fits F_tcp_Segment_has F_tcp_inside F_tcp_answers F_tcp_refuse F_tcp_shake F_tcp_reaches F_tcp_take ⟨2, a, b, IntKind.u32.wrap (a + 100), IntKind.u32.wrap (b + 100), true, true, false, false⟩ ⟨16, 100, 0, a, b⟩ = _
  unfold G_tcp_Stepv0
  rw [f_has, f_refuse, f_Right, f_fits, f_inside, f_reaches]
  have h1 : F_r15_in 100 = true := rfl
  have h2 : F_r15_in 0 = true := rfl
  have hR : F_r15_Right ⟨2, a, b, IntKind.u32.wrap (a + 100), IntKind.u32.wrap (b + 100), true, true, false, false⟩ = true := rfl
  have h3 : (Ev.bitsOp .and .i64 16 4 != 0) = false := by kernel_rfl
  have h4 : (Ev.bitsOp .and .i64 16 2 != 0) = false := by kernel_rfl
  have h6 : (Ev.bitsOp .and .i64 16 16 != 0) = true := by kernel_rfl
  have h7 : (Ev.bitsOp .and .i64 16 1 != 0) = false := by kernel_rfl
  have hE : F_r15_End ⟨16, 100, 0, a, b⟩ = a := by rw [End_plain]; omega
  have hw : F_r15_window ⟨2, a, b, IntKind.u32.wrap (a + 100), IntKind.u32.wrap (b + 100), true, true, false, false⟩ 0 ⟨16, 100, 0, a, b⟩ = true := by
    have := window0 ⟨2, a, b, IntKind.u32.wrap (a + 100), IntKind.u32.wrap (b + 100), true, true, false, false⟩ ⟨16, 100, 0, a, b⟩
    refine Eq.trans this ?_
    simp only [hE, From_eq, w_u32, Bool.true_and, Bool.and_eq_true, decide_eq_true_eq]
    omega
  have hu : F_r15_From b (IntKind.u32.wrap (b - 65535)) = true := by
    rw [From_eq, w_u32, decide_eq_true_eq]; omega
  have hv : F_r15_From b b = true := by
    rw [From_eq, decide_eq_true_eq]; omega
  have hvv : F_r15_From a a = true := by
    rw [From_eq, decide_eq_true_eq]; omega
  have h100 : IntKind.u32.wrap 100 = 100 := by kernel_rfl
  have hx : F_r15_From (IntKind.u32.wrap (b + 100)) (IntKind.u32.wrap (b + 100)) = true := by
    rw [From_eq, w_u32, decide_eq_true_eq]; omega
  have ht : F_tcp_take ⟨2, a, b, IntKind.u32.wrap (a + 100), IntKind.u32.wrap (b + 100), true, true, false, false⟩ 0 ⟨16, 100, 0, a, b⟩ = oc a b (IntKind.u32.wrap (a + 100)) (IntKind.u32.wrap (b + 100)) := by
    refine Eq.trans (a_take0 _ _) ?_
    simp only [hE, h100, hx, hvv, h7]
    rfl
  have h26 : ((2 : Int) == 6) = false := rfl
  have h21 : ((2 : Int) == 1) = false := rfl
  have h22 : ((2 : Int) == 2) = true := rfl
  simp only [hR, h1, h2, h3, h4, h6, hw, hu, hv, ht, h26, h21, h22, Bool.and_self, Bool.not_true, Bool.not_false, cond_true, cond_false]

theorem opened_eq (a b : Int) : F_law15_opened a b ⟨100, 100⟩ = (oc ((a + 1) % 4294967296) ((b + 1) % 4294967296) (IntKind.u32.wrap ((a + 1) % 4294967296 + 100)) (IntKind.u32.wrap ((b + 1) % 4294967296 + 100)), true) := by
  show G_law15_opened (fun x => x) F_tcp_Begin F_tcp_Step a b ⟨100, 100⟩ = _
  unfold G_law15_opened
  have e1 : ∀ c s g, F_tcp_Step c s g = F_r15_Step c s g := a_Step
  have e2 := answered (IntKind.u32.wrap (a + 1)) (IntKind.u32.wrap (a + 1)) b
  have e3 := opens ((a + 1) % 4294967296) ((b + 1) % 4294967296) (by omega) (by omega)
  simp only [e1, begins]
  have e2' : F_r15_Step ⟨1, IntKind.u32.wrap (a + 1), 0, IntKind.u32.wrap (a + 1), 100, true, false, false, false⟩ 1 ⟨18, 100, 0, b, IntKind.u32.wrap (a + 1)⟩ = _ := e2
  simp only [w_u32] at e2'
  simp only [e2', w_u32]
  simp only [w_u32] at e3
  have e3' : F_r15_Step ⟨2, (a + 1) % 4294967296, (b + 1) % 4294967296, ((a + 1) % 4294967296 + 100) % 4294967296, ((b + 1) % 4294967296 + 100) % 4294967296, true, true, false, false⟩ 0 ⟨16, 100, 0, (a + 1) % 4294967296, (b + 1) % 4294967296⟩ = _ := e3
  simp only [e3']
  rfl

theorem law_law15_TcpStrays (x0 : T_3_uint32) (x1 : Int) (r0 : IntKind.u32.has x0.c0 ∧ IntKind.u32.has x0.c1 ∧ IntKind.u32.has x0.c2) (r1 : IntKind.i64.has x1) : F_law15_TcpStrays x0 x1 = true := by
  show G_law15_TcpStrays (fun x => x) F_law15_opened F_law15_alive F_tcp_Step x0 x1 = true
  unfold G_law15_TcpStrays
  have e1 : ∀ c s g, F_tcp_Step c s g = F_r15_Step c s g := a_Step
  simp only [opened_eq, e1]
  rcases x0 with ⟨a, b, n⟩
  have ha : F_law15_alive = true := rfl
  have hn : 0 ≤ n.tmod 1000000 ∧ n.tmod 1000000 < 1000000 := by
    have : (0 : Int) ≤ n := by
      have := r0.2.2
      simp only [IntKind.has, IntKind.min, IntKind.signed] at this
      exact this.1
    rw [Int.tmod_eq_emod_of_nonneg this]; omega
  dsimp only
  generalize n.tmod 1000000 = m at hn ⊢
  generalize Ev.bitsOp .or .i64 x1 16 = fl
  have z1 : F_r15_in 0 = true := rfl
  have k1 := stray0 ((a + 1) % 4294967296) ((b + 1) % 4294967296) (IntKind.u32.wrap ((a + 1) % 4294967296 + 100)) (IntKind.u32.wrap ((b + 1) % 4294967296 + 100)) ⟨fl, 0, 0, IntKind.u32.wrap (IntKind.u32.wrap (a + 1) + IntKind.u32.wrap (70000 + m)), IntKind.u32.wrap (b + 1)⟩ z1 z1 (by
    refine Eq.trans (window0 _ _) ?_
    obtain ⟨k, k0, k2, ke⟩ := End_eq ⟨fl, 0, 0, IntKind.u32.wrap (IntKind.u32.wrap (a + 1) + IntKind.u32.wrap (70000 + m)), IntKind.u32.wrap (b + 1)⟩
    have : F_r15_From (oc ((a + 1) % 4294967296) ((b + 1) % 4294967296) (IntKind.u32.wrap ((a + 1) % 4294967296 + 100)) (IntKind.u32.wrap ((b + 1) % 4294967296 + 100))).Edge_c0 (F_r15_End ⟨fl, 0, 0, IntKind.u32.wrap (IntKind.u32.wrap (a + 1) + IntKind.u32.wrap (70000 + m)), IntKind.u32.wrap (b + 1)⟩) = false := by
      rw [ke, From_eq, decide_eq_false_iff_not]
      simp only [oc, w_u32]
      omega
    rw [this]; simp)
  have k2 := stray1 ((a + 1) % 4294967296) ((b + 1) % 4294967296) (IntKind.u32.wrap ((a + 1) % 4294967296 + 100)) (IntKind.u32.wrap ((b + 1) % 4294967296 + 100)) ⟨fl, 0, 0, IntKind.u32.wrap (IntKind.u32.wrap (IntKind.u32.wrap (b + 1) - IntKind.u32.wrap (70000 + m)) - 2), IntKind.u32.wrap (a + 1)⟩ z1 z1 (by
    refine Eq.trans (window1 _ _) ?_
    obtain ⟨k, k0, k2, ke⟩ := End_eq ⟨fl, 0, 0, IntKind.u32.wrap (IntKind.u32.wrap (IntKind.u32.wrap (b + 1) - IntKind.u32.wrap (70000 + m)) - 2), IntKind.u32.wrap (a + 1)⟩
    have : F_r15_From (F_r15_End ⟨fl, 0, 0, IntKind.u32.wrap (IntKind.u32.wrap (IntKind.u32.wrap (b + 1) - IntKind.u32.wrap (70000 + m)) - 2), IntKind.u32.wrap (a + 1)⟩) (IntKind.u32.wrap ((oc ((a + 1) % 4294967296) ((b + 1) % 4294967296) (IntKind.u32.wrap ((a + 1) % 4294967296 + 100)) (IntKind.u32.wrap ((b + 1) % 4294967296 + 100))).Next_c1 - 65535)) = false := by
      rw [ke, From_eq, decide_eq_false_iff_not]
      simp only [oc, w_u32]
      omega
    rw [this]; simp)
  have k3 := strayA ((a + 1) % 4294967296) ((b + 1) % 4294967296) (IntKind.u32.wrap ((a + 1) % 4294967296 + 100)) (IntKind.u32.wrap ((b + 1) % 4294967296 + 100)) 0 (IntKind.u32.wrap (a + 1)) (IntKind.u32.wrap (IntKind.u32.wrap (b + 1) + IntKind.u32.wrap (70000 + m))) z1 (by
    rw [From_eq, decide_eq_false_iff_not]
    simp only [w_u32]
    omega)
  simp only [ha, Bool.not_true, cond_false]
  generalize hA : (F_r15_Step _ 0 ⟨fl, _, _, _, _⟩).2 = A
  generalize hB : (F_r15_Step _ 1 _).2 = B
  generalize hC : (F_r15_Step _ 0 _).2 = C
  have eA : A = 23 := hA.symm.trans k1
  have eB : B = 23 := hB.symm.trans k2
  have eC : C = 23 := hC.symm.trans k3
  rw [eA, eB, eC]
  rfl

end Go.Proofs.Yteljeekapcenlaa
