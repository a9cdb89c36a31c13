/-
  Streams: a step of a stream that may be is refused, or leaves one that may be. No conditions.
-/
import Derived.Test.YteljeekapcenlaaPs
namespace Go.Proofs.Yteljeekapcenlaa
open Go
set_option linter.unusedSimpArgs false
set_option linter.unusedVariables false
set_option maxHeartbeats 4000000

theorem right_known {c : T_api_Conn} (h : F_r15_Right c = true) : c.Known_c0 = true ∧ (c.State ≠ 1 → c.State ≠ 6 → c.Known_c1 = true) ∧ (c.State = 1 → c.Ended_c0 = false ∧ c.Ended_c1 = false) := by
  have h : G_r15_Right (fun x => x) c = true := h
  unfold G_r15_Right at h
  rcases c with ⟨st, n0, n1, e0, e1, k0, k1, d0, d1⟩
  dsimp only at h ⊢
  generalize Ev.ltI st 1 = u at h
  generalize Ev.ltI 6 st = v at h
  cases u
  · cases v
    · refine ⟨?_, fun h1 h6 => ?_, fun h1 => ?_⟩
      · cases k0
        · simp at h
        · rfl
      · have b1 : (st == 1) = false := by simpa using h1
        have b6 : (st != 6) = true := by simpa using h6
        rw [b1, b6] at h
        cases k1
        · cases k0 <;> simp at h
        · rfl
      · subst h1
        revert h
        cases k0 <;> cases k1 <;> cases d0 <;> cases d1 <;> simp
    · simp at h
  · simp at h

theorem right_6 {c : T_api_Conn} (h : c.Known_c0 = true) (n0 n1 e0 e1 : Int) (k1 d0 d1 : Bool) : F_r15_Right ⟨6, n0, n1, e0, e1, c.Known_c0, k1, d0, d1⟩ = true := by
  rw [h]; rfl

/-- refused, or taken, to one that may be; one that was reset takes RST alone -/
def Taken (c : T_api_Conn) (f : Int) (r : T_api_Conn × Int) : Prop := r.2 = 23 ∨ (r.2 = 0 ∧ F_r15_Right r.1 = true ∧ (c.State = 6 → (Ev.bitsOp .and .i64 f 4 != 0) = true ∧ r.1.State = 6))

theorem taken0 (c : T_api_Conn) (g : T_r15_Segment) (hR : F_r15_Right c = true) (hW : F_r15_in g.Win = true) (hZ : F_r15_in g.Size = true) : Taken c g.Flags (F_tcp_Step c (.ofNat 0) g) := by
  show Taken c g.Flags (N_tcp_Stepv0 F_tcp_Right F_tcp_Segment_fits F_tcp_Segment_has F_tcp_inside F_tcp_answers F_tcp_refuse F_tcp_shake F_tcp_reaches F_tcp_take c g)
  have ha : ∀ c g, F_tcp_answers c 0 g = false := fun c g => by rw [f_answers]; rfl
  have ht : ∀ c g, F_tcp_take c 0 g = tk0 c (F_r15_End g) (IntKind.u32.wrap (g.Ack + IntKind.u32.wrap g.Win)) (F_r15_From (F_r15_End g) c.Next_c0) (F_r15_From (IntKind.u32.wrap (g.Ack + IntKind.u32.wrap g.Win)) c.Edge_c1) (Ev.bitsOp .and .i64 g.Flags 1 != 0) := a_take0
  obtain ⟨hk0, hk1, hk2⟩ := right_known hR
  have hz := ((a_in _).1 hZ).1
  have hsy : (c.State = 6 → False) → Taken c g.Flags (F_r15_syn c (.ofNat 0) g) := by
    intro h6
    show Taken c g.Flags (G_r15_synv0 (fun x => x) F_r15_End c g)
    unfold G_r15_synv0
    generalize (Ev.bitsOp .and .i64 g.Flags 1 != 0) = p1
    generalize (Ev.bitsOp .and .i64 g.Flags 16 != 0) = p16
    generalize (g.Size != 0) = z
    generalize (F_r15_End _ == c.Next_c0) = q
    generalize (c.State == 1) = x1
    cases p1 <;> cases z <;> cases x1 <;> cases p16 <;> cases q <;> first | exact .inl rfl | exact .inr ⟨rfl, hR, fun h => (h6 h).elim⟩
  unfold N_tcp_Stepv0 G_tcp_Stepv0
  rw [f_has, f_refuse, f_Right, f_fits, f_inside, f_reaches]
  simp only [ha, hR, hW, hZ, ht, Bool.and_self, Bool.not_true, Bool.not_false, cond_true, cond_false]
  generalize hp4 : (Ev.bitsOp .and .i64 g.Flags 4 != 0) = p4
  generalize (Ev.bitsOp .and .i64 g.Flags 2 != 0) = p2
  generalize (Ev.bitsOp .and .i64 g.Flags 16 != 0) = p16
  generalize F_r15_window _ 0 _ = w
  generalize hx1 : (c.State == 1) = x1
  generalize hx2 : (c.State == 2) = x2
  generalize hx6 : (c.State == 6) = x6
  generalize (F_r15_From g.Ack _) = u
  generalize (F_r15_From c.Next_c1 g.Ack) = v
  cases p4
  · cases x6
    · have n6 : c.State ≠ 6 := by simpa using hx6
      cases p2
      · cases p16
        · exact .inl rfl
        cases x1
        · have n1 : c.State ≠ 1 := by simpa using hx1
          have k1 := hk1 n1 n6
          generalize (Ev.bitsOp .and .i64 g.Flags 1 != 0) = p1
          generalize F_r15_End _ = n
          generalize IntKind.u32.wrap (g.Ack + IntKind.u32.wrap g.Win) = b
          generalize F_r15_From n c.Next_c0 = uu
          generalize F_r15_From b c.Edge_c1 = vv
          have key : F_r15_Right (tk0 c n b uu vv p1) = true := by
            rcases c with ⟨st, n0, n1, e0, e1, q0, q1, d0, d1⟩
            obtain rfl : q0 = true := hk0
            obtain rfl : q1 = true := k1
            cases d0 <;> cases d1 <;> cases p1 <;> rfl
          have fin : Taken c g.Flags (tk0 c n b uu vv p1, 0) := .inr ⟨rfl, key, fun h => absurd h n6⟩
          cases w
          · cases x2 <;> exact .inl rfl
          cases u
          · cases x2 <;> exact .inl rfl
          cases v
          · cases x2 <;> exact .inl rfl
          cases x2 <;> first | exact fin | exact .inl rfl
        · exact .inl rfl
      · have e := a_shake0 c g hz
        have := hsy n6
        rw [← e] at this
        exact this
    · exact .inl rfl
  · have r6 : Taken c g.Flags (⟨6, c.Next_c0, c.Next_c1, c.Edge_c0, c.Edge_c1, c.Known_c0, c.Known_c1, c.Ended_c0, c.Ended_c1⟩, 0) := .inr ⟨rfl, right_6 hk0 _ _ _ _ _ _ _, fun _ => ⟨hp4, rfl⟩⟩
    cases w
    · cases x1 <;> exact .inl rfl
    · exact r6

theorem taken1 (c : T_api_Conn) (g : T_r15_Segment) (hR : F_r15_Right c = true) (hW : F_r15_in g.Win = true) (hZ : F_r15_in g.Size = true) : Taken c g.Flags (F_tcp_Step c (.ofNat 1) g) := by
  show Taken c g.Flags (N_tcp_Stepv1 F_tcp_Right F_tcp_Segment_fits F_tcp_Segment_has F_tcp_inside F_tcp_answers F_tcp_refuse F_tcp_shake F_tcp_reaches F_tcp_take c g)
  have ha : ∀ c g, F_tcp_answers c 1 g = ((Ev.bitsOp .and .i64 g.Flags 16 != 0) && (g.Ack == c.Next_c0)) := fun c g => by rw [f_answers]; rfl
  have ht : ∀ c g, F_tcp_take c 1 g = tk1 c (F_r15_End g) (IntKind.u32.wrap (g.Ack + IntKind.u32.wrap g.Win)) (F_r15_From (F_r15_End g) c.Next_c1) (F_r15_From (IntKind.u32.wrap (g.Ack + IntKind.u32.wrap g.Win)) c.Edge_c0) (Ev.bitsOp .and .i64 g.Flags 1 != 0) := a_take1
  obtain ⟨hk0, hk1, hk2⟩ := right_known hR
  have hz := ((a_in _).1 hZ).1
  have hsy : (c.State = 6 → False) → Taken c g.Flags (F_r15_syn c (.ofNat 1) g) := by
    intro h6
    show Taken c g.Flags (G_r15_synv1 (fun x => x) F_r15_End c g)
    unfold G_r15_synv1
    generalize (Ev.bitsOp .and .i64 g.Flags 1 != 0) = p1
    generalize (Ev.bitsOp .and .i64 g.Flags 16 != 0) = p16
    generalize (g.Size != 0) = z
    generalize (g.Ack == c.Next_c0) = q
    generalize hx1 : (c.State == 1) = x1
    generalize (c.State == 2) = x2
    generalize F_r15_End _ = n
    generalize (n == c.Next_c1) = q'
    cases p1 <;> cases z <;> cases p16 <;> cases q <;> first | exact .inl rfl | skip
    cases x1
    · cases x2 <;> cases q' <;> first | exact .inl rfl | exact .inr ⟨rfl, hR, fun h => (h6 h).elim⟩
    · obtain ⟨e0, e1⟩ := hk2 (by simpa using hx1)
      refine .inr ⟨rfl, ?_, fun h => (h6 h).elim⟩
      dsimp only [cond_true, cond_false]
      rw [e0, e1, hk0]
      rfl
  unfold N_tcp_Stepv1 G_tcp_Stepv1
  rw [f_has, f_refuse, f_Right, f_fits, f_inside, f_reaches]
  simp only [ha, hR, hW, hZ, ht, Bool.and_self, Bool.not_true, Bool.not_false, cond_true, cond_false]
  generalize hp4 : (Ev.bitsOp .and .i64 g.Flags 4 != 0) = p4
  generalize (Ev.bitsOp .and .i64 g.Flags 2 != 0) = p2
  generalize (Ev.bitsOp .and .i64 g.Flags 16 != 0) = p16
  generalize F_r15_window _ 1 _ = w
  generalize hx1 : (c.State == 1) = x1
  generalize hx2 : (c.State == 2) = x2
  generalize hx6 : (c.State == 6) = x6
  generalize (g.Ack == c.Next_c0) = q
  generalize (F_r15_From g.Ack _) = u
  generalize (F_r15_From c.Next_c0 g.Ack) = v
  cases p4
  · cases x6
    · have n6 : c.State ≠ 6 := by simpa using hx6
      cases p2
      · cases p16
        · exact .inl rfl
        cases x1
        · have n1 : c.State ≠ 1 := by simpa using hx1
          have k1 := hk1 n1 n6
          generalize (Ev.bitsOp .and .i64 g.Flags 1 != 0) = p1
          generalize F_r15_End _ = n
          generalize IntKind.u32.wrap (g.Ack + IntKind.u32.wrap g.Win) = b
          generalize F_r15_From n c.Next_c1 = uu
          generalize F_r15_From b c.Edge_c0 = vv
          have key : F_r15_Right (tk1 c n b uu vv p1) = true := by
            rcases c with ⟨st, n0, n1, e0, e1, q0, q1, d0, d1⟩
            obtain rfl : q0 = true := hk0
            obtain rfl : q1 = true := k1
            cases d0 <;> cases d1 <;> cases p1 <;> rfl
          have fin : Taken c g.Flags (tk1 c n b uu vv p1, 0) := .inr ⟨rfl, key, fun h => absurd h n6⟩
          cases w
          · cases x2 <;> exact .inl rfl
          cases u
          · cases x2 <;> exact .inl rfl
          cases v
          · cases x2 <;> exact .inl rfl
          cases x2 <;> first | exact fin | exact .inl rfl
        · exact .inl rfl
      · have e := a_shake1 c g hz
        have := hsy n6
        rw [← e] at this
        exact this
    · exact .inl rfl
  · have r6 : Taken c g.Flags (⟨6, c.Next_c0, c.Next_c1, c.Edge_c0, c.Edge_c1, c.Known_c0, c.Known_c1, c.Ended_c0, c.Ended_c1⟩, 0) := .inr ⟨rfl, right_6 hk0 _ _ _ _ _ _ _, fun _ => ⟨hp4, rfl⟩⟩
    cases w <;> cases x1 <;> cases p16 <;> cases q <;> first | exact .inl rfl | exact r6


/-- A step of any side, as the law looks at it. -/
theorem taken (c : T_api_Conn) (s : Int) (g : T_r15_Segment) (hR : F_r15_Right c = true) (h : (F_tcp_Step c s g).2 ≠ 0) : (F_tcp_Step c s g).2 = 23 ∨ Int.fdiv s 2 ≠ 0 ∨ ¬ (0 ≤ g.Win ∧ g.Win ≤ 65535) ∨ ¬ (0 ≤ g.Size ∧ g.Size ≤ 65535) := by
  match s with
  | .ofNat 0 =>
    by_cases hW : F_r15_in g.Win = true
    · by_cases hZ : F_r15_in g.Size = true
      · rcases taken0 c g hR hW hZ with h1 | h1
        · exact .inl h1
        · exact absurd h1.1 h
      · exact .inr (.inr (.inr (fun h => hZ ((a_in _).2 h))))
    · exact .inr (.inr (.inl (fun h => hW ((a_in _).2 h))))
  | .ofNat 1 =>
    by_cases hW : F_r15_in g.Win = true
    · by_cases hZ : F_r15_in g.Size = true
      · rcases taken1 c g hR hW hZ with h1 | h1
        · exact .inl h1
        · exact absurd h1.1 h
      · exact .inr (.inr (.inr (fun h => hZ ((a_in _).2 h))))
    · exact .inr (.inr (.inl (fun h => hW ((a_in _).2 h))))
  | .ofNat (n + 2) =>
    refine .inr (.inl ?_)
    rw [Int.fdiv_eq_ediv_of_nonneg _ (by omega)]
    have : (Int.ofNat (n + 2)) = ((n + 2 : Nat) : Int) := rfl
    omega
  | .negSucc n =>
    refine .inr (.inl ?_)
    rw [Int.fdiv_eq_ediv_of_nonneg _ (by omega)]
    omega

theorem taken_ok (c : T_api_Conn) (s : Int) (g : T_r15_Segment) (hR : F_r15_Right c = true) (h : (F_tcp_Step c s g).2 = 0) : F_r15_Right (F_tcp_Step c s g).1 = true ∧ (c.State = 6 → (Ev.bitsOp .and .i64 g.Flags 4 != 0) = true ∧ (F_tcp_Step c s g).1.State = 6) := by
  have inn : ∀ (s : Nat), s = 0 ∨ s = 1 → (F_tcp_Step c (.ofNat s) g).2 = 0 → F_r15_in g.Win = true ∧ F_r15_in g.Size = true := by
    intro s hs h
    rcases hs with rfl | rfl
    all_goals (
      rw [a_Step] at h
      first
        | (have h : (G_r15_Stepv0 (fun x => x) F_r15_Right F_r15_in F_r15_window F_r15_syn F_r15_From F_r15_End c g).2 = 0 := h
           unfold G_r15_Stepv0 at h)
        | (have h : (G_r15_Stepv1 (fun x => x) F_r15_Right F_r15_in F_r15_window F_r15_syn F_r15_From F_r15_End c g).2 = 0 := h
           unfold G_r15_Stepv1 at h)
      rw [hR] at h
      cases hW : F_r15_in g.Win
      · rw [hW] at h; cases h
      · cases hZ : F_r15_in g.Size
        · rw [hW, hZ] at h; cases h
        · exact ⟨rfl, rfl⟩)
  match s, h with
  | .ofNat 0, h =>
    obtain ⟨hW, hZ⟩ := inn 0 (.inl rfl) h
    rcases taken0 c g hR hW hZ with h1 | h1
    · rw [h] at h1; cases h1
    · exact h1.2
  | .ofNat 1, h =>
    obtain ⟨hW, hZ⟩ := inn 1 (.inr rfl) h
    rcases taken1 c g hR hW hZ with h1 | h1
    · rw [h] at h1; cases h1
    · exact h1.2
  | .ofNat (n + 2), h => rw [a_Step2] at h; cases h
  | .negSucc n, h => rw [a_Step3] at h; cases h

end Go.Proofs.Yteljeekapcenlaa
