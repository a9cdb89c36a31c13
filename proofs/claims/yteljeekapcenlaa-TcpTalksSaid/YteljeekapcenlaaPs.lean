/-
  Streams: a step. Program and document answer alike. No conditions.
-/
import Derived.Test.YteljeekapcenlaaPt
namespace Go.Proofs.Yteljeekapcenlaa
open Go
set_option linter.unusedSimpArgs false
set_option linter.unusedVariables false
set_option maxHeartbeats 4000000

/-- no stream -/
def z_Conn : T_api_Conn := ⟨0, 0, 0, 0, 0, false, false, false, false⟩

theorem f_reaches : F_tcp_reaches = F_r15_From := by funext a b; exact a_From a b
theorem f_end : F_tcp_Segment_end = F_r15_End := rfl
theorem f_Right : F_tcp_Right = F_r15_Right := by funext c; exact a_Right c
theorem f_fits : F_tcp_Segment_fits = fun g => F_r15_in g.Win && F_r15_in g.Size := by funext g; exact a_fits g
theorem f_has : F_tcp_Segment_has = fun g m => (Ev.bitsOp .and .i64 g.Flags m != 0) := rfl
theorem f_refuse : F_tcp_refuse = (z_Conn, 23) := rfl
theorem f_inside : F_tcp_inside = F_r15_window := by
  unfold F_tcp_inside F_r15_window
  rw [f_reaches, f_end]
  rfl
theorem f_answers (c : T_api_Conn) (s : Int) (g : T_r15_Segment) : F_tcp_answers c s g = ((s == 1) && ((Ev.bitsOp .and .i64 g.Flags 16 != 0) && (g.Ack == c.Next_c0))) := by
  show (bif s == 1 then bif (Ev.bitsOp .and .i64 g.Flags 16 != 0) then (g.Ack == c.Next_c0) else false else false) = _
  generalize (s == 1) = x
  generalize (Ev.bitsOp .and .i64 g.Flags 16 != 0) = y
  cases x <;> cases y <;> rfl

theorem a_shake0 (c : T_api_Conn) (g : T_r15_Segment) (h : 0 ≤ g.Size) : F_tcp_shake c (.ofNat 0) g = F_r15_syn c (.ofNat 0) g := by
  show N_tcp_shakev0 F_tcp_Segment_has F_tcp_refuse F_tcp_Segment_end F_tcp_answers c g = N_r15_synv0 F_r15_End c g
  have hs : Ev.ltI 0 g.Size = (g.Size != 0) := by rw [Ev.ltI_eq, Bool.eq_iff_iff]; simp; omega
  have ha : ∀ c g, F_tcp_answers c 0 g = false := fun c g => by rw [f_answers]; rfl
  unfold N_tcp_shakev0 N_r15_synv0 G_tcp_shakev0 G_r15_synv0
  rw [f_has, f_refuse, f_end, hs]
  simp only [ha]
  generalize (Ev.bitsOp .and .i64 g.Flags 1 != 0) = p1
  generalize (Ev.bitsOp .and .i64 g.Flags 16 != 0) = p16
  generalize (g.Size != 0) = z
  generalize (F_r15_End _ == c.Next_c0) = q
  generalize (F_r15_End _ == c.Next_c1) = q'
  cases p1
  · cases z
    · generalize hx1 : (c.State == 1) = x1
      generalize hx2 : (c.State == 2) = x2
      cases x1 <;> cases p16 <;> cases q <;> cases x2 <;> first | rfl | (cases q' <;> first | rfl | (exfalso; simp at hx1 hx2; omega))
    · rfl
  · rfl


theorem a_shake1 (c : T_api_Conn) (g : T_r15_Segment) (h : 0 ≤ g.Size) : F_tcp_shake c (.ofNat 1) g = F_r15_syn c (.ofNat 1) g := by
  show N_tcp_shakev1 F_tcp_Segment_has F_tcp_refuse F_tcp_Segment_end F_tcp_answers c g = N_r15_synv1 F_r15_End c g
  have hs : Ev.ltI 0 g.Size = (g.Size != 0) := by rw [Ev.ltI_eq, Bool.eq_iff_iff]; simp; omega
  have ha : ∀ c g, F_tcp_answers c 1 g = ((Ev.bitsOp .and .i64 g.Flags 16 != 0) && (g.Ack == c.Next_c0)) := fun c g => by rw [f_answers]; rfl
  unfold N_tcp_shakev1 N_r15_synv1 G_tcp_shakev1 G_r15_synv1
  rw [f_has, f_refuse, f_end, hs]
  have hn : (c.State != 1) = !(c.State == 1) := rfl
  simp only [ha, hn, Int.add_comm c.Edge_c1]
  generalize (Ev.bitsOp .and .i64 g.Flags 1 != 0) = p1
  generalize (Ev.bitsOp .and .i64 g.Flags 16 != 0) = p16
  generalize (g.Size != 0) = z
  generalize (g.Ack == c.Next_c0) = q0
  generalize (F_r15_End _ == c.Next_c1) = q'
  cases p1
  · cases z
    · generalize hx1 : (c.State == 1) = x1
      generalize hx2 : (c.State == 2) = x2
      cases x1 <;> cases p16 <;> cases q0 <;> cases x2 <;> first | rfl | (cases q' <;> first | rfl | (exfalso; simp at hx1 hx2; omega))
    · rfl
  · rfl

/-- what a segment of the side 0 that is taken makes of a stream -/
def tk0 (c : T_api_Conn) (n b : Int) (u v : Bool) (f : Bool) : T_api_Conn := ⟨bif (c.Ended_c0 || f) then (bif c.Ended_c1 then 5 else 4) else (bif c.Ended_c1 then 4 else 3), bif u then n else c.Next_c0, c.Next_c1, c.Edge_c0, bif v then b else c.Edge_c1, c.Known_c0, c.Known_c1, c.Ended_c0 || f, c.Ended_c1⟩
def tk1 (c : T_api_Conn) (n b : Int) (u v : Bool) (f : Bool) : T_api_Conn := ⟨bif (c.Ended_c1 || f) then (bif c.Ended_c0 then 5 else 4) else (bif c.Ended_c0 then 4 else 3), c.Next_c0, bif u then n else c.Next_c1, bif v then b else c.Edge_c0, c.Edge_c1, c.Known_c0, c.Known_c1, c.Ended_c0, c.Ended_c1 || f⟩
theorem a_take0 (c : T_api_Conn) (g : T_r15_Segment) : F_tcp_take c (.ofNat 0) g = tk0 c (F_r15_End g) (IntKind.u32.wrap (g.Ack + IntKind.u32.wrap g.Win)) (F_r15_From (F_r15_End g) c.Next_c0) (F_r15_From (IntKind.u32.wrap (g.Ack + IntKind.u32.wrap g.Win)) c.Edge_c1) (Ev.bitsOp .and .i64 g.Flags 1 != 0) := by
  show N_tcp_takev0 F_tcp_Segment_end F_tcp_reaches F_tcp_Segment_has c g = _
  unfold N_tcp_takev0 G_tcp_takev0 tk0
  rw [f_has, f_reaches, f_end]
  rcases c with ⟨st, n0, n1, e0, e1, k0, k1, d0, d1⟩
  dsimp only
  generalize (Ev.bitsOp .and .i64 g.Flags 1 != 0) = p1
  generalize F_r15_End _ = n
  generalize IntKind.u32.wrap (g.Ack + IntKind.u32.wrap g.Win) = b
  generalize F_r15_From n n0 = u
  generalize F_r15_From b e1 = v
  cases u <;> cases v <;> cases d0 <;> cases d1 <;> cases p1 <;> rfl
theorem a_take1 (c : T_api_Conn) (g : T_r15_Segment) : F_tcp_take c (.ofNat 1) g = tk1 c (F_r15_End g) (IntKind.u32.wrap (g.Ack + IntKind.u32.wrap g.Win)) (F_r15_From (F_r15_End g) c.Next_c1) (F_r15_From (IntKind.u32.wrap (g.Ack + IntKind.u32.wrap g.Win)) c.Edge_c0) (Ev.bitsOp .and .i64 g.Flags 1 != 0) := by
  show N_tcp_takev1 F_tcp_Segment_end F_tcp_reaches F_tcp_Segment_has c g = _
  unfold N_tcp_takev1 G_tcp_takev1 tk1
  rw [f_has, f_reaches, f_end]
  rcases c with ⟨st, n0, n1, e0, e1, k0, k1, d0, d1⟩
  dsimp only
  generalize (Ev.bitsOp .and .i64 g.Flags 1 != 0) = p1
  generalize F_r15_End _ = n
  generalize IntKind.u32.wrap (g.Ack + IntKind.u32.wrap g.Win) = b
  generalize F_r15_From n n1 = u
  generalize F_r15_From b e0 = v
  cases u <;> cases v <;> cases d0 <;> cases d1 <;> cases p1 <;> rfl

theorem a_Step0 (c : T_api_Conn) (g : T_r15_Segment) : F_tcp_Step c (.ofNat 0) g = F_r15_Step c (.ofNat 0) g := by
  show N_tcp_Stepv0 F_tcp_Right F_tcp_Segment_fits F_tcp_Segment_has F_tcp_inside F_tcp_answers F_tcp_refuse F_tcp_shake F_tcp_reaches F_tcp_take c g = N_r15_Stepv0 F_r15_Right F_r15_in F_r15_window F_r15_syn F_r15_From F_r15_End c g
  have ha : ∀ c g, F_tcp_answers c 0 g = false := fun c g => by rw [f_answers]; rfl
  have ht : ∀ c g, F_tcp_take c 0 g = tk0 c (F_r15_End g) (IntKind.u32.wrap (g.Ack + IntKind.u32.wrap g.Win)) (F_r15_From (F_r15_End g) c.Next_c0) (F_r15_From (IntKind.u32.wrap (g.Ack + IntKind.u32.wrap g.Win)) c.Edge_c1) (Ev.bitsOp .and .i64 g.Flags 1 != 0) := a_take0
  unfold N_tcp_Stepv0 N_r15_Stepv0 G_tcp_Stepv0 G_r15_Stepv0
  rw [f_has, f_refuse, f_Right, f_fits, f_inside, f_reaches]
  simp only [ha]
  generalize hR : F_r15_Right _ = R
  generalize hW : F_r15_in g.Win = W
  generalize hZ : F_r15_in g.Size = Z
  cases R
  · rfl
  cases W
  · rfl
  cases Z
  · rfl
  have hz := ((a_in _).1 hZ).1
  generalize (Ev.bitsOp .and .i64 g.Flags 4 != 0) = p4
  generalize (Ev.bitsOp .and .i64 g.Flags 2 != 0) = p2
  generalize (Ev.bitsOp .and .i64 g.Flags 16 != 0) = p16
  generalize F_r15_window _ 0 _ = w
  generalize hx1 : (c.State == 1) = x1
  generalize hx2 : (c.State == 2) = x2
  generalize hx6 : (c.State == 6) = x6
  generalize (F_r15_From g.Ack _) = u
  generalize (F_r15_From c.Next_c1 g.Ack) = v
  simp only [ht]
  cases p4
  · cases x6
    · cases p2
      · cases p16
        · rfl
        cases x1
        · cases w
          · cases x2 <;> rfl
          cases u
          · cases x2 <;> rfl
          cases v
          · cases x2 <;> rfl
          simp only [cond_true, cond_false, Bool.not_true, Bool.not_false, Bool.and_self]
          generalize (Ev.bitsOp .and .i64 g.Flags 1 != 0) = p1
          generalize F_r15_End _ = n
          generalize IntKind.u32.wrap (g.Ack + IntKind.u32.wrap g.Win) = b
          generalize F_r15_From n c.Next_c0 = u
          generalize F_r15_From b c.Edge_c1 = v
          rcases c with ⟨st, n0, n1, e0, e1, k0, k1, d0, d1⟩
          cases x2 <;> cases u <;> cases v <;> cases d0 <;> cases d1 <;> cases p1 <;> rfl
        · rfl
      · have := a_shake0 c g hz
        show ((F_tcp_shake c (.ofNat 0) g).1, (F_tcp_shake c (.ofNat 0) g).2) = ((F_r15_syn c (.ofNat 0) g).1, (F_r15_syn c (.ofNat 0) g).2)
        rw [this]
    · rfl
  · cases w
    · cases x1 <;> rfl
    · rfl

theorem a_Step1 (c : T_api_Conn) (g : T_r15_Segment) : F_tcp_Step c (.ofNat 1) g = F_r15_Step c (.ofNat 1) g := by
  show N_tcp_Stepv1 F_tcp_Right F_tcp_Segment_fits F_tcp_Segment_has F_tcp_inside F_tcp_answers F_tcp_refuse F_tcp_shake F_tcp_reaches F_tcp_take c g = N_r15_Stepv1 F_r15_Right F_r15_in F_r15_window F_r15_syn F_r15_From F_r15_End c g
  have ha : ∀ c g, F_tcp_answers c 1 g = ((Ev.bitsOp .and .i64 g.Flags 16 != 0) && (g.Ack == c.Next_c0)) := fun c g => by rw [f_answers]; rfl
  have ht : ∀ c g, F_tcp_take c 1 g = tk1 c (F_r15_End g) (IntKind.u32.wrap (g.Ack + IntKind.u32.wrap g.Win)) (F_r15_From (F_r15_End g) c.Next_c1) (F_r15_From (IntKind.u32.wrap (g.Ack + IntKind.u32.wrap g.Win)) c.Edge_c0) (Ev.bitsOp .and .i64 g.Flags 1 != 0) := a_take1
  unfold N_tcp_Stepv1 N_r15_Stepv1 G_tcp_Stepv1 G_r15_Stepv1
  rw [f_has, f_refuse, f_Right, f_fits, f_inside, f_reaches]
  simp only [ha]
  generalize hR : F_r15_Right _ = R
  generalize hW : F_r15_in g.Win = W
  generalize hZ : F_r15_in g.Size = Z
  cases R
  · rfl
  cases W
  · rfl
  cases Z
  · rfl
  have hz := ((a_in _).1 hZ).1
  generalize (Ev.bitsOp .and .i64 g.Flags 4 != 0) = p4
  generalize (Ev.bitsOp .and .i64 g.Flags 2 != 0) = p2
  generalize (Ev.bitsOp .and .i64 g.Flags 16 != 0) = p16
  generalize F_r15_window _ 1 _ = w
  generalize hx1 : (c.State == 1) = x1
  generalize hx2 : (c.State == 2) = x2
  generalize hx6 : (c.State == 6) = x6
  generalize (g.Ack == c.Next_c0) = q
  generalize (F_r15_From g.Ack _) = u
  generalize (F_r15_From c.Next_c0 g.Ack) = v
  simp only [ht]
  cases p4
  · cases x6
    · cases p2
      · cases p16
        · rfl
        cases x1
        · cases w
          · cases x2 <;> rfl
          cases u
          · cases x2 <;> rfl
          cases v
          · cases x2 <;> rfl
          simp only [cond_true, cond_false, Bool.not_true, Bool.not_false, Bool.and_self]
          generalize (Ev.bitsOp .and .i64 g.Flags 1 != 0) = p1
          generalize F_r15_End _ = n
          generalize IntKind.u32.wrap (g.Ack + IntKind.u32.wrap g.Win) = b
          generalize F_r15_From n c.Next_c1 = u
          generalize F_r15_From b c.Edge_c0 = v
          rcases c with ⟨st, n0, n1, e0, e1, k0, k1, d0, d1⟩
          cases x2 <;> cases u <;> cases v <;> cases d0 <;> cases d1 <;> cases p1 <;> rfl
        · rfl
      · have := a_shake1 c g hz
        show ((F_tcp_shake c (.ofNat 1) g).1, (F_tcp_shake c (.ofNat 1) g).2) = ((F_r15_syn c (.ofNat 1) g).1, (F_r15_syn c (.ofNat 1) g).2)
        rw [this]
    · rfl
  · cases w <;> cases x1 <;> cases p16 <;> cases q <;> rfl

theorem a_Step2 (c : T_api_Conn) (n : Nat) (g : T_r15_Segment) : F_tcp_Step c (.ofNat (n + 2)) g = (z_Conn, 1) := by
  show N_tcp_Stepv2 F_tcp_Right F_tcp_Segment_fits F_tcp_Segment_has F_tcp_inside F_tcp_answers F_tcp_refuse F_tcp_shake F_tcp_reaches F_tcp_take c n g = _
  unfold N_tcp_Stepv2 G_tcp_Stepv2
  generalize F_tcp_Right _ = R
  cases R <;> rfl
theorem a_Step3 (c : T_api_Conn) (n : Nat) (g : T_r15_Segment) : F_tcp_Step c (.negSucc n) g = (z_Conn, 1) := by
  show N_tcp_Stepv3 F_tcp_Right F_tcp_Segment_fits F_tcp_Segment_has F_tcp_inside F_tcp_answers F_tcp_refuse F_tcp_shake F_tcp_reaches F_tcp_take c n g = _
  unfold N_tcp_Stepv3 G_tcp_Stepv3
  generalize F_tcp_Right _ = R
  cases R <;> rfl
theorem r_Step2 (c : T_api_Conn) (n : Nat) (g : T_r15_Segment) : F_r15_Step c (.ofNat (n + 2)) g = (z_Conn, 1) := by
  show N_r15_Stepv2 F_r15_Right F_r15_in F_r15_window F_r15_syn F_r15_From F_r15_End c n g = _
  unfold N_r15_Stepv2 G_r15_Stepv2
  generalize F_r15_Right _ = R
  cases R <;> rfl
theorem r_Step3 (c : T_api_Conn) (n : Nat) (g : T_r15_Segment) : F_r15_Step c (.negSucc n) g = (z_Conn, 1) := by
  show N_r15_Stepv3 F_r15_Right F_r15_in F_r15_window F_r15_syn F_r15_From F_r15_End c n g = _
  unfold N_r15_Stepv3 G_r15_Stepv3
  generalize F_r15_Right _ = R
  cases R <;> rfl

theorem a_Step (c : T_api_Conn) (s : Int) (g : T_r15_Segment) : F_tcp_Step c s g = F_r15_Step c s g := by
  match s with
  | .ofNat 0 => exact a_Step0 c g
  | .ofNat 1 => exact a_Step1 c g
  | .ofNat (n + 2) => rw [a_Step2, r_Step2]
  | .negSucc n => rw [a_Step3, r_Step3]

end Go.Proofs.Yteljeekapcenlaa
