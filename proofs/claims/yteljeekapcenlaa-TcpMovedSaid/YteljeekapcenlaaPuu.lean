/-
  Tcp: the numbers of one side, and those that answer them, moved by the same. No conditions.
-/
import Derived.Test.YteljeekapcenlaaPs
import Derived.Test.YteljeekapcenlaaTm
import Derived.Test.YteljeekapcenlaaEvGg
namespace Go.Proofs.Yteljeekapcenlaa
open Go Go.RowKit
set_option linter.unusedVariables false
set_option linter.unusedSimpArgs false

@[ext] structure T_law15_Talk where
  Side : Int
  G_Flags : Int
  G_Win : Int
  G_Size : Int
  G_Seq : Int
  G_Ack : Int
def c_law15_Talk (x : T_law15_Talk) : List Value := [.int .i64 x.Side, .int .i64 x.G_Flags, .int .i64 x.G_Win, .int .i64 x.G_Size, .int .u32 x.G_Seq, .int .u32 x.G_Ack]

/-- a number moved -/
noncomputable def sh (v x : Int) : Int := IntKind.wrap .u32 (x + v)
noncomputable def mvC (v : Int) (c : T_api_Conn) : T_api_Conn := ⟨c.State, sh v c.Next_c0, c.Next_c1, sh v c.Edge_c0, c.Edge_c1, c.Known_c0, c.Known_c1, c.Ended_c0, c.Ended_c1⟩
noncomputable def mv0 (v : Int) (g : T_r15_Segment) : T_r15_Segment := ⟨g.Flags, g.Win, g.Size, sh v g.Seq, g.Ack⟩
noncomputable def mv1 (v : Int) (g : T_r15_Segment) : T_r15_Segment := ⟨g.Flags, g.Win, g.Size, g.Seq, sh v g.Ack⟩
def In32 (x : Int) : Prop := 0 ≤ x ∧ x < 4294967296

theorem from_sh (v a b : Int) : F_r15_From (sh v a) (sh v b) = F_r15_From a b := by
  unfold F_r15_From N_r15_From G_r15_From sh
  rw [Ev.ltI_eq, Ev.ltI_eq, decide_eq_decide]
  simp only [w_u32]
  omega
theorem sh_sub (v b : Int) : IntKind.wrap .u32 (sh v b - 65535) = sh v (IntKind.wrap .u32 (b - 65535)) := by
  unfold sh
  simp only [w_u32]
  omega
theorem sh_add (v a w : Int) : IntKind.wrap .u32 (sh v a + w) = sh v (IntKind.wrap .u32 (a + w)) := by
  unfold sh
  simp only [w_u32]
  omega
theorem sh_eq (v : Int) {a b : Int} (ha : In32 a) (hb : In32 b) : (sh v a == sh v b) = (a == b) := by
  obtain ⟨a1, a2⟩ := ha
  obtain ⟨b1, b2⟩ := hb
  unfold sh
  rw [Bool.eq_iff_iff, beq_iff_eq, beq_iff_eq]
  simp only [w_u32]
  omega
theorem sh_in (v a : Int) : In32 (sh v a) := by
  unfold sh In32
  rw [w_u32]
  omega
theorem End_in (g : T_r15_Segment) : In32 (F_r15_End g) := by
  unfold F_r15_End N_r15_End G_r15_End In32
  cases (Ev.bitsOp BinOp.and IntKind.i64 g.Flags 2 != 0) <;> cases (Ev.bitsOp BinOp.and IntKind.i64 g.Flags 1 != 0)
  all_goals (simp only [cond_true, cond_false, w_u32]; omega)
theorem End_mv0 (v : Int) (g : T_r15_Segment) : F_r15_End (mv0 v g) = sh v (F_r15_End g) := by
  unfold F_r15_End N_r15_End G_r15_End mv0 sh
  dsimp only
  cases (Ev.bitsOp BinOp.and IntKind.i64 g.Flags 2 != 0) <;> cases (Ev.bitsOp BinOp.and IntKind.i64 g.Flags 1 != 0)
  all_goals (simp only [cond_true, cond_false, w_u32]; omega)
theorem End_mv1 (v : Int) (g : T_r15_Segment) : F_r15_End (mv1 v g) = F_r15_End g := rfl

/-- two answers, the second one moved -/
def Mv (v : Int) (r r' : T_api_Conn × Int) : Prop := r'.2 = r.2 ∧ (r.2 = 0 → r'.1 = mvC v r.1 ∧ In32 r.1.Next_c0)
theorem Mv.cond {v : Int} {b : Bool} {x x' y y' : T_api_Conn × Int} (h1 : Mv v x x') (h2 : Mv v y y') : Mv v (bif b then x else y) (bif b then x' else y') := by cases b <;> assumption
theorem Mv.bad {v e : Int} (x y : T_api_Conn) (h : e ≠ 0) : Mv v (x, e) (y, e) := ⟨rfl, fun q => absurd q h⟩
theorem Mv.ok {v : Int} {x y : T_api_Conn} (h : y = mvC v x) (hi : In32 x.Next_c0) : Mv v (x, 0) (y, 0) := ⟨rfl, fun _ => ⟨h, hi⟩⟩

theorem Right_mv (v : Int) (c : T_api_Conn) : F_r15_Right (mvC v c) = F_r15_Right c := rfl
theorem win_mv0 (v : Int) (c : T_api_Conn) (g : T_r15_Segment) : F_r15_window (mvC v c) (.ofNat 0) (mv0 v g) = F_r15_window c (.ofNat 0) g := by
  show N_r15_windowv0 F_r15_End F_r15_From (mvC v c) (mv0 v g) = N_r15_windowv0 F_r15_End F_r15_From c g
  unfold N_r15_windowv0 G_r15_windowv0
  change (bif c.Known_c0 then bif F_r15_From (F_r15_End (mv0 v g)) (IntKind.wrap .u32 (sh v c.Next_c0 - 65535)) then F_r15_From (sh v c.Edge_c0) (F_r15_End (mv0 v g)) else false else false) = bif c.Known_c0 then bif F_r15_From (F_r15_End g) (IntKind.wrap .u32 (c.Next_c0 - 65535)) then F_r15_From c.Edge_c0 (F_r15_End g) else false else false
  rw [End_mv0, sh_sub, from_sh, from_sh]
theorem win_mv1 (v : Int) (c : T_api_Conn) (g : T_r15_Segment) : F_r15_window (mvC v c) (.ofNat 1) (mv1 v g) = F_r15_window c (.ofNat 1) g := rfl

theorem Mv.condT {v : Int} {b b' : Bool} {x x' y y' : T_api_Conn × Int} (hb : b' = b) (h1 : Mv v x x') (h2 : Mv v y y') : Mv v (bif b then x else y) (bif b' then x' else y') := by
  subst hb
  exact Mv.cond h1 h2

theorem syn_mv0 (v : Int) (c : T_api_Conn) (g : T_r15_Segment) (hc : In32 c.Next_c0) : Mv v (F_r15_syn c (.ofNat 0) g) (F_r15_syn (mvC v c) (.ofNat 0) (mv0 v g)) := by
  show Mv v (N_r15_synv0 F_r15_End c g) (N_r15_synv0 F_r15_End (mvC v c) (mv0 v g))
  unfold N_r15_synv0 G_r15_synv0
  have e : (F_r15_End (mv0 v g) == (mvC v c).Next_c0) = (F_r15_End g == c.Next_c0) := by
    rw [End_mv0]
    exact sh_eq v (End_in g) hc
  repeat' (first | with_reducible refine Mv.condT ?_ ?_ ?_ | exact Mv.bad _ _ (by decide) | exact Mv.ok rfl hc | refine Mv.condT ?_ ?_ ?_)
  all_goals first | exact e | rfl

theorem syn_mv1 (v : Int) (c : T_api_Conn) (g : T_r15_Segment) (hc : In32 c.Next_c0) (hg : In32 g.Ack) : Mv v (F_r15_syn c (.ofNat 1) g) (F_r15_syn (mvC v c) (.ofNat 1) (mv1 v g)) := by
  show Mv v (N_r15_synv1 F_r15_End c g) (N_r15_synv1 F_r15_End (mvC v c) (mv1 v g))
  unfold N_r15_synv1 G_r15_synv1
  have e : ((mv1 v g).Ack == (mvC v c).Next_c0) = (g.Ack == c.Next_c0) := sh_eq v hg hc
  have e2 : IntKind.wrap .u32 ((mv1 v g).Ack + IntKind.wrap .u32 (mv1 v g).Win) = sh v (IntKind.wrap .u32 (g.Ack + IntKind.wrap .u32 g.Win)) := sh_add v _ _
  repeat' (first | with_reducible refine Mv.condT ?_ ?_ ?_ | exact Mv.bad _ _ (by decide) | exact Mv.ok rfl hc | exact Mv.ok (T_api_Conn.ext rfl rfl rfl e2 rfl rfl rfl rfl rfl) hc | refine Mv.condT ?_ ?_ ?_)
  all_goals first | exact e | rfl

set_option maxHeartbeats 4000000 in
theorem step_mv0 (v : Int) (c : T_api_Conn) (g : T_r15_Segment) (hc : In32 c.Next_c0) : Mv v (F_r15_Step c (.ofNat 0) g) (F_r15_Step (mvC v c) (.ofNat 0) (mv0 v g)) := by
  show Mv v (N_r15_Stepv0 F_r15_Right F_r15_in F_r15_window F_r15_syn F_r15_From F_r15_End c g) (N_r15_Stepv0 F_r15_Right F_r15_in F_r15_window F_r15_syn F_r15_From F_r15_End (mvC v c) (mv0 v g))
  unfold N_r15_Stepv0 G_r15_Stepv0
  have t1 := Right_mv v c
  have t2 := win_mv0 v c g
  have t3 : F_r15_From (F_r15_End (mv0 v g)) (mvC v c).Next_c0 = F_r15_From (F_r15_End g) c.Next_c0 := by rw [End_mv0]; exact from_sh v _ _
  have t4 : (!F_r15_window (mvC v c) (.ofNat 0) (mv0 v g)) = (!F_r15_window c (.ofNat 0) g) := by rw [t2]
  have hs := syn_mv0 v c g hc
  repeat' (first | with_reducible refine Mv.condT ?_ ?_ ?_ | exact Mv.bad _ _ (by decide) | exact Mv.ok rfl hc | exact Mv.ok rfl (End_in _) | exact Mv.ok (T_api_Conn.ext rfl (End_mv0 v g) rfl rfl rfl rfl rfl rfl rfl) (End_in _) | exact hs | refine Mv.condT ?_ ?_ ?_)
  all_goals first | exact t2 | exact t4 | exact t3 | rfl

set_option maxHeartbeats 4000000 in
theorem step_mv1 (v : Int) (c : T_api_Conn) (g : T_r15_Segment) (hc : In32 c.Next_c0) (hg : In32 g.Ack) : Mv v (F_r15_Step c (.ofNat 1) g) (F_r15_Step (mvC v c) (.ofNat 1) (mv1 v g)) := by
  show Mv v (N_r15_Stepv1 F_r15_Right F_r15_in F_r15_window F_r15_syn F_r15_From F_r15_End c g) (N_r15_Stepv1 F_r15_Right F_r15_in F_r15_window F_r15_syn F_r15_From F_r15_End (mvC v c) (mv1 v g))
  unfold N_r15_Stepv1 G_r15_Stepv1
  have e : ((mv1 v g).Ack == (mvC v c).Next_c0) = (g.Ack == c.Next_c0) := sh_eq v hg hc
  have e2 : IntKind.wrap .u32 ((mv1 v g).Ack + IntKind.wrap .u32 (mv1 v g).Win) = sh v (IntKind.wrap .u32 (g.Ack + IntKind.wrap .u32 g.Win)) := sh_add v _ _
  have t5 : (!F_r15_From (mv1 v g).Ack (IntKind.wrap .u32 ((mvC v c).Next_c0 - 65535))) = (!F_r15_From g.Ack (IntKind.wrap .u32 (c.Next_c0 - 65535))) := by
    show (!F_r15_From (sh v g.Ack) (IntKind.wrap .u32 (sh v c.Next_c0 - 65535))) = _
    rw [sh_sub, from_sh]
  have t6 : (!F_r15_From (mvC v c).Next_c0 (mv1 v g).Ack) = (!F_r15_From c.Next_c0 g.Ack) := by
    show (!F_r15_From (sh v c.Next_c0) (sh v g.Ack)) = _
    rw [from_sh]
  have t7 : F_r15_From (IntKind.wrap .u32 ((mv1 v g).Ack + IntKind.wrap .u32 (mv1 v g).Win)) (mvC v c).Edge_c0 = F_r15_From (IntKind.wrap .u32 (g.Ack + IntKind.wrap .u32 g.Win)) c.Edge_c0 := by
    rw [e2]
    exact from_sh v _ _
  have hs := syn_mv1 v c g hc hg
  repeat' (first | with_reducible refine Mv.condT ?_ ?_ ?_ | exact Mv.bad _ _ (by decide) | exact Mv.ok rfl hc | exact Mv.ok (T_api_Conn.ext rfl rfl rfl e2 rfl rfl rfl rfl rfl) hc | exact hs | refine Mv.condT ?_ ?_ ?_)
  all_goals first | exact e | exact t5 | exact t6 | exact t7 | rfl

theorem step_mvN (v : Int) (c : T_api_Conn) (s : Int) (g : T_r15_Segment) (hs : s ≠ 0) (hc : In32 c.Next_c0) (hg : In32 g.Ack) : Mv v (F_r15_Step c s g) (F_r15_Step (mvC v c) s (mv1 v g)) := by
  match s with
  | .ofNat 0 => exact absurd rfl hs
  | .ofNat 1 => exact step_mv1 v c g hc hg
  | .ofNat (n + 2) => rw [r_Step2, r_Step2]; exact Mv.bad _ _ (by decide)
  | .negSucc n => rw [r_Step3, r_Step3]; exact Mv.bad _ _ (by decide)

-- ---------------------------------------------------------------- the talk

def gT (t : T_law15_Talk) : T_r15_Segment := ⟨t.G_Flags, t.G_Win, t.G_Size, t.G_Seq, t.G_Ack⟩
theorem talk_len (x : T_law15_Talk) : (c_law15_Talk x).length = 6 := rfl
theorem wrap_i64'' {n : Int} (h0 : 0 ≤ n) (h1 : n < 2 ^ 63) : IntKind.i64.wrap n = n := by
  simp [IntKind.wrap, IntKind.signed, IntKind.bits] at *; omega

noncomputable def TL (m n : Nat) (v : Int) (cs : List Value) (len i : Int) (c d : T_api_Conn) : Option Bool :=
  N_law15_TcpMoved_6 F_tcp_Begin F_law15_alive F_law15_seg F_tcp_Step m n v cs len i c.State c.Next_c0 c.Next_c1 c.Edge_c0 c.Edge_c1 c.Known_c0 c.Known_c1 c.Ended_c0 c.Ended_c1 d.State d.Next_c0 d.Next_c1 d.Edge_c0 d.Edge_c1 d.Known_c0 d.Known_c1 d.Ended_c0 d.Ended_c1

/-- what is compared behind a step -/
noncomputable def same (v : Int) (c d : T_api_Conn) (z : Option Bool) : Option Bool :=
  bif c.State != d.State then some false else bif IntKind.wrap .u32 (c.Next_c0 + v) != d.Next_c0 then some false else bif IntKind.wrap .u32 (c.Edge_c0 + v) != d.Edge_c0 then some false else bif c.Next_c1 != d.Next_c1 then some false else bif c.Edge_c1 != d.Edge_c1 then some false else bif !(c.Ended_c0 == d.Ended_c0 && c.Ended_c1 == d.Ended_c1) then some false else z
theorem same_mv (v : Int) (c : T_api_Conn) (z : Option Bool) : same v c (mvC v c) z = z := by
  unfold same mvC sh
  simp

set_option maxHeartbeats 4000000 in
theorem moved_loop (m : Nat) (v : Int) (xs : List T_law15_Talk) (hlen : xs.length < 2 ^ 62) (hx32 : ∀ x ∈ xs, In32 x.G_Ack) : ∀ (n i : Nat), i ≤ xs.length → xs.length - i < n → ∀ c, In32 c.Next_c0 →
    TL m n v (xs.flatMap c_law15_Talk) (xs.length : Nat) (i : Nat) c (mvC v c) = some true := by
  intro n
  induction n with
  | zero => intro i _ h; omega
  | succ n ih =>
    intro i hi hn c hc
    unfold TL
    rw [N_law15_TcpMoved_6]
    rw [Ev.ltI_eq]
    by_cases hlt : i < xs.length
    · rw [decide_eq_true (by omega : ((i : Nat) : Int) < ((xs.length : Nat) : Int)), cond_true]
      obtain ⟨x, hx⟩ : ∃ x, xs[i]? = some x := ⟨xs[i], List.getElem?_eq_getElem hlt⟩
      have hxa := hx32 x (List.mem_of_getElem? hx)
      have hd := Ev.flat_drop (c := c_law15_Talk) (z := 6) talk_len hx
      generalize (xs.flatMap c_law15_Talk).drop ((i + 1) * 6) = rest at hd
      rw [Ev.flat_dlen (c := c_law15_Talk) (z := 6) talk_len (by decide)]
      rw [decide_eq_true (by omega : (0 : Int) ≤ ((i : Nat) : Int)), decide_eq_true (by omega : ((i : Nat) : Int) < ((xs.length : Nat) : Int))]
      simp only [Bool.and_true, Bool.true_and, cond_true, Int.toNat_natCast]
      rw [Ev.okD_drop0 _ _ (i * 6), hd]
      have h0 : ∀ j, Ev.nthC (xs.flatMap c_law15_Talk) (i * 6 + j) = Ev.nthC (c_law15_Talk x ++ rest) j := fun j => by rw [Ev.nthC_drop, hd]
      have h00 : Ev.nthC (xs.flatMap c_law15_Talk) (i * 6) = Ev.nthC (c_law15_Talk x ++ rest) 0 := h0 0
      simp only [Nat.add_assoc, Nat.reduceAdd, h0, h00]
      rw [wrap_i64'' (by omega) (by omega)]
      change (bif x.Side == 0 then (bif (F_tcp_Step c x.Side (gT x)).2 != (F_tcp_Step (mvC v c) x.Side (mv0 v (gT x))).2 then some false else bif (F_tcp_Step c x.Side (gT x)).2 == 0 then
          same v (F_tcp_Step c x.Side (gT x)).1 (F_tcp_Step (mvC v c) x.Side (mv0 v (gT x))).1 (TL m n v (xs.flatMap c_law15_Talk) (xs.length : Nat) ((i + 1 : Nat) : Int) (F_tcp_Step c x.Side (gT x)).1 (F_tcp_Step (mvC v c) x.Side (mv0 v (gT x))).1)
          else same v c (mvC v c) (TL m n v (xs.flatMap c_law15_Talk) (xs.length : Nat) ((i + 1 : Nat) : Int) c (mvC v c)))
        else (bif (F_tcp_Step c x.Side (gT x)).2 != (F_tcp_Step (mvC v c) x.Side (mv1 v (gT x))).2 then some false else bif (F_tcp_Step c x.Side (gT x)).2 == 0 then
          same v (F_tcp_Step c x.Side (gT x)).1 (F_tcp_Step (mvC v c) x.Side (mv1 v (gT x))).1 (TL m n v (xs.flatMap c_law15_Talk) (xs.length : Nat) ((i + 1 : Nat) : Int) (F_tcp_Step c x.Side (gT x)).1 (F_tcp_Step (mvC v c) x.Side (mv1 v (gT x))).1)
          else same v c (mvC v c) (TL m n v (xs.flatMap c_law15_Talk) (xs.length : Nat) ((i + 1 : Nat) : Int) c (mvC v c)))) = some true
      have done : ∀ r r' : T_api_Conn × Int, Mv v r r' → (bif r.2 != r'.2 then some false else bif r.2 == 0 then same v r.1 r'.1 (TL m n v (xs.flatMap c_law15_Talk) (xs.length : Nat) ((i + 1 : Nat) : Int) r.1 r'.1) else same v c (mvC v c) (TL m n v (xs.flatMap c_law15_Talk) (xs.length : Nat) ((i + 1 : Nat) : Int) c (mvC v c))) = some true := by
        intro r r' hr
        rw [hr.1, bne_self_eq_false, cond_false]
        cases h : r.2 == 0 with
        | true =>
          obtain ⟨q1, q2⟩ := hr.2 (by simpa using h)
          rw [cond_true, q1, same_mv]
          exact ih (i + 1) (by omega) (by omega) _ q2
        | false =>
          rw [cond_false, same_mv]
          exact ih (i + 1) (by omega) (by omega) _ hc
      simp only [a_Step]
      cases hs : x.Side == 0 with
      | true =>
        rw [cond_true]
        have h0 : x.Side = 0 := by simpa using hs
        rw [h0]
        exact done _ _ (step_mv0 v c (gT x) hc)
      | false =>
        rw [cond_false]
        exact done _ _ (step_mvN v c x.Side (gT x) (by simpa using hs) hc hxa)
    · rw [decide_eq_false (by omega), cond_false]

theorem begin_mv (a v : Int) : F_r15_Begin 2 (IntKind.wrap .u32 (a + v)) 1000 0 = (mvC v (F_r15_Begin 2 a 1000 0).1, 0) ∧ (F_r15_Begin 2 a 1000 0).2 = 0 ∧ In32 (F_r15_Begin 2 a 1000 0).1.Next_c0 := by
  have h : ∀ a, F_r15_Begin 2 a 1000 0 = (⟨1, IntKind.wrap .u32 (a + 1), 0, IntKind.wrap .u32 (a + 1), 1000, true, false, false, false⟩, 0) := by
    intro a
    unfold F_r15_Begin N_r15_Begin G_r15_Begin
    have e1 : F_r15_in 1000 = true := by decide +kernel
    have e2 : F_r15_in 0 = true := by decide +kernel
    have e3 : (Ev.bitsOp BinOp.and IntKind.i64 2 23 != 2) = false := by decide +kernel
    have e4 : IntKind.wrap .u32 1000 = 1000 := by decide
    rw [e1, e2, e3, e4]
    rfl
  rw [h, h]
  refine ⟨?_, rfl, ?_⟩
  · refine Prod.ext (T_api_Conn.ext rfl ?_ rfl ?_ rfl rfl rfl rfl rfl) rfl
    · show IntKind.wrap .u32 (IntKind.wrap .u32 (a + v) + 1) = sh v (IntKind.wrap .u32 (a + 1))
      unfold sh
      simp only [w_u32]
      omega
    · show IntKind.wrap .u32 (IntKind.wrap .u32 (a + v) + 1) = sh v (IntKind.wrap .u32 (a + 1))
      unfold sh
      simp only [w_u32]
      omega
  · show In32 (IntKind.wrap .u32 (a + 1))
    unfold In32
    rw [w_u32]
    omega

theorem lawp_TcpMoved (x0 x1 : Int) (x2 : List T_law15_Talk) (hlen : x2.length < 2 ^ 62) (hx32 : ∀ x ∈ x2, In32 x.G_Ack) : F_law15_TcpMoved x0 x1 (x2.flatMap c_law15_Talk) = some true := by
  unfold F_law15_TcpMoved
  refine Ev.lim_eq (x2.length + 1) fun m hm => ?_
  unfold N_law15_TcpMoved
  obtain ⟨e1, e2, e3⟩ := begin_mv x0 x1
  have ha : F_law15_alive = true := rfl
  rw [Ev.flat_dlen (c := c_law15_Talk) (z := 6) talk_len (by decide)]
  simp only [a_Begin, e1, e2, ha]
  exact moved_loop m x1 x2 hlen hx32 m 0 (Nat.zero_le _) (by omega) _ e3

theorem lawd_TcpMoved (x0 : Int) (x1 : Int) (x2 : List T_law15_Talk) (r0 : IntKind.u32.has x0) (r1 : IntKind.u32.has x1) (z2 : x2.length * 40 ≤ reachBytes) (q2 : ∀ x ∈ x2, IntKind.i64.has x.Side ∧ IntKind.i64.has x.G_Flags ∧ IntKind.i64.has x.G_Win ∧ IntKind.i64.has x.G_Size ∧ IntKind.u32.has x.G_Seq ∧ IntKind.u32.has x.G_Ack) : F_law15_TcpMoved x0 x1 (x2.flatMap c_law15_Talk) = some true := by
  refine lawp_TcpMoved x0 x1 x2 ?_ (fun x hx => ?_)
  · have hb : reachBytes = 140737488351232 := by decide
    rw [hb] at z2
    omega
  · have h := (q2 x hx).2.2.2.2.2
    have m0 : IntKind.u32.min = 0 := by decide
    have m1 : IntKind.u32.max = 4294967295 := by decide
    unfold IntKind.has at h
    rw [m0, m1] at h
    unfold In32
    omega

end Go.Proofs.Yteljeekapcenlaa
