/-
  Tcp: an opened stream takes what lies within what the other side lets it send. No conditions.
-/
import Derived.Test.YteljeekapcenlaaPs
namespace Go.Proofs.Yteljeekapcenlaa
open Go Go.RowKit
set_option linter.unusedVariables false
set_option linter.unusedSimpArgs false

def I32 (x : Int) : Prop := 0 ≤ x ∧ x < 4294967296
/-- a stream behind its handshake; state, ended or not -/
def oq (st a b e f : Int) (x y : Bool) : T_api_Conn := ⟨st, a, b, e, f, true, true, x, y⟩
theorem From_e (a b : Int) : F_r15_From a b = decide ((a - b) % 4294967296 < 2147483648) := by
  show Ev.ltI (IntKind.u32.wrap (a - b)) 2147483648 = _
  rw [Ev.ltI_eq, w_u32]
theorem in_of {w : Int} (h : 0 ≤ w ∧ w ≤ 65535) : F_r15_in w = true := by
  unfold F_r15_in N_r15_in G_r15_in
  simp only [Ev.leI_eq, Ev.ltI_eq]
  simp [h.1, h.2]
theorem End_16 (w z s a : Int) : F_r15_End ⟨16, w, z, s, a⟩ = IntKind.wrap .u32 (s + IntKind.wrap .u32 z) := by
  unfold F_r15_End N_r15_End G_r15_End
  have h1 : (Ev.bitsOp .and .i64 16 1 != 0) = false := by kernel_rfl
  have h2 : (Ev.bitsOp .and .i64 16 2 != 0) = false := by kernel_rfl
  simp only [h1, h2, cond_false]
theorem End_17 (w s a : Int) : F_r15_End ⟨17, w, 0, s, a⟩ = (s + 1) % 4294967296 := by
  unfold F_r15_End N_r15_End G_r15_End
  have h1 : (Ev.bitsOp .and .i64 17 1 != 0) = true := by kernel_rfl
  have h2 : (Ev.bitsOp .and .i64 17 2 != 0) = false := by kernel_rfl
  simp only [h1, h2, cond_false, cond_true, w_u32]
  omega
theorem End_18 (w s a : Int) : F_r15_End ⟨18, w, 0, s, a⟩ = (s + 1) % 4294967296 := by
  unfold F_r15_End N_r15_End G_r15_End
  have h1 : (Ev.bitsOp .and .i64 18 1 != 0) = false := by kernel_rfl
  have h2 : (Ev.bitsOp .and .i64 18 2 != 0) = true := by kernel_rfl
  simp only [h1, h2, cond_false, cond_true, w_u32]
  omega
theorem wind0 (c : T_api_Conn) (g : T_r15_Segment) : F_r15_window c 0 g = (c.Known_c0 && (F_r15_From (F_r15_End g) (IntKind.u32.wrap (c.Next_c0 - 65535)) && F_r15_From c.Edge_c0 (F_r15_End g))) := by
  show N_r15_windowv0 F_r15_End F_r15_From c g = _
  unfold N_r15_windowv0 G_r15_windowv0
  generalize c.Known_c0 = x
  generalize F_r15_From (F_r15_End _) _ = y
  cases x <;> cases y <;> rfl
theorem wind1 (c : T_api_Conn) (g : T_r15_Segment) : F_r15_window c 1 g = (c.Known_c1 && (F_r15_From (F_r15_End g) (IntKind.u32.wrap (c.Next_c1 - 65535)) && F_r15_From c.Edge_c1 (F_r15_End g))) := by
  show N_r15_windowv1 F_r15_End F_r15_From c g = _
  unfold N_r15_windowv1 G_r15_windowv1
  generalize c.Known_c1 = x
  generalize F_r15_From (F_r15_End _) _ = y
  cases x <;> cases y <;> rfl

/-- what is taken of side 0 -/
theorem take0 (st a b e f w z fl n m : Int) (k : Bool) (hst : st = 2 ∨ st = 3) (hfl : (fl = 16 ∧ k = false) ∨ (fl = 17 ∧ k = true)) (hw : 0 ≤ w ∧ w ≤ 65535) (hz : 0 ≤ z ∧ z ≤ 65535)
    (hn : F_r15_End ⟨fl, w, z, a, b⟩ = n) (hm : IntKind.wrap .u32 (b + IntKind.wrap .u32 w) = m)
    (h1 : F_r15_From n (IntKind.u32.wrap (a - 65535)) = true) (h2 : F_r15_From e n = true) (h3 : F_r15_From b (IntKind.u32.wrap (b - 65535)) = true) (h4 : F_r15_From b b = true)
    (h5 : F_r15_From n a = true) (h6 : F_r15_From m f = true) :
    F_r15_Step (oq st a b e f false false) (.ofNat 0) ⟨fl, w, z, a, b⟩ = (oq (bif k then 4 else 3) n b e m k false, 0) := by
  show N_r15_Stepv0 F_r15_Right F_r15_in F_r15_window F_r15_syn F_r15_From F_r15_End (oq st a b e f false false) ⟨fl, w, z, a, b⟩ = _
  unfold N_r15_Stepv0 G_r15_Stepv0
  have hR : F_r15_Right (oq st a b e f false false) = true := by rcases hst with rfl | rfl <;> rfl
  have hW := in_of hw
  have hZ := in_of hz
  have hwin : F_r15_window (oq st a b e f false false) 0 ⟨fl, w, z, a, b⟩ = true := by
    rw [wind0, hn]
    show (true && (F_r15_From n (IntKind.u32.wrap (a - 65535)) && F_r15_From e n)) = true
    rw [h1, h2]; rfl
  have b4 : (Ev.bitsOp .and .i64 fl 4 != 0) = false := by rcases hfl with ⟨rfl, _⟩ | ⟨rfl, _⟩ <;> kernel_rfl
  have b2 : (Ev.bitsOp .and .i64 fl 2 != 0) = false := by rcases hfl with ⟨rfl, _⟩ | ⟨rfl, _⟩ <;> kernel_rfl
  have b16 : (Ev.bitsOp .and .i64 fl 16 != 0) = true := by rcases hfl with ⟨rfl, _⟩ | ⟨rfl, _⟩ <;> kernel_rfl
  have b1 : (Ev.bitsOp .and .i64 fl 1 != 0) = k := by rcases hfl with ⟨rfl, rfl⟩ | ⟨rfl, rfl⟩ <;> kernel_rfl
  have p0 : (oq st a b e f false false).Next_c0 = a := rfl
  have p1 : (oq st a b e f false false).Next_c1 = b := rfl
  have p2 : (oq st a b e f false false).Edge_c0 = e := rfl
  have p3 : (oq st a b e f false false).Edge_c1 = f := rfl
  have s6 : ((oq st a b e f false false).State == 6) = false := by rcases hst with rfl | rfl <;> rfl
  have s1 : ((oq st a b e f false false).State == 1) = false := by rcases hst with rfl | rfl <;> rfl
  simp only [hR, hW, hZ, hwin, b4, b2, b16, b1, s6, s1, p0, p1, p2, p3, hn, hm, h3, h4, h5, h6, Bool.not_true, Bool.not_false, cond_true, cond_false]
  cases k <;> rfl

theorem take1 (st a b e f w z fl n m : Int) (k x : Bool) (hst : (st = 3 ∧ x = false) ∨ (st = 4 ∧ x = true)) (hfl : (fl = 16 ∧ k = false) ∨ (fl = 17 ∧ k = true)) (hw : 0 ≤ w ∧ w ≤ 65535) (hz : 0 ≤ z ∧ z ≤ 65535)
    (hn : F_r15_End ⟨fl, w, z, b, a⟩ = n) (hm : IntKind.wrap .u32 (a + IntKind.wrap .u32 w) = m)
    (h1 : F_r15_From n (IntKind.u32.wrap (b - 65535)) = true) (h2 : F_r15_From f n = true) (h3 : F_r15_From a (IntKind.u32.wrap (a - 65535)) = true) (h4 : F_r15_From a a = true)
    (h5 : F_r15_From n b = true) (h6 : F_r15_From m e = true) :
    F_r15_Step (oq st a b e f x false) (.ofNat 1) ⟨fl, w, z, b, a⟩ = (oq (bif x && k then 5 else bif x || k then 4 else 3) a n m f x k, 0) := by
  show N_r15_Stepv1 F_r15_Right F_r15_in F_r15_window F_r15_syn F_r15_From F_r15_End (oq st a b e f x false) ⟨fl, w, z, b, a⟩ = _
  unfold N_r15_Stepv1 G_r15_Stepv1
  have hR : F_r15_Right (oq st a b e f x false) = true := by rcases hst with ⟨rfl, rfl⟩ | ⟨rfl, rfl⟩ <;> rfl
  have hW := in_of hw
  have hZ := in_of hz
  have hwin : F_r15_window (oq st a b e f x false) 1 ⟨fl, w, z, b, a⟩ = true := by
    rw [wind1, hn]
    show (true && (F_r15_From n (IntKind.u32.wrap (b - 65535)) && F_r15_From f n)) = true
    rw [h1, h2]; rfl
  have b4 : (Ev.bitsOp .and .i64 fl 4 != 0) = false := by rcases hfl with ⟨rfl, _⟩ | ⟨rfl, _⟩ <;> kernel_rfl
  have b2 : (Ev.bitsOp .and .i64 fl 2 != 0) = false := by rcases hfl with ⟨rfl, _⟩ | ⟨rfl, _⟩ <;> kernel_rfl
  have b16 : (Ev.bitsOp .and .i64 fl 16 != 0) = true := by rcases hfl with ⟨rfl, _⟩ | ⟨rfl, _⟩ <;> kernel_rfl
  have b1 : (Ev.bitsOp .and .i64 fl 1 != 0) = k := by rcases hfl with ⟨rfl, rfl⟩ | ⟨rfl, rfl⟩ <;> kernel_rfl
  have p0 : (oq st a b e f x false).Next_c0 = a := rfl
  have p1 : (oq st a b e f x false).Next_c1 = b := rfl
  have p2 : (oq st a b e f x false).Edge_c0 = e := rfl
  have p3 : (oq st a b e f x false).Edge_c1 = f := rfl
  have p4 : (oq st a b e f x false).Ended_c0 = x := rfl
  have s6 : ((oq st a b e f x false).State == 6) = false := by rcases hst with ⟨rfl, rfl⟩ | ⟨rfl, rfl⟩ <;> rfl
  have s1 : ((oq st a b e f x false).State == 1) = false := by rcases hst with ⟨rfl, rfl⟩ | ⟨rfl, rfl⟩ <;> rfl
  have s2 : ((oq st a b e f x false).State == 2) = false := by rcases hst with ⟨rfl, rfl⟩ | ⟨rfl, rfl⟩ <;> rfl
  simp only [hR, hW, hZ, hwin, b4, b2, b16, b1, s6, s1, s2, p0, p1, p2, p3, p4, hn, hm, h3, h4, h5, h6, Bool.not_true, Bool.not_false, cond_true, cond_false]
  cases k <;> cases x <;> rfl

/-- what one side may still send -/
def room (n e : Int) : Int := (e - n) % 4294967296

theorem from_self (a : Int) : F_r15_From a a = true := by rw [From_e, decide_eq_true]; omega
theorem from_back {a : Int} (ha : I32 a) : F_r15_From a (IntKind.u32.wrap (a - 65535)) = true := by
  obtain ⟨h1, h2⟩ := ha
  rw [From_e, decide_eq_true]
  simp only [w_u32]; omega

theorem data0 {st a b e f w z : Int} (hst : st = 2 ∨ st = 3) (ha : I32 a) (hb : I32 b) (he : I32 e) (hf : I32 f) (hw : 0 ≤ w ∧ w ≤ 65535) (hz : 0 ≤ z ∧ z ≤ 9999) (h0 : z ≤ room a e) (h0' : room a e ≤ 100000) (h1 : room b f ≤ w) :
    F_r15_Step (oq st a b e f false false) (.ofNat 0) ⟨16, w, z, a, b⟩ = (oq 3 ((a + z) % 4294967296) b e ((b + w) % 4294967296) false false, 0) := by
  obtain ⟨a1, a2⟩ := ha
  obtain ⟨b1, b2⟩ := hb
  obtain ⟨e1, e2⟩ := he
  obtain ⟨f1, f2⟩ := hf
  unfold room at h0 h0' h1
  refine take0 st a b e f w z 16 _ _ false hst (.inl ⟨rfl, rfl⟩) hw ⟨hz.1, by omega⟩ ?_ ?_ ?_ ?_ (from_back ⟨b1, b2⟩) (from_self b) ?_ ?_
  · rw [End_16]; simp only [w_u32]; omega
  · simp only [w_u32]; omega
  all_goals (rw [From_e, decide_eq_true]; (try simp only [w_u32]); omega)
theorem data1 {a b e f w z : Int} (ha : I32 a) (hb : I32 b) (he : I32 e) (hf : I32 f) (hw : 0 ≤ w ∧ w ≤ 65535) (hz : 0 ≤ z ∧ z ≤ 9999) (h0 : z ≤ room b f) (h0' : room b f ≤ 100000) (h1 : room a e ≤ w) :
    F_r15_Step (oq 3 a b e f false false) (.ofNat 1) ⟨16, w, z, b, a⟩ = (oq 3 a ((b + z) % 4294967296) ((a + w) % 4294967296) f false false, 0) := by
  obtain ⟨a1, a2⟩ := ha
  obtain ⟨b1, b2⟩ := hb
  obtain ⟨e1, e2⟩ := he
  obtain ⟨f1, f2⟩ := hf
  unfold room at h0 h0' h1
  refine take1 3 a b e f w z 16 _ _ false false (.inl ⟨rfl, rfl⟩) (.inl ⟨rfl, rfl⟩) hw ⟨hz.1, by omega⟩ ?_ ?_ ?_ ?_ (from_back ⟨a1, a2⟩) (from_self a) ?_ ?_
  · rw [End_16]; simp only [w_u32]; omega
  · simp only [w_u32]; omega
  all_goals (rw [From_e, decide_eq_true]; (try simp only [w_u32]); omega)
theorem fin0 {a b e f w : Int} (ha : I32 a) (hb : I32 b) (he : I32 e) (hf : I32 f) (hw : 0 ≤ w ∧ w ≤ 65535) (h0 : 1 ≤ room a e) (h0' : room a e ≤ 100000) (h1 : room b f ≤ w) :
    F_r15_Step (oq 3 a b e f false false) (.ofNat 0) ⟨17, w, 0, a, b⟩ = (oq 4 ((a + 1) % 4294967296) b e ((b + w) % 4294967296) true false, 0) := by
  obtain ⟨a1, a2⟩ := ha
  obtain ⟨b1, b2⟩ := hb
  obtain ⟨e1, e2⟩ := he
  obtain ⟨f1, f2⟩ := hf
  unfold room at h0 h0' h1
  refine take0 3 a b e f w 0 17 _ _ true (.inr rfl) (.inr ⟨rfl, rfl⟩) hw ⟨by omega, by omega⟩ ?_ ?_ ?_ ?_ (from_back ⟨b1, b2⟩) (from_self b) ?_ ?_
  · rw [End_17]
  · simp only [w_u32]; omega
  all_goals (rw [From_e, decide_eq_true]; (try simp only [w_u32]); omega)
theorem fin1 {a b e f w : Int} (ha : I32 a) (hb : I32 b) (he : I32 e) (hf : I32 f) (hw : 0 ≤ w ∧ w ≤ 65535) (h0 : 1 ≤ room b f) (h0' : room b f ≤ 100000) (h1 : room a e ≤ w) :
    F_r15_Step (oq 4 a b e f true false) (.ofNat 1) ⟨17, w, 0, b, a⟩ = (oq 5 a ((b + 1) % 4294967296) ((a + w) % 4294967296) f true true, 0) := by
  obtain ⟨a1, a2⟩ := ha
  obtain ⟨b1, b2⟩ := hb
  obtain ⟨e1, e2⟩ := he
  obtain ⟨f1, f2⟩ := hf
  unfold room at h0 h0' h1
  refine take1 4 a b e f w 0 17 _ _ true true (.inr ⟨rfl, rfl⟩) (.inr ⟨rfl, rfl⟩) hw ⟨by omega, by omega⟩ ?_ ?_ ?_ ?_ (from_back ⟨a1, a2⟩) (from_self a) ?_ ?_
  · rw [End_17]
  · simp only [w_u32]; omega
  all_goals (rw [From_e, decide_eq_true]; (try simp only [w_u32]); omega)

-- ---------------------------------------------------------------- the handshake

theorem begins_w (a : Int) : F_r15_Begin 2 a 20000 0 = (⟨1, (a + 1) % 4294967296, 0, (a + 1) % 4294967296, 20000, true, false, false, false⟩, 0) := by
  unfold F_r15_Begin N_r15_Begin G_r15_Begin
  have e1 : F_r15_in 20000 = true := by decide +kernel
  have e2 : F_r15_in 0 = true := by decide +kernel
  have e3 : (Ev.bitsOp BinOp.and IntKind.i64 2 23 != 2) = false := by decide +kernel
  have e4 : IntKind.wrap .u32 20000 = 20000 := by decide
  rw [e1, e2, e3, e4, w_u32]
  rfl
theorem answers_w (a b : Int) : F_r15_Step ⟨1, a, 0, a, 20000, true, false, false, false⟩ (.ofNat 1) ⟨18, 30000, 0, b, a⟩ = (oq 2 a ((b + 1) % 4294967296) ((a + 30000) % 4294967296) (((b + 1) % 4294967296 + 20000) % 4294967296) false false, 0) := by
  have hy : F_r15_syn ⟨1, a, 0, a, 20000, true, false, false, false⟩ 1 ⟨18, 30000, 0, b, a⟩ = (oq 2 a ((b + 1) % 4294967296) ((a + 30000) % 4294967296) (((b + 1) % 4294967296 + 20000) % 4294967296) false false, 0) := by
    show N_r15_synv1 F_r15_End ⟨1, a, 0, a, 20000, true, false, false, false⟩ ⟨18, 30000, 0, b, a⟩ = _
    unfold N_r15_synv1 G_r15_synv1
    have h1 : (Ev.bitsOp .and .i64 18 1 != 0) = false := by kernel_rfl
    have h16 : (Ev.bitsOp .and .i64 18 16 != 0) = true := by kernel_rfl
    have h4 : IntKind.u32.wrap 30000 = 30000 := by kernel_rfl
    simp only [h1, h16, h4, End_18, beq_self_eq_true, cond_true, cond_false, w_u32]
    rfl
  show N_r15_Stepv1 F_r15_Right F_r15_in F_r15_window F_r15_syn F_r15_From F_r15_End ⟨1, a, 0, a, 20000, true, false, false, false⟩ ⟨18, 30000, 0, b, a⟩ = _
  unfold N_r15_Stepv1 G_r15_Stepv1
  have h1 : F_r15_in 30000 = true := by decide +kernel
  have h2 : F_r15_in 0 = true := by decide +kernel
  have hR : F_r15_Right ⟨1, a, 0, a, 20000, true, false, false, false⟩ = true := rfl
  have h3 : (Ev.bitsOp .and .i64 18 4 != 0) = false := by kernel_rfl
  have h4 : (Ev.bitsOp .and .i64 18 2 != 0) = true := by kernel_rfl
  have h5 : ((1 : Int) == 6) = false := rfl
  simp only [hR, h1, h2, h3, h4, h5, Bool.not_true, Bool.not_false, cond_true, cond_false]
  exact hy
end Go.Proofs.Yteljeekapcenlaa
