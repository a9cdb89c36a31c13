/-
  Tcp: segments in order behind a handshake are all taken. No conditions.
-/
import Derived.Test.YteljeekapcenlaaPd
import Derived.Test.YteljeekapcenlaaTt
import Derived.Test.YteljeekapcenlaaEvGg
namespace Go.Proofs.Yteljeekapcenlaa
open Go Go.RowKit
set_option linter.unusedVariables false
set_option linter.unusedSimpArgs false

theorem bit1 (i : Nat) (h : i < 2 ^ 63) : Ev.bitsOp .and .i64 (i : Int) 1 = ((i % 2 : Nat) : Int) := by
  have e1 : (1 : Int) = ((1 : Nat) : Int) := rfl
  have e2 : IntKind.bits .i64 = 64 := rfl
  unfold Ev.bitsOp
  simp only [e1, BitVec.ofInt_natCast, BitVec.toNat_and, BitVec.toNat_ofNat, e2]
  rw [Nat.mod_eq_of_lt (by omega : i < 2 ^ 64), Nat.mod_eq_of_lt (by decide : 1 < 2 ^ 64), Nat.and_one_is_mod]
  have := Nat.mod_lt i (by decide : 2 > 0)
  simp [IntKind.wrap, IntKind.signed, IntKind.bits]
  omega
theorem wr64 {n : Int} (h0 : 0 ≤ n) (h1 : n < 9223372036854775808) : IntKind.i64.wrap n = n := by
  simp [IntKind.wrap, IntKind.signed, IntKind.bits]; omega

noncomputable def cU (x : Int) : List Value := [.int .u16 x]
theorem cU_len (x : Int) : (cU x).length = 1 := rfl

noncomputable def TT (m n : Nat) (cs : List Value) (len i : Int) (c : T_api_Conn) (a b : Int) : Option Bool :=
  N_law15_TcpTalks_7 F_law15_alive F_tcp_Step F_law15_opened m n cs len i 20000 30000 c.State c.Next_c0 c.Next_c1 c.Edge_c0 c.Edge_c1 c.Known_c0 c.Known_c1 c.Ended_c0 c.Ended_c1 a b

/-- what holds ahead of the i-th segment -/
def Inv (i : Nat) (a b e f : Int) : Prop := I32 a ∧ I32 b ∧ I32 e ∧ I32 f ∧ ((i % 2 = 0 ∧ room a e = 30000 ∧ 10001 ≤ room b f ∧ room b f ≤ 20000) ∨ (i % 2 = 1 ∧ room b f = 20000 ∧ 20001 ≤ room a e ∧ room a e ≤ 30000))

theorem I32_mod (x : Int) : I32 (x % 4294967296) := by unfold I32; omega
theorem tm {x : Int} (h0 : 0 ≤ x) (h1 : x < 65536) : Int.tmod (IntKind.wrap .i64 x) 10000 = x % 10000 := by
  rw [wr64 h0 (by omega), Int.tmod_eq_emod_of_nonneg h0]

theorem talks_loop (m : Nat) (xs : List Int) (hlen : xs.length < 2 ^ 62) (hx : ∀ x ∈ xs, 0 ≤ x ∧ x < 65536) : ∀ (n i : Nat), i ≤ xs.length → xs.length - i < n → ∀ a b e f, Inv i a b e f →
    TT m n (xs.flatMap cU) (xs.length : Nat) (i : Nat) (oq 3 a b e f false false) a b = some true := by
  intro n
  induction n with
  | zero => intro i _ h; omega
  | succ n ih =>
    intro i hi hn a b e f hI
    unfold TT
    rw [N_law15_TcpTalks_7]
    rw [Ev.ltI_eq]
    obtain ⟨ia, ib, ie, if_, hI⟩ := hI
    by_cases hlt : i < xs.length
    · rw [decide_eq_true (by omega : ((i : Nat) : Int) < ((xs.length : Nat) : Int)), cond_true]
      obtain ⟨x, hxx⟩ : ∃ x, xs[i]? = some x := ⟨xs[i], List.getElem?_eq_getElem hlt⟩
      obtain ⟨x0, x1⟩ := hx x (List.mem_of_getElem? hxx)
      have hd := Ev.flat_drop (c := cU) (z := 1) cU_len hxx
      generalize (xs.flatMap cU).drop ((i + 1) * 1) = rest at hd
      rw [Ev.flat_dlen (c := cU) (z := 1) cU_len (by decide)]
      rw [decide_eq_true (by omega : (0 : Int) ≤ ((i : Nat) : Int)), decide_eq_true (by omega : ((i : Nat) : Int) < ((xs.length : Nat) : Int))]
      simp only [Bool.and_true, Bool.true_and, cond_true, Int.toNat_natCast]
      rw [Ev.okD_drop0 _ _ (i * 1), hd]
      have h00 : Ev.nthC (xs.flatMap cU) (i * 1) = Value.int .u16 x := by rw [Ev.nthC_drop0, hd]; rfl
      have hok : Ev.okD [(Ev.Kd.int IntKind.u16, 0)] (cU x ++ rest) 0 = true := rfl
      have hu : Ev.uI (Value.int .u16 x) = x := rfl
      rw [hok]
      simp only [h00, hu, tm x0 x1, a_Step, cond_true]
      rw [wr64 (by omega) (by omega), bit1 i (by omega)]
      have hz : 0 ≤ x % 10000 ∧ x % 10000 ≤ 9999 := by omega
      generalize x % 10000 = z at hz
      have e3 : IntKind.wrap .u32 z = z := by rw [w_u32]; omega
      simp only [e3, w_u32]
      rcases hI with ⟨p, q1, q2, q3⟩ | ⟨p, q1, q2, q3⟩
      · rw [p]
        have hs := data0 (st := 3) (a := a) (b := b) (e := e) (f := f) (w := 20000) (z := z) (.inr rfl) ia ib ie if_ ⟨by decide, by decide⟩ hz (by omega) (by omega) (by omega)
        change (bif (F_r15_Step (oq 3 a b e f false false) (.ofNat 0) ⟨16, 20000, z, a, b⟩).2 != 0 then some false else bif (F_r15_Step (oq 3 a b e f false false) (.ofNat 0) ⟨16, 20000, z, a, b⟩).1.State != 3 then some false else
          bif !((F_r15_Step (oq 3 a b e f false false) (.ofNat 0) ⟨16, 20000, z, a, b⟩).1.Next_c0 == (a + z) % 4294967296 && (F_r15_Step (oq 3 a b e f false false) (.ofNat 0) ⟨16, 20000, z, a, b⟩).1.Next_c1 == b) then some false else
          TT m n (xs.flatMap cU) (xs.length : Nat) ((i + 1 : Nat) : Int) (F_r15_Step (oq 3 a b e f false false) (.ofNat 0) ⟨16, 20000, z, a, b⟩).1 ((a + z) % 4294967296) b) = some true
        rw [hs]
        have e1 : (oq 3 ((a + z) % 4294967296) b e ((b + 20000) % 4294967296) false false).Next_c0 = (a + z) % 4294967296 := rfl
        have e2 : (oq 3 ((a + z) % 4294967296) b e ((b + 20000) % 4294967296) false false).Next_c1 = b := rfl
        have e4 : (oq 3 ((a + z) % 4294967296) b e ((b + 20000) % 4294967296) false false).State = 3 := rfl
        simp only [e1, e2, e4, bne_self_eq_false, beq_self_eq_true, Bool.and_true, Bool.not_true, cond_false]
        refine ih (i + 1) (by omega) (by omega) _ _ _ _ ⟨I32_mod _, ib, ie, I32_mod _, .inr ⟨by omega, ?_, ?_, ?_⟩⟩
        all_goals (unfold room at *; unfold I32 at *; omega)
      · rw [p]
        have hs := data1 (a := a) (b := b) (e := e) (f := f) (w := 30000) (z := z) ia ib ie if_ ⟨by decide, by decide⟩ hz (by omega) (by omega) (by omega)
        change (bif (F_r15_Step (oq 3 a b e f false false) (.ofNat 1) ⟨16, 30000, z, b, a⟩).2 != 0 then some false else bif (F_r15_Step (oq 3 a b e f false false) (.ofNat 1) ⟨16, 30000, z, b, a⟩).1.State != 3 then some false else
          bif !((F_r15_Step (oq 3 a b e f false false) (.ofNat 1) ⟨16, 30000, z, b, a⟩).1.Next_c0 == a && (F_r15_Step (oq 3 a b e f false false) (.ofNat 1) ⟨16, 30000, z, b, a⟩).1.Next_c1 == (b + z) % 4294967296) then some false else
          TT m n (xs.flatMap cU) (xs.length : Nat) ((i + 1 : Nat) : Int) (F_r15_Step (oq 3 a b e f false false) (.ofNat 1) ⟨16, 30000, z, b, a⟩).1 a ((b + z) % 4294967296)) = some true
        rw [hs]
        have e1 : (oq 3 a ((b + z) % 4294967296) ((a + 30000) % 4294967296) f false false).Next_c0 = a := rfl
        have e2 : (oq 3 a ((b + z) % 4294967296) ((a + 30000) % 4294967296) f false false).Next_c1 = (b + z) % 4294967296 := rfl
        have e4 : (oq 3 a ((b + z) % 4294967296) ((a + 30000) % 4294967296) f false false).State = 3 := rfl
        simp only [e1, e2, e4, bne_self_eq_false, beq_self_eq_true, Bool.and_true, Bool.not_true, cond_false]
        refine ih (i + 1) (by omega) (by omega) _ _ _ _ ⟨ia, I32_mod _, I32_mod _, if_, .inl ⟨by omega, ?_, ?_, ?_⟩⟩
        all_goals (unfold room at *; unfold I32 at *; omega)
    · rw [decide_eq_false (by omega), cond_false]
      simp only [a_Step, w_u32]
      have r0 : 1 ≤ room a e ∧ room a e ≤ 30000 ∧ 1 ≤ room b f ∧ room b f ≤ 20000 := by rcases hI with ⟨_, _, _, _⟩ | ⟨_, _, _, _⟩ <;> omega
      have hs := fin0 (a := a) (b := b) (e := e) (f := f) (w := 20000) ia ib ie if_ ⟨by decide, by decide⟩ (by omega) (by omega) (by omega)
      have ht := fin1 (a := (a + 1) % 4294967296) (b := b) (e := e) (f := (b + 20000) % 4294967296) (w := 30000) (I32_mod _) ib ie (I32_mod _) ⟨by decide, by decide⟩ (by unfold room at *; unfold I32 at *; omega) (by unfold room at *; unfold I32 at *; omega) (by unfold room at *; unfold I32 at *; omega)
      change (bif (F_r15_Step (oq 3 a b e f false false) (.ofNat 0) ⟨17, 20000, 0, a, b⟩).2 == 0 then bif (F_r15_Step (oq 3 a b e f false false) (.ofNat 0) ⟨17, 20000, 0, a, b⟩).1.State == 4 then
        bif (F_r15_Step (F_r15_Step (oq 3 a b e f false false) (.ofNat 0) ⟨17, 20000, 0, a, b⟩).1 (.ofNat 1) ⟨17, 30000, 0, b, (a + 1) % 4294967296⟩).2 == 0 then some ((F_r15_Step (F_r15_Step (oq 3 a b e f false false) (.ofNat 0) ⟨17, 20000, 0, a, b⟩).1 (.ofNat 1) ⟨17, 30000, 0, b, (a + 1) % 4294967296⟩).1.State == 5) else some false else some false else some false) = some true
      rw [hs]
      dsimp only
      rw [ht]
      rfl

theorem opened_w (a b : Int) (ha : I32 a) (hb : I32 b) : F_law15_opened a b ⟨20000, 30000⟩ = some (oq 3 ((a + 1) % 4294967296) ((b + 1) % 4294967296) (((a + 1) % 4294967296 + 30000) % 4294967296) (((b + 1) % 4294967296 + 20000) % 4294967296) false false, true) := by
  have e1 : F_tcp_Begin 2 a 20000 0 = _ := (a_Begin 2 a 20000 0).trans (begins_w a)
  have e2 := answers_w ((a + 1) % 4294967296) b
  have e3 := data0 (st := 2) (a := (a + 1) % 4294967296) (b := (b + 1) % 4294967296) (e := ((a + 1) % 4294967296 + 30000) % 4294967296) (f := ((b + 1) % 4294967296 + 20000) % 4294967296) (w := 20000) (z := 0) (.inl rfl) (I32_mod _) (I32_mod _) (I32_mod _) (I32_mod _) ⟨by decide, by decide⟩ ⟨by decide, by decide⟩ (by unfold room; omega) (by unfold room; omega) (by unfold room; omega)
  unfold F_law15_opened N_law15_opened
  simp only [a_Step, w_u32]
  rw [e1]
  dsimp only
  change (bif (0 : Int) == 0 then bif (F_r15_Step ⟨1, (a + 1) % 4294967296, 0, (a + 1) % 4294967296, 20000, true, false, false, false⟩ (.ofNat 1) ⟨18, 30000, 0, b, (a + 1) % 4294967296⟩).2 == 0 then
    bif (F_r15_Step (F_r15_Step ⟨1, (a + 1) % 4294967296, 0, (a + 1) % 4294967296, 20000, true, false, false, false⟩ (.ofNat 1) ⟨18, 30000, 0, b, (a + 1) % 4294967296⟩).1 (.ofNat 0) ⟨16, 20000, 0, (a + 1) % 4294967296, (b + 1) % 4294967296⟩).2 == 0 then
      some ((F_r15_Step (F_r15_Step ⟨1, (a + 1) % 4294967296, 0, (a + 1) % 4294967296, 20000, true, false, false, false⟩ (.ofNat 1) ⟨18, 30000, 0, b, (a + 1) % 4294967296⟩).1 (.ofNat 0) ⟨16, 20000, 0, (a + 1) % 4294967296, (b + 1) % 4294967296⟩).1, (F_r15_Step (F_r15_Step ⟨1, (a + 1) % 4294967296, 0, (a + 1) % 4294967296, 20000, true, false, false, false⟩ (.ofNat 1) ⟨18, 30000, 0, b, (a + 1) % 4294967296⟩).1 (.ofNat 0) ⟨16, 20000, 0, (a + 1) % 4294967296, (b + 1) % 4294967296⟩).1.State == 3)
    else _ else _ else _) = _
  rw [e2]
  dsimp only
  rw [e3]
  dsimp only
  have e4 : ((a + 1) % 4294967296 + 0) % 4294967296 = (a + 1) % 4294967296 := by omega
  rw [e4]
  rfl

theorem lawp_TcpTalks (x0 x1 : Int) (x2 : List Int) (h0 : I32 x0) (h1 : I32 x1) (hlen : x2.length < 2 ^ 62) (hx : ∀ x ∈ x2, 0 ≤ x ∧ x < 65536) : F_law15_TcpTalks x0 x1 (x2.flatMap cU) = some true := by
  unfold F_law15_TcpTalks
  refine Ev.lim_eq (x2.length + 1) fun m hm => ?_
  unfold N_law15_TcpTalks
  have ha : F_law15_alive = true := rfl
  rw [Ev.flat_dlen (c := cU) (z := 1) cU_len (by decide)]
  rw [show (T_law17_Caps.mk 20000 30000) = ⟨20000, 30000⟩ from rfl, opened_w x0 x1 h0 h1, Ev.bnd_some, ha]
  simp only [w_u32]
  refine (show _ = TT m m (x2.flatMap cU) (x2.length : Nat) ((0 : Nat) : Int) (oq 3 ((x0 + 1) % 4294967296) ((x1 + 1) % 4294967296) (((x0 + 1) % 4294967296 + 30000) % 4294967296) (((x1 + 1) % 4294967296 + 20000) % 4294967296) false false) ((x0 + 1) % 4294967296) ((x1 + 1) % 4294967296) from rfl).trans ?_
  refine talks_loop m x2 hlen hx m 0 (Nat.zero_le _) (by omega) _ _ _ _ ⟨I32_mod _, I32_mod _, I32_mod _, I32_mod _, .inl ⟨rfl, ?_, ?_, ?_⟩⟩
  all_goals (unfold room; omega)

theorem lawd_TcpTalks (x0 : Int) (x1 : Int) (x2 : List Int) (r0 : IntKind.u32.has x0) (r1 : IntKind.u32.has x1) (z2 : x2.length * 2 ≤ reachBytes) (q2 : ∀ x ∈ x2, IntKind.u16.has x) : F_law15_TcpTalks x0 x1 (x2.flatMap (fun x => [.int .u16 x])) = some true := by
  have m0 : IntKind.u32.min = 0 := by decide
  have m1 : IntKind.u32.max = 4294967295 := by decide
  have m2 : IntKind.u16.min = 0 := by decide
  have m3 : IntKind.u16.max = 65535 := by decide
  have hb : reachBytes = 140737488351232 := by decide
  rw [hb] at z2
  unfold IntKind.has at r0 r1 q2
  rw [m0, m1] at r0 r1
  rw [m2, m3] at q2
  exact lawp_TcpTalks x0 x1 x2 (by unfold I32; omega) (by unfold I32; omega) (by omega) (fun x hx => by have := q2 x hx; omega)

end Go.Proofs.Yteljeekapcenlaa
