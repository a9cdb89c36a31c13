/-
  Streams: the loop of 'TcpRuns' answers true. No conditions.
-/
import Derived.Test.YteljeekapcenlaaPr
import Derived.Test.YteljeekapcenlaaPk
namespace Go.Proofs.Yteljeekapcenlaa
open Go Go.Proofs.Yteljeekapcenlaa.Ev
set_option linter.unusedSimpArgs false
set_option linter.unusedVariables false
set_option maxHeartbeats 4000000

theorem and_65535 {n : Int} (h : n = Ev.bitsOp .and .i64 n 65535) : 0 ≤ n ∧ n ≤ 65535 := by
  have e : (65535#64).toInt = 65535 := by decide
  have := and_bv n 65535#64
  rw [e] at this
  rw [h, this, BitVec.toInt_eq_toNat_cond]
  have h2 : (BitVec.ofInt 64 n &&& 65535#64).toNat ≤ 65535 := by
    rw [BitVec.toNat_and]; exact Nat.and_le_right
  rw [if_pos (by omega)]
  omega

theorem keep_top (H : Ev.AH) (bs : List Blk) : Ev.Keep (· < H.len) H (H.top bs) :=
  ⟨rfl, rfl, by rw [Ev.AH.len_top]; omega, fun b hb => by show (H.bs ++ bs)[b]? = _; exact List.getElem?_append_left hb⟩

theorem wrap_small {i : Nat} (h : i + 1 < 9223372036854775808) : IntKind.wrap .i64 ((i : Int) + 1) = ((i + 1 : Nat) : Int) := by
  rw [w_i64]; split <;> omega

theorem runs_loop {s : Ev.Sl} {xs : List T_law15_Talk} {b : Nat} (hsm : xs.length < 9223372036854775808) (hne : ∀ a, s.a = some a → xs ≠ [] → a.block ≠ b) (m : Nat) :
    ∀ (k n i : Nat) (H : Ev.AH) (c : T_api_Conn), Ev.WF H → Ev.Rd el_law15_Talk H s xs → H.row b = some (c_api_Conn c) → H.wok b = true → F_r15_Right c = true → i + k = xs.length → k ≤ n →
      ∃ H', L_law15_TcpRuns_5 orcR m (n + 1) ⟨b, 0, none⟩ s.a s.l s.c s.l i H = some (.bool true, H') := by
  intro k
  induction k with
  | zero =>
    intro n i H c wf hr hc hw hR hi hn
    refine ⟨H, ?_⟩
    rw [loop_law15_TcpRuns_5]
    have hl : s.l = xs.length := hr.len
    refine (cond_f (by rw [Ev.ltI_eq, decide_eq_false_iff_not]; omega)).trans ?_
    exact bnd_of (call_alive H)
  | succ k ih =>
    intro n i H c wf hr hc hw hR hi hn
    have hlt : i < xs.length := by omega
    obtain ⟨n', rfl⟩ : ∃ n', n = n' + 1 := ⟨n - 1, by omega⟩
    generalize hd : F_tcp_Step c xs[i].Side (gs xs[i]) = d
    have hbl : b < H.len := Ev.AH.lt_of (Ev.AH.row_iff.1 hc)
    -- the memory behind a refused step, and behind one that is taken
    have kA : ∃ H', L_law15_TcpRuns_5 orcR m (n' + 1) ⟨b, 0, none⟩ s.a s.l s.c s.l (IntKind.wrap .i64 (i + 1)) (mem2 H xs[i] d.1) = some (.bool true, H') := by
      rw [wrap_small (by omega)]
      exact ih n' (i + 1) _ c (wf.top _) (hr.keep (keep_top H _) (fun a ha hx => hr.lt ha hx)) (Ev.AH.row_old H hc) hw hR (by omega) (by omega)
    have kB : F_r15_Right d.1 = true → ∃ H', L_law15_TcpRuns_5 orcR m (n' + 1) ⟨b, 0, none⟩ s.a s.l s.c s.l (IntKind.wrap .i64 (i + 1)) (mem2 (H.put b (.cells (c_api_Conn d.1))) xs[i] d.1) = some (.bool true, H') := by
      intro hR'
      rw [wrap_small (by omega)]
      have r1 : Ev.Rd el_law15_Talk (H.put b (.cells (c_api_Conn d.1))) s xs := hr.keep (Ev.Keep.put H b _) hne
      exact ih n' (i + 1) _ d.1 ((wf.put _ _).top _) (r1.keep (keep_top _ _) (fun a ha hx => r1.lt ha hx)) (Ev.AH.row_old _ (Ev.AH.row_iff.2 (Ev.AH.put_new H _ hbl))) hw hR' (by omega) (by omega)
    suffices hh : ∃ H', _ = some (Value.bool true, H') from hh.elim fun H' h => ⟨H', runs_round wf hr hc hw i hlt m (n' + 1) d hd _ h⟩
    by_cases h0 : d.2 = 0
    · have ok := taken_ok c xs[i].Side (gs xs[i]) hR (by rw [hd]; exact h0)
      rw [hd] at ok
      have e0 : (d.2 != 0) = false := by rw [h0]; rfl
      have eR : F_tcp_Right d.1 = true := by rw [f_Right]; exact ok.1
      obtain ⟨H', hH⟩ := kB ok.1
      refine ⟨H', ?_⟩
      rw [e0, eR, hH]
      cases h6 : (c.State == 6)
      · rfl
      · obtain ⟨o1, o2⟩ := ok.2 (by simpa using h6)
        have o1' : (Ev.bitsOp .and .i64 xs[i].G_Flags 4 == 0) = false := by
          have o3 : (Ev.bitsOp .and .i64 xs[i].G_Flags 4 != 0) = true := o1
          simpa using o3
        have o2' : (d.1.State != 6) = false := by rw [o2]; rfl
        rw [o1', o2']; rfl
    · obtain ⟨H', hH⟩ := kA
      have e0 : (d.2 != 0) = true := by simpa using h0
      refine ⟨H', ?_⟩
      rw [e0, hH]
      have tk := taken c xs[i].Side (gs xs[i]) hR (by rw [hd]; exact h0)
      rw [hd] at tk
      cases h23 : (d.2 != 23)
      · rfl
      · have n23 : d.2 ≠ 23 := by simpa using h23
        cases hs : (Int.fdiv xs[i].Side 2 == 0)
        · rfl
        · cases hW : (xs[i].G_Win == Ev.bitsOp .and .i64 xs[i].G_Win 65535)
          · rfl
          · cases hZ : (xs[i].G_Size == Ev.bitsOp .and .i64 xs[i].G_Size 65535)
            · rfl
            · exfalso
              rcases tk with t | t | t | t
              · exact n23 t
              · exact t (by simpa using hs)
              · exact t (and_65535 (eq_of_beq hW))
              · exact t (and_65535 (eq_of_beq hZ))

theorem call_Begin (f s w z : Int) (H : Ev.AH) : Ev.callV Ew orcR 30 n_tcp_Begin [.int .i64 f, .int .u32 s, .int .i64 w, .int .i64 z] H = some (e_tcp_Begin (F_tcp_Begin f s w z)) := by kernel_rfl

theorem begin_syn (a w : Int) : (F_r15_in w = false ∧ (F_tcp_Begin 2 a w 0).2 ≠ 0) ∨ (F_r15_in w = true ∧ (F_tcp_Begin 2 a w 0).2 = 0 ∧ F_r15_Right (F_tcp_Begin 2 a w 0).1 = true) := by
  rw [a_Begin]
  show (F_r15_in w = false ∧ (G_r15_Begin (fun x => x) F_r15_in 2 a w 0).2 ≠ 0) ∨ (F_r15_in w = true ∧ (G_r15_Begin (fun x => x) F_r15_in 2 a w 0).2 = 0 ∧ F_r15_Right (G_r15_Begin (fun x => x) F_r15_in 2 a w 0).1 = true)
  unfold G_r15_Begin
  have h2 : F_r15_in 0 = true := rfl
  have h3 : (Ev.bitsOp .and .i64 2 23 != 2) = false := by kernel_rfl
  rw [h2, h3]
  cases hw : F_r15_in w
  · exact .inl ⟨rfl, fun h => by
      have h : (1 : Int) = 0 := h
      omega⟩
  · exact .inr ⟨rfl, rfl, rfl⟩

theorem good_runs (x0 x1 : Int) (s : Ev.Sl) (xs : List T_law15_Talk) (H : Ev.AH) (wf : Ev.WF H) (hr : Ev.Rd el_law15_Talk H s xs) (hsm : xs.length < 9223372036854775808) :
    ∃ H', Ev.Good Try.prog 6 [.int .u32 x0, .int .i64 x1, .slice s.a s.l s.c] H (.bool true, H') := by
  have tok : Ev.TabOk Try.prog [(n_law15_seg, s_law15_seg F_law15_seg), (n_tcp_Step, s_tcp_Step F_tcp_Step), (n_tcp_Begin, s_tcp_Begin F_tcp_Begin), (n_tcp_Right, s_tcp_Right F_tcp_Right), (n_law15_alive, s_law15_alive F_law15_alive)] :=
    Ev.TabOk.cons g_law15_seg (Ev.TabOk.cons g_tcp_Step (Ev.TabOk.cons g_tcp_Begin (Ev.TabOk.cons g_tcp_Right (Ev.TabOk.cons g_law15_alive Ev.TabOk.nil))))
  suffices hh : ∃ H', Ev.evBody Ew orcR (fun s => Ev.loopN s (xs.length + 1)) 6 [.int .u32 x0, .int .i64 x1, .slice s.a s.l s.c] H = some (.bool true, H') from
    hh.elim fun H' h => ⟨H', Ev.good_of_body envOkw tok 0 0 _ h⟩
  rw [run_law15_TcpRuns]
  generalize hd : F_tcp_Begin 2 x0 x1 0 = d
  have h1 : Ev.stX 28 tys ⟨H.len, 0, none⟩ (v_api_Conn d.1) (H.push (.cells [.int .i64 0, .int .u32 0, .int .u32 0, .int .u32 0, .int .u32 0, .bool false, .bool false, .bool false, .bool false])) = some (H.top [.cells (c_api_Conn d.1)]) := by
    refine (El.stX el_api_Conn d.1 rfl (Ev.AH.row_new H (bs := [_]) (k := 0) rfl) (Ev.AH.wok_new wf [_] 0) (by exact Nat.le_refl 9)).trans ?_
    rw [Ev.AH.push_eq]
    exact congrArg some (Ev.AH.put_new_top H _ 0 _)
  have hB := begin_syn x0 x1
  rw [hd] at hB
  have hne : ∀ a, s.a = some a → xs ≠ [] → a.block ≠ H.len := fun a ha hx => Nat.ne_of_lt (hr.lt ha hx)
  rcases hB with ⟨hw, h0⟩ | ⟨hw, h0, hR⟩
  · refine ⟨H.top [.cells (c_api_Conn d.1)], ?_⟩
    refine (bnd_of (call_Begin 2 x0 x1 0 H)).trans ?_
    rw [hd]
    refine (bnd_of h1).trans ?_
    have h0' : (d.2 != 0) = true := by simpa using h0
    refine (cond_t h0').trans ?_
    by_cases hn : x1 < 0
    · refine (cond_t (by rw [Ev.ltI_eq]; simpa using hn)).trans ?_
      exact bnd_of (call_alive _)
    · refine (cond_f (by rw [Ev.ltI_eq]; simpa using hn)).trans ?_
      refine (cond_t (by
        rw [Ev.ltI_eq, decide_eq_true_eq]
        by_cases hb : x1 ≤ 65535
        · rw [(a_in x1).2 ⟨by omega, hb⟩] at hw; cases hw
        · omega)).trans ?_
      exact bnd_of (call_alive _)
  · obtain ⟨H', hH⟩ := runs_loop (s := s) (xs := xs) (b := H.len) hsm hne (xs.length + 1) xs.length xs.length 0 (H.top [.cells (c_api_Conn d.1)]) d.1 (wf.top _) (hr.keep (keep_top H _) (fun a ha hx => hr.lt ha hx)) (Ev.AH.row_new H (k := 0) rfl) (Ev.AH.wok_new wf _ 0) hR (by omega) (Nat.le_refl _)
    refine ⟨H', ?_⟩
    refine (bnd_of (call_Begin 2 x0 x1 0 H)).trans ?_
    rw [hd]
    refine (bnd_of h1).trans ?_
    have h0' : (d.2 != 0) = false := by simpa using h0
    refine (cond_f h0').trans ?_
    exact hH

end Go.Proofs.Yteljeekapcenlaa
