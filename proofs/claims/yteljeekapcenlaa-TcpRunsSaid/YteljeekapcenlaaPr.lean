/-
  Streams: one round of the loop of 'TcpRuns'. No conditions.
-/
import Derived.Test.YteljeekapcenlaaTw
import Derived.Test.YteljeekapcenlaaTe
import Derived.Test.YteljeekapcenlaaEvO
import Derived.Test.YteljeekapcenlaaEvZ
import Derived.Test.YteljeekapcenlaaPv
namespace Go.Proofs.Yteljeekapcenlaa
open Go Go.Proofs.Yteljeekapcenlaa.Ev
set_option linter.unusedSimpArgs false
set_option linter.unusedVariables false
set_option maxHeartbeats 4000000

theorem bnd_of {α β : Type} {x : Option α} {a : α} {f : α → Option β} (h : x = some a) : Ev.bnd x f = f a := by rw [h]; rfl
theorem cond_t {α : Type} {c : Bool} {x y : α} (h : c = true) : cond c x y = x := by rw [h]; rfl
theorem cond_f {α : Type} {c : Bool} {x y : α} (h : c = false) : cond c x y = y := by rw [h]; rfl

/-- what the laws' loops call -/
noncomputable def orcR : Ev.Orc := Ev.evTab Ew [(n_law15_seg, s_law15_seg F_law15_seg), (n_tcp_Step, s_tcp_Step F_tcp_Step), (n_tcp_Begin, s_tcp_Begin F_tcp_Begin), (n_tcp_Right, s_tcp_Right F_tcp_Right), (n_law15_alive, s_law15_alive F_law15_alive)] 0 0

theorem call_seg (g : T_r15_Segment) (H : Ev.AH) : Ev.callV Ew orcR 39 n_law15_seg [v_r15_Segment g] H = some (v_r15_Segment g) := by kernel_rfl
theorem call_Step (c : T_api_Conn) (s : Int) (g : T_r15_Segment) (H : Ev.AH) : Ev.callV Ew orcR 30 n_tcp_Step [v_api_Conn c, .int .i64 s, v_r15_Segment g] H = some (e_tcp_Step (F_tcp_Step c s g)) := by kernel_rfl
theorem call_Right (c : T_api_Conn) (H : Ev.AH) : Ev.callV Ew orcR 4 n_tcp_Right [v_api_Conn c] H = some (.bool (F_tcp_Right c)) := by kernel_rfl
theorem call_alive (H : Ev.AH) : Ev.callV Ew orcR 4 n_law15_alive [] H = some (.bool true) := by kernel_rfl

/-- the segment of a talk -/
def gs (t : T_law15_Talk) : T_r15_Segment := ⟨t.G_Flags, t.G_Win, t.G_Size, t.G_Seq, t.G_Ack⟩


/-- the memory behind a step: the talk and what the stream became lie on top -/
noncomputable def mem2 (H : Ev.AH) (t : T_law15_Talk) (d : T_api_Conn) : Ev.AH := H.top [.cells (c_law15_Talk t), .cells (c_api_Conn d)]

theorem runs_round {H : Ev.AH} {s : Ev.Sl} {xs : List T_law15_Talk} {c : T_api_Conn} {b : Nat} (wf : Ev.WF H) (hr : Ev.Rd el_law15_Talk H s xs) (hc : H.row b = some (c_api_Conn c)) (hw : H.wok b = true)
    (i : Nat) (hi : i < xs.length) (m n : Nat) (d : T_api_Conn × Int) (hd : F_tcp_Step c xs[i].Side (gs xs[i]) = d) (R : Ev.Res)
    (hR : (bif d.2 != 0 then bif d.2 != 23 then (bif Int.fdiv xs[i].Side 2 == 0 then bif xs[i].G_Win == Ev.bitsOp .and .i64 xs[i].G_Win 65535 then bif xs[i].G_Size == Ev.bitsOp .and .i64 xs[i].G_Size 65535 then some (.bool false, mem2 H xs[i] d.1)
        else L_law15_TcpRuns_5 orcR m n ⟨b, 0, none⟩ s.a s.l s.c s.l (IntKind.wrap .i64 (i + 1)) (mem2 H xs[i] d.1) else L_law15_TcpRuns_5 orcR m n ⟨b, 0, none⟩ s.a s.l s.c s.l (IntKind.wrap .i64 (i + 1)) (mem2 H xs[i] d.1)
        else L_law15_TcpRuns_5 orcR m n ⟨b, 0, none⟩ s.a s.l s.c s.l (IntKind.wrap .i64 (i + 1)) (mem2 H xs[i] d.1)) else L_law15_TcpRuns_5 orcR m n ⟨b, 0, none⟩ s.a s.l s.c s.l (IntKind.wrap .i64 (i + 1)) (mem2 H xs[i] d.1)
      else bif !F_tcp_Right d.1 then some (.bool false, mem2 H xs[i] d.1) else bif c.State == 6 then bif Ev.bitsOp .and .i64 xs[i].G_Flags 4 == 0 then some (.bool false, mem2 H xs[i] d.1) else bif d.1.State != 6 then some (.bool false, mem2 H xs[i] d.1)
        else L_law15_TcpRuns_5 orcR m n ⟨b, 0, none⟩ s.a s.l s.c s.l (IntKind.wrap .i64 (i + 1)) (mem2 (H.put b (.cells (c_api_Conn d.1))) xs[i] d.1)
        else L_law15_TcpRuns_5 orcR m n ⟨b, 0, none⟩ s.a s.l s.c s.l (IntKind.wrap .i64 (i + 1)) (mem2 (H.put b (.cells (c_api_Conn d.1))) xs[i] d.1)) = R) :
    L_law15_TcpRuns_5 orcR m (n + 1) ⟨b, 0, none⟩ s.a s.l s.c s.l i H = R := by
  rw [loop_law15_TcpRuns_5]
  obtain ⟨a, ha, hat⟩ := hr.at hi
  generalize hx : xs[i] = t at *
  have hl : s.l = xs.length := hr.len
  refine (cond_t (by rw [Ev.ltI_eq, decide_eq_true_eq]; omega)).trans ?_
  refine (bnd_of ha).trans ?_
  refine (cond_t (by simp; omega)).trans ?_
  refine (bnd_of (hat _ _)).trans ?_
  have h1 : Ev.stX 45 tys ⟨H.len, 0, none⟩ (v_law15_Talk t) (H.push (.cells [.int .i64 0, .int .i64 0, .int .i64 0, .int .i64 0, .int .u32 0, .int .u32 0])) = some (H.top [.cells (c_law15_Talk t)]) := by
    refine (El.stX el_law15_Talk t rfl (Ev.AH.row_new H (bs := [_]) (k := 0) rfl) (Ev.AH.wok_new wf [_] 0) (by exact Nat.le_refl 6)).trans ?_
    rw [Ev.AH.push_eq]
    exact congrArg some (Ev.AH.put_new_top H _ 0 _)
  refine (bnd_of h1).trans ?_
  have h2 : Ev.ldX Ew 28 28 ⟨b, 0, none⟩ (H.top [.cells (c_law15_Talk t)]) = some (v_api_Conn c) := El.ldX el_api_Conn _ _ c (Ev.AH.row_old H hc) rfl
  refine (bnd_of h2).trans ?_
  have h3 : Ev.ldX Ew 3 3 ⟨H.len, 0 + 0, none⟩ (H.top [.cells (c_law15_Talk t)]) = some (.int .i64 t.Side) := El.ldX el_int _ _ t.Side (Ev.AH.row_new H (k := 0) rfl) rfl
  refine (bnd_of h3).trans ?_
  have h4 : Ev.ldX Ew 24 24 ⟨H.len, 0 + 1, none⟩ (H.top [.cells (c_law15_Talk t)]) = some (v_r15_Segment (gs t)) := El.ldX el_r15_Segment _ _ (gs t) (Ev.AH.row_new H (k := 0) rfl) rfl
  refine (bnd_of h4).trans ?_
  refine (bnd_of (call_seg (gs t) _)).trans ?_
  refine (bnd_of (call_Step c t.Side (gs t) _)).trans ?_
  rw [hd]
  have hlen : (H.top [.cells (c_law15_Talk t)]).len = H.len + 1 := by rw [Ev.AH.len_top]; rfl
  have h5 : Ev.stX 28 tys ⟨(H.top [.cells (c_law15_Talk t)]).len, 0, none⟩ (v_api_Conn d.1) ((H.top [.cells (c_law15_Talk t)]).push (.cells [.int .i64 0, .int .u32 0, .int .u32 0, .int .u32 0, .int .u32 0, .bool false, .bool false, .bool false, .bool false])) = some (mem2 H t d.1) := by
    rw [Ev.AH.push_top, hlen]
    refine (El.stX el_api_Conn d.1 rfl (Ev.AH.row_new H (k := 1) rfl) (Ev.AH.wok_new wf _ 1) (by exact Nat.le_refl 9)).trans ?_
    exact congrArg some (Ev.AH.put_new_top H _ 1 _)
  refine (bnd_of h5).trans ?_
  have hS : Ev.ldX Ew 3 3 ⟨H.len, 0 + 0, none⟩ (mem2 H t d.1) = some (.int .i64 t.Side) := El.ldX el_int _ _ t.Side (Ev.AH.row_new H (k := 0) rfl) rfl
  have hF : Ev.ldX Ew 3 3 ⟨H.len, 0 + 1 + 0, none⟩ (mem2 H t d.1) = some (.int .i64 t.G_Flags) := El.ldX el_int _ _ t.G_Flags (Ev.AH.row_new H (k := 0) rfl) rfl
  have hWn : Ev.ldX Ew 3 3 ⟨H.len, 0 + 1 + 1, none⟩ (mem2 H t d.1) = some (.int .i64 t.G_Win) := El.ldX el_int _ _ t.G_Win (Ev.AH.row_new H (k := 0) rfl) rfl
  have hZn : Ev.ldX Ew 3 3 ⟨H.len, 0 + 1 + 2, none⟩ (mem2 H t d.1) = some (.int .i64 t.G_Size) := El.ldX el_int _ _ t.G_Size (Ev.AH.row_new H (k := 0) rfl) rfl
  have hD : Ev.ldX Ew 28 28 ⟨(H.top [.cells (c_law15_Talk t)]).len, 0, none⟩ (mem2 H t d.1) = some (v_api_Conn d.1) := by
    rw [hlen]; exact El.ldX el_api_Conn _ _ d.1 (Ev.AH.row_new H (k := 1) rfl) rfl
  have hDS : Ev.ldX Ew 3 3 ⟨(H.top [.cells (c_law15_Talk t)]).len, 0 + 0, none⟩ (mem2 H t d.1) = some (.int .i64 d.1.State) := by
    rw [hlen]; exact El.ldX el_int _ _ d.1.State (Ev.AH.row_new H (k := 1) rfl) rfl
  have hC : Ev.ldX Ew 3 3 ⟨b, 0 + 0, none⟩ (mem2 H t d.1) = some (.int .i64 c.State) := El.ldX el_int _ _ c.State (Ev.AH.row_old H hc) rfl
  have hbl : b < H.len := Ev.AH.lt_of (Ev.AH.row_iff.1 hc)
  have hP : Ev.stX 28 tys ⟨b, 0, none⟩ (v_api_Conn d.1) (mem2 H t d.1) = some (mem2 (H.put b (.cells (c_api_Conn d.1))) t d.1) := by
    refine (El.stX el_api_Conn d.1 rfl (Ev.AH.row_old H hc) (by exact hw) (by exact Nat.le_refl 9)).trans ?_
    exact congrArg some (Ev.AH.put_old_top H _ hbl _)
  rw [← hR]
  have split2 : ∀ {α : Type} {x y : Bool} {A B A' B' : α}, x = y → (x = true → A = A') → (x = false → B = B') → cond x A B = cond y A' B' := by
    intro α x y A B A' B' h1 h2 h3; subst h1; cases x <;> simp_all
  refine split2 rfl (fun _ => split2 rfl (fun _ => ?_) (fun _ => ?_)) (fun _ => ?_)
  · refine (bnd_of hS).trans ?_
    refine split2 rfl (fun _ => ?_) (fun _ => ?_)
    · refine (bnd_of hWn).trans ?_
      refine (bnd_of hWn).trans ?_
      refine split2 rfl (fun _ => ?_) (fun _ => ?_)
      · refine (bnd_of hZn).trans ?_
        refine (bnd_of hZn).trans ?_
        rw [ha]
        rfl
      · rw [ha]; rfl
    · rw [ha]; rfl
  · rw [ha]; rfl
  · refine (bnd_of hD).trans ?_
    refine (bnd_of (call_Right d.1 _)).trans ?_
    refine split2 rfl (fun _ => rfl) (fun _ => ?_)
    refine (bnd_of hC).trans ?_
    refine split2 rfl (fun _ => ?_) (fun _ => ?_)
    · refine (bnd_of hF).trans ?_
      refine split2 rfl (fun _ => rfl) (fun _ => ?_)
      refine (bnd_of hDS).trans ?_
      refine split2 rfl (fun _ => rfl) (fun _ => ?_)
      refine (bnd_of hD).trans ?_
      refine (bnd_of hP).trans ?_
      rw [ha]
    · refine (bnd_of hD).trans ?_
      refine (bnd_of hP).trans ?_
      rw [ha]

end Go.Proofs.Yteljeekapcenlaa
