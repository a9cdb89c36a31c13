/-
  Functions of the seat's program, printed by a program of ours: what each comes to, and that it is so. No conditions.
-/
import Derived.Test.YteljeekapcenlaaEnv
import Derived.Test.YteljeekapcenlaaEvY
namespace Go.Proofs.Yteljeekapcenlaa
open Go
set_option linter.unusedVariables false
set_option linter.unusedSimpArgs false
noncomputable def e_icmp_Fate (x : Int) : Value := .int .i64 x
noncomputable def w_icmp_Fate (v : Value) : Int := Ev.uI v
noncomputable def s_icmp_Fate (F : Int → Int → Int → Int) (vs : List Value) (H : Ev.AH) : Ev.Res := match vs with | [a0, a1, a2] => Ev.gI .i64 a0 fun x0 => Ev.gI .i64 a1 fun x1 => Ev.gI .i64 a2 fun x2 => some (e_icmp_Fate (F x0 x1 x2), H) | _ => none
-- stockade/icmp.Fate
abbrev n_icmp_Fate : FuncId := 77
noncomputable def G_icmp_Fate {A_ : Type} (ρ_ : Int → A_) (x0 : Int) (x1 : Int) (x2 : Int) : A_ := bif x0 == 4 && (x1 == 0 && true) then bif Ev.ltI x2 0 then ρ_ 0 else bif Ev.ltI 0 x2 then ρ_ 0 else ρ_ 1 else bif x0 == 4 && (x1 == 8 && true) then bif Ev.ltI x2 0 then ρ_ 0 else bif Ev.ltI 0 x2 then ρ_ 0 else ρ_ 1 else bif x0 == 4 && (x1 == 3 && true) then bif Ev.ltI x2 0 then ρ_ 0 else bif Ev.ltI 15 x2 then ρ_ 0 else ρ_ 2 else bif x0 == 4 && (x1 == 11 && true) then bif Ev.ltI x2 0 then ρ_ 0 else bif Ev.ltI 1 x2 then ρ_ 0 else ρ_ 2 else bif x0 == 4 && (x1 == 12 && true) then bif Ev.ltI x2 0 then ρ_ 0 else bif Ev.ltI 2 x2 then ρ_ 0 else ρ_ 2 else bif x0 == 6 && (x1 == 128 && true) then bif Ev.ltI x2 0 then ρ_ 0 else bif Ev.ltI 0 x2 then ρ_ 0 else ρ_ 1 else bif x0 == 6 && (x1 == 129 && true) then bif Ev.ltI x2 0 then ρ_ 0 else bif Ev.ltI 0 x2 then ρ_ 0 else ρ_ 1 else bif x0 == 6 && (x1 == 144 && true) then bif Ev.ltI x2 0 then ρ_ 0 else bif Ev.ltI 0 x2 then ρ_ 0 else ρ_ 1 else bif x0 == 6 && (x1 == 145 && true) then bif Ev.ltI x2 0 then ρ_ 0 else bif Ev.ltI 0 x2 then ρ_ 0 else ρ_ 1 else bif x0 == 6 && (x1 == 146 && true) then bif Ev.ltI x2 0 then ρ_ 0 else bif Ev.ltI 0 x2 then ρ_ 0 else ρ_ 1 else bif x0 == 6 && (x1 == 147 && true) then bif Ev.ltI x2 0 then ρ_ 0 else bif Ev.ltI 0 x2 then ρ_ 0 else ρ_ 1 else bif x0 == 6 && (x1 == 1 && true) then bif Ev.ltI x2 0 then ρ_ 0 else bif Ev.ltI 7 x2 then ρ_ 0 else ρ_ 2 else bif x0 == 6 && (x1 == 2 && true) then bif Ev.ltI x2 0 then ρ_ 0 else bif Ev.ltI 0 x2 then ρ_ 0 else ρ_ 2 else bif x0 == 6 && (x1 == 3 && true) then bif Ev.ltI x2 0 then ρ_ 0 else bif Ev.ltI 1 x2 then ρ_ 0 else ρ_ 2 else bif x0 == 6 && (x1 == 4 && true) then bif Ev.ltI x2 0 then ρ_ 0 else bif Ev.ltI 2 x2 then ρ_ 0 else ρ_ 2 else ρ_ 0
theorem t_icmp_Fate (x0 : Int) (x1 : Int) (x2 : Int) : Ev.evBody0 E (Ev.evTab E [] 40 12) (fun s => Ev.loopN s 40) 77 [.int .i64 x0, .int .i64 x1, .int .i64 x2] ⟨[], 0, []⟩ = G_icmp_Fate (fun x_ => Ev.ret (e_icmp_Fate x_)) x0 x1 x2 := by kernel_rfl
noncomputable def N_icmp_Fate (x0 : Int) (x1 : Int) (x2 : Int) : Int := G_icmp_Fate (fun x_ => x_) x0 x1 x2
theorem p_icmp_Fate (x0 : Int) (x1 : Int) (x2 : Int) : Ev.evBody0 E (Ev.evTab E [] 40 12) (fun s => Ev.loopN s 40) 77 [.int .i64 x0, .int .i64 x1, .int .i64 x2] ⟨[], 0, []⟩ = Ev.ret (e_icmp_Fate (N_icmp_Fate x0 x1 x2)) := by rw [t_icmp_Fate]; simp only [N_icmp_Fate, G_icmp_Fate, Ev.push e_icmp_Fate]
noncomputable def F_icmp_Fate : Int → Int → Int → Int := N_icmp_Fate 
set_option maxHeartbeats 4000000 in
theorem g_icmp_Fate : ∀ vs H r, s_icmp_Fate F_icmp_Fate vs H = some r → Ev.Good Try.prog 77 vs H r := by
  intro vs H r h
  unfold s_icmp_Fate at h
  split at h
  · obtain ⟨x0, rfl, h0⟩ := Ev.gI_ok h
    obtain ⟨x1, rfl, h1⟩ := Ev.gI_ok h0
    obtain ⟨x2, rfl, h2⟩ := Ev.gI_ok h1
    obtain rfl := Option.some.inj h2
    exact Ev.good_plain envOk Ev.TabOk.nil (p_icmp_Fate x0 x1 x2) (by kernel_rfl) (by kernel_rfl) H
  · cases h
noncomputable def e_r21_in (x : Bool) : Value := .bool x
noncomputable def w_r21_in (v : Value) : Bool := Ev.uB v
noncomputable def s_r21_in (F : Int → Int → Bool) (vs : List Value) (H : Ev.AH) : Ev.Res := match vs with | [a0, a1] => Ev.gI .i64 a0 fun x0 => Ev.gI .i64 a1 fun x1 => some (e_r21_in (F x0 x1), H) | _ => none
-- stockade/stockaderef21.in
abbrev n_r21_in : FuncId := 139
noncomputable def G_r21_in {A_ : Type} (ρ_ : Bool → A_) (x0 : Int) (x1 : Int) : A_ := bif Ev.leI 0 x0 then ρ_ (Ev.leI x0 x1) else ρ_ false
theorem t_r21_in (x0 : Int) (x1 : Int) : Ev.evBody0 E (Ev.evTab E [] 40 12) (fun s => Ev.loopN s 40) 139 [.int .i64 x0, .int .i64 x1] ⟨[], 0, []⟩ = G_r21_in (fun x_ => Ev.ret (e_r21_in x_)) x0 x1 := by kernel_rfl
noncomputable def N_r21_in (x0 : Int) (x1 : Int) : Bool := G_r21_in (fun x_ => x_) x0 x1
theorem p_r21_in (x0 : Int) (x1 : Int) : Ev.evBody0 E (Ev.evTab E [] 40 12) (fun s => Ev.loopN s 40) 139 [.int .i64 x0, .int .i64 x1] ⟨[], 0, []⟩ = Ev.ret (e_r21_in (N_r21_in x0 x1)) := by rw [t_r21_in]; simp only [N_r21_in, G_r21_in, Ev.push e_r21_in]
noncomputable def F_r21_in : Int → Int → Bool := N_r21_in 
set_option maxHeartbeats 4000000 in
theorem g_r21_in : ∀ vs H r, s_r21_in F_r21_in vs H = some r → Ev.Good Try.prog 139 vs H r := by
  intro vs H r h
  unfold s_r21_in at h
  split at h
  · obtain ⟨x0, rfl, h0⟩ := Ev.gI_ok h
    obtain ⟨x1, rfl, h1⟩ := Ev.gI_ok h0
    obtain rfl := Option.some.inj h1
    exact Ev.good_plain envOk Ev.TabOk.nil (p_r21_in x0 x1) (by kernel_rfl) (by kernel_rfl) H
  · cases h
noncomputable def e_r21_Fate (x : Int) : Value := .int .i64 x
noncomputable def w_r21_Fate (v : Value) : Int := Ev.uI v
noncomputable def s_r21_Fate (F : Int → Int → Int → Int) (vs : List Value) (H : Ev.AH) : Ev.Res := match vs with | [a0, a1, a2] => Ev.gI .i64 a0 fun x0 => Ev.gI .i64 a1 fun x1 => Ev.gI .i64 a2 fun x2 => some (e_r21_Fate (F x0 x1 x2), H) | _ => none
-- stockade/stockaderef21.Fate
abbrev n_r21_Fate : FuncId := 78
noncomputable def G_r21_Fatev0 {A_ : Type} (ρ_ : Int → A_) (F_r21_in : Int → Int → Bool)  (x1 : Int) (x2 : Int) : A_ := ρ_ 0
theorem t_r21_Fatev0 (F_r21_in : Int → Int → Bool)  (x1 : Int) (x2 : Int) : Ev.evBody0 E (Ev.evTab E [(139, s_r21_in F_r21_in)] 40 12) (fun s => Ev.loopN s 40) 78 [.int .i64 (0 : Int), .int .i64 x1, .int .i64 x2] ⟨[], 0, []⟩ = G_r21_Fatev0 (fun x_ => Ev.ret (e_r21_Fate x_)) F_r21_in x1 x2 := by kernel_rfl
noncomputable def N_r21_Fatev0 (F_r21_in : Int → Int → Bool)  (x1 : Int) (x2 : Int) : Int := G_r21_Fatev0 (fun x_ => x_) F_r21_in x1 x2
theorem p_r21_Fatev0 (F_r21_in : Int → Int → Bool)  (x1 : Int) (x2 : Int) : Ev.evBody0 E (Ev.evTab E [(139, s_r21_in F_r21_in)] 40 12) (fun s => Ev.loopN s 40) 78 [.int .i64 (0 : Int), .int .i64 x1, .int .i64 x2] ⟨[], 0, []⟩ = Ev.ret (e_r21_Fate (N_r21_Fatev0 F_r21_in x1 x2)) := by rw [t_r21_Fatev0]; simp only [N_r21_Fatev0, G_r21_Fatev0, Ev.push e_r21_Fate]
noncomputable def G_r21_Fatev1 {A_ : Type} (ρ_ : Int → A_) (F_r21_in : Int → Int → Bool)  (x1 : Int) (x2 : Int) : A_ := ρ_ 0
theorem t_r21_Fatev1 (F_r21_in : Int → Int → Bool)  (x1 : Int) (x2 : Int) : Ev.evBody0 E (Ev.evTab E [(139, s_r21_in F_r21_in)] 40 12) (fun s => Ev.loopN s 40) 78 [.int .i64 (1 : Int), .int .i64 x1, .int .i64 x2] ⟨[], 0, []⟩ = G_r21_Fatev1 (fun x_ => Ev.ret (e_r21_Fate x_)) F_r21_in x1 x2 := by kernel_rfl
noncomputable def N_r21_Fatev1 (F_r21_in : Int → Int → Bool)  (x1 : Int) (x2 : Int) : Int := G_r21_Fatev1 (fun x_ => x_) F_r21_in x1 x2
theorem p_r21_Fatev1 (F_r21_in : Int → Int → Bool)  (x1 : Int) (x2 : Int) : Ev.evBody0 E (Ev.evTab E [(139, s_r21_in F_r21_in)] 40 12) (fun s => Ev.loopN s 40) 78 [.int .i64 (1 : Int), .int .i64 x1, .int .i64 x2] ⟨[], 0, []⟩ = Ev.ret (e_r21_Fate (N_r21_Fatev1 F_r21_in x1 x2)) := by rw [t_r21_Fatev1]; simp only [N_r21_Fatev1, G_r21_Fatev1, Ev.push e_r21_Fate]
noncomputable def G_r21_Fatev2 {A_ : Type} (ρ_ : Int → A_) (F_r21_in : Int → Int → Bool)  (x1 : Int) (x2 : Int) : A_ := ρ_ 0
theorem t_r21_Fatev2 (F_r21_in : Int → Int → Bool)  (x1 : Int) (x2 : Int) : Ev.evBody0 E (Ev.evTab E [(139, s_r21_in F_r21_in)] 40 12) (fun s => Ev.loopN s 40) 78 [.int .i64 (2 : Int), .int .i64 x1, .int .i64 x2] ⟨[], 0, []⟩ = G_r21_Fatev2 (fun x_ => Ev.ret (e_r21_Fate x_)) F_r21_in x1 x2 := by kernel_rfl
noncomputable def N_r21_Fatev2 (F_r21_in : Int → Int → Bool)  (x1 : Int) (x2 : Int) : Int := G_r21_Fatev2 (fun x_ => x_) F_r21_in x1 x2
theorem p_r21_Fatev2 (F_r21_in : Int → Int → Bool)  (x1 : Int) (x2 : Int) : Ev.evBody0 E (Ev.evTab E [(139, s_r21_in F_r21_in)] 40 12) (fun s => Ev.loopN s 40) 78 [.int .i64 (2 : Int), .int .i64 x1, .int .i64 x2] ⟨[], 0, []⟩ = Ev.ret (e_r21_Fate (N_r21_Fatev2 F_r21_in x1 x2)) := by rw [t_r21_Fatev2]; simp only [N_r21_Fatev2, G_r21_Fatev2, Ev.push e_r21_Fate]
noncomputable def G_r21_Fatev3 {A_ : Type} (ρ_ : Int → A_) (F_r21_in : Int → Int → Bool)  (x1 : Int) (x2 : Int) : A_ := ρ_ 0
theorem t_r21_Fatev3 (F_r21_in : Int → Int → Bool)  (x1 : Int) (x2 : Int) : Ev.evBody0 E (Ev.evTab E [(139, s_r21_in F_r21_in)] 40 12) (fun s => Ev.loopN s 40) 78 [.int .i64 (3 : Int), .int .i64 x1, .int .i64 x2] ⟨[], 0, []⟩ = G_r21_Fatev3 (fun x_ => Ev.ret (e_r21_Fate x_)) F_r21_in x1 x2 := by kernel_rfl
noncomputable def N_r21_Fatev3 (F_r21_in : Int → Int → Bool)  (x1 : Int) (x2 : Int) : Int := G_r21_Fatev3 (fun x_ => x_) F_r21_in x1 x2
theorem p_r21_Fatev3 (F_r21_in : Int → Int → Bool)  (x1 : Int) (x2 : Int) : Ev.evBody0 E (Ev.evTab E [(139, s_r21_in F_r21_in)] 40 12) (fun s => Ev.loopN s 40) 78 [.int .i64 (3 : Int), .int .i64 x1, .int .i64 x2] ⟨[], 0, []⟩ = Ev.ret (e_r21_Fate (N_r21_Fatev3 F_r21_in x1 x2)) := by rw [t_r21_Fatev3]; simp only [N_r21_Fatev3, G_r21_Fatev3, Ev.push e_r21_Fate]
noncomputable def G_r21_Fatev4 {A_ : Type} (ρ_ : Int → A_) (F_r21_in : Int → Int → Bool)  (x1 : Int) (x2 : Int) : A_ := bif x1 == 8 then bif x2 == 0 then ρ_ 1 else bif x1 == 3 then bif F_r21_in x2 15 then ρ_ 2 else bif x1 == 11 then bif F_r21_in x2 1 then ρ_ 2 else bif x1 == 12 then bif F_r21_in x2 2 then ρ_ 2 else ρ_ 0 else ρ_ 0 else bif x1 == 12 then bif F_r21_in x2 2 then ρ_ 2 else ρ_ 0 else ρ_ 0 else bif x1 == 11 then bif F_r21_in x2 1 then ρ_ 2 else bif x1 == 12 then bif F_r21_in x2 2 then ρ_ 2 else ρ_ 0 else ρ_ 0 else bif x1 == 12 then bif F_r21_in x2 2 then ρ_ 2 else ρ_ 0 else ρ_ 0 else bif x1 == 0 then bif x2 == 0 then ρ_ 1 else bif x1 == 3 then bif F_r21_in x2 15 then ρ_ 2 else bif x1 == 11 then bif F_r21_in x2 1 then ρ_ 2 else bif x1 == 12 then bif F_r21_in x2 2 then ρ_ 2 else ρ_ 0 else ρ_ 0 else bif x1 == 12 then bif F_r21_in x2 2 then ρ_ 2 else ρ_ 0 else ρ_ 0 else bif x1 == 11 then bif F_r21_in x2 1 then ρ_ 2 else bif x1 == 12 then bif F_r21_in x2 2 then ρ_ 2 else ρ_ 0 else ρ_ 0 else bif x1 == 12 then bif F_r21_in x2 2 then ρ_ 2 else ρ_ 0 else ρ_ 0 else bif x1 == 3 then bif F_r21_in x2 15 then ρ_ 2 else bif x1 == 11 then bif F_r21_in x2 1 then ρ_ 2 else bif x1 == 12 then bif F_r21_in x2 2 then ρ_ 2 else ρ_ 0 else ρ_ 0 else bif x1 == 12 then bif F_r21_in x2 2 then ρ_ 2 else ρ_ 0 else ρ_ 0 else bif x1 == 11 then bif F_r21_in x2 1 then ρ_ 2 else bif x1 == 12 then bif F_r21_in x2 2 then ρ_ 2 else ρ_ 0 else ρ_ 0 else bif x1 == 12 then bif F_r21_in x2 2 then ρ_ 2 else ρ_ 0 else ρ_ 0
theorem t_r21_Fatev4 (F_r21_in : Int → Int → Bool)  (x1 : Int) (x2 : Int) : Ev.evBody0 E (Ev.evTab E [(139, s_r21_in F_r21_in)] 40 12) (fun s => Ev.loopN s 40) 78 [.int .i64 (4 : Int), .int .i64 x1, .int .i64 x2] ⟨[], 0, []⟩ = G_r21_Fatev4 (fun x_ => Ev.ret (e_r21_Fate x_)) F_r21_in x1 x2 := by kernel_rfl
noncomputable def N_r21_Fatev4 (F_r21_in : Int → Int → Bool)  (x1 : Int) (x2 : Int) : Int := G_r21_Fatev4 (fun x_ => x_) F_r21_in x1 x2
theorem p_r21_Fatev4 (F_r21_in : Int → Int → Bool)  (x1 : Int) (x2 : Int) : Ev.evBody0 E (Ev.evTab E [(139, s_r21_in F_r21_in)] 40 12) (fun s => Ev.loopN s 40) 78 [.int .i64 (4 : Int), .int .i64 x1, .int .i64 x2] ⟨[], 0, []⟩ = Ev.ret (e_r21_Fate (N_r21_Fatev4 F_r21_in x1 x2)) := by rw [t_r21_Fatev4]; simp only [N_r21_Fatev4, G_r21_Fatev4, Ev.push e_r21_Fate]
noncomputable def G_r21_Fatev5 {A_ : Type} (ρ_ : Int → A_) (F_r21_in : Int → Int → Bool)  (x1 : Int) (x2 : Int) : A_ := ρ_ 0
theorem t_r21_Fatev5 (F_r21_in : Int → Int → Bool)  (x1 : Int) (x2 : Int) : Ev.evBody0 E (Ev.evTab E [(139, s_r21_in F_r21_in)] 40 12) (fun s => Ev.loopN s 40) 78 [.int .i64 (5 : Int), .int .i64 x1, .int .i64 x2] ⟨[], 0, []⟩ = G_r21_Fatev5 (fun x_ => Ev.ret (e_r21_Fate x_)) F_r21_in x1 x2 := by kernel_rfl
noncomputable def N_r21_Fatev5 (F_r21_in : Int → Int → Bool)  (x1 : Int) (x2 : Int) : Int := G_r21_Fatev5 (fun x_ => x_) F_r21_in x1 x2
theorem p_r21_Fatev5 (F_r21_in : Int → Int → Bool)  (x1 : Int) (x2 : Int) : Ev.evBody0 E (Ev.evTab E [(139, s_r21_in F_r21_in)] 40 12) (fun s => Ev.loopN s 40) 78 [.int .i64 (5 : Int), .int .i64 x1, .int .i64 x2] ⟨[], 0, []⟩ = Ev.ret (e_r21_Fate (N_r21_Fatev5 F_r21_in x1 x2)) := by rw [t_r21_Fatev5]; simp only [N_r21_Fatev5, G_r21_Fatev5, Ev.push e_r21_Fate]
noncomputable def G_r21_Fatev6 {A_ : Type} (ρ_ : Int → A_) (F_r21_in : Int → Int → Bool)  (x1 : Int) (x2 : Int) : A_ := bif x1 == 128 then bif x2 == 0 then ρ_ 1 else bif x1 == 1 then bif F_r21_in x2 7 then ρ_ 2 else bif x1 == 2 then bif x2 == 0 then ρ_ 2 else bif x1 == 3 then bif F_r21_in x2 1 then ρ_ 2 else bif x1 == 4 then bif F_r21_in x2 2 then ρ_ 2 else ρ_ 0 else ρ_ 0 else bif x1 == 4 then bif F_r21_in x2 2 then ρ_ 2 else ρ_ 0 else ρ_ 0 else bif x1 == 3 then bif F_r21_in x2 1 then ρ_ 2 else bif x1 == 4 then bif F_r21_in x2 2 then ρ_ 2 else ρ_ 0 else ρ_ 0 else bif x1 == 4 then bif F_r21_in x2 2 then ρ_ 2 else ρ_ 0 else ρ_ 0 else bif x1 == 2 then bif x2 == 0 then ρ_ 2 else bif x1 == 3 then bif F_r21_in x2 1 then ρ_ 2 else bif x1 == 4 then bif F_r21_in x2 2 then ρ_ 2 else ρ_ 0 else ρ_ 0 else bif x1 == 4 then bif F_r21_in x2 2 then ρ_ 2 else ρ_ 0 else ρ_ 0 else bif x1 == 3 then bif F_r21_in x2 1 then ρ_ 2 else bif x1 == 4 then bif F_r21_in x2 2 then ρ_ 2 else ρ_ 0 else ρ_ 0 else bif x1 == 4 then bif F_r21_in x2 2 then ρ_ 2 else ρ_ 0 else ρ_ 0 else bif x1 == 129 then bif x2 == 0 then ρ_ 1 else bif x1 == 1 then bif F_r21_in x2 7 then ρ_ 2 else bif x1 == 2 then bif x2 == 0 then ρ_ 2 else bif x1 == 3 then bif F_r21_in x2 1 then ρ_ 2 else bif x1 == 4 then bif F_r21_in x2 2 then ρ_ 2 else ρ_ 0 else ρ_ 0 else bif x1 == 4 then bif F_r21_in x2 2 then ρ_ 2 else ρ_ 0 else ρ_ 0 else bif x1 == 3 then bif F_r21_in x2 1 then ρ_ 2 else bif x1 == 4 then bif F_r21_in x2 2 then ρ_ 2 else ρ_ 0 else ρ_ 0 else bif x1 == 4 then bif F_r21_in x2 2 then ρ_ 2 else ρ_ 0 else ρ_ 0 else bif x1 == 2 then bif x2 == 0 then ρ_ 2 else bif x1 == 3 then bif F_r21_in x2 1 then ρ_ 2 else bif x1 == 4 then bif F_r21_in x2 2 then ρ_ 2 else ρ_ 0 else ρ_ 0 else bif x1 == 4 then bif F_r21_in x2 2 then ρ_ 2 else ρ_ 0 else ρ_ 0 else bif x1 == 3 then bif F_r21_in x2 1 then ρ_ 2 else bif x1 == 4 then bif F_r21_in x2 2 then ρ_ 2 else ρ_ 0 else ρ_ 0 else bif x1 == 4 then bif F_r21_in x2 2 then ρ_ 2 else ρ_ 0 else ρ_ 0 else bif Ev.leI 144 x1 then bif Ev.leI x1 147 then bif x2 == 0 then ρ_ 1 else bif x1 == 1 then bif F_r21_in x2 7 then ρ_ 2 else bif x1 == 2 then bif x2 == 0 then ρ_ 2 else bif x1 == 3 then bif F_r21_in x2 1 then ρ_ 2 else bif x1 == 4 then bif F_r21_in x2 2 then ρ_ 2 else ρ_ 0 else ρ_ 0 else bif x1 == 4 then bif F_r21_in x2 2 then ρ_ 2 else ρ_ 0 else ρ_ 0 else bif x1 == 3 then bif F_r21_in x2 1 then ρ_ 2 else bif x1 == 4 then bif F_r21_in x2 2 then ρ_ 2 else ρ_ 0 else ρ_ 0 else bif x1 == 4 then bif F_r21_in x2 2 then ρ_ 2 else ρ_ 0 else ρ_ 0 else bif x1 == 2 then bif x2 == 0 then ρ_ 2 else bif x1 == 3 then bif F_r21_in x2 1 then ρ_ 2 else bif x1 == 4 then bif F_r21_in x2 2 then ρ_ 2 else ρ_ 0 else ρ_ 0 else bif x1 == 4 then bif F_r21_in x2 2 then ρ_ 2 else ρ_ 0 else ρ_ 0 else bif x1 == 3 then bif F_r21_in x2 1 then ρ_ 2 else bif x1 == 4 then bif F_r21_in x2 2 then ρ_ 2 else ρ_ 0 else ρ_ 0 else bif x1 == 4 then bif F_r21_in x2 2 then ρ_ 2 else ρ_ 0 else ρ_ 0 else bif x1 == 1 then bif F_r21_in x2 7 then ρ_ 2 else bif x1 == 2 then bif x2 == 0 then ρ_ 2 else bif x1 == 3 then bif F_r21_in x2 1 then ρ_ 2 else bif x1 == 4 then bif F_r21_in x2 2 then ρ_ 2 else ρ_ 0 else ρ_ 0 else bif x1 == 4 then bif F_r21_in x2 2 then ρ_ 2 else ρ_ 0 else ρ_ 0 else bif x1 == 3 then bif F_r21_in x2 1 then ρ_ 2 else bif x1 == 4 then bif F_r21_in x2 2 then ρ_ 2 else ρ_ 0 else ρ_ 0 else bif x1 == 4 then bif F_r21_in x2 2 then ρ_ 2 else ρ_ 0 else ρ_ 0 else bif x1 == 2 then bif x2 == 0 then ρ_ 2 else bif x1 == 3 then bif F_r21_in x2 1 then ρ_ 2 else bif x1 == 4 then bif F_r21_in x2 2 then ρ_ 2 else ρ_ 0 else ρ_ 0 else bif x1 == 4 then bif F_r21_in x2 2 then ρ_ 2 else ρ_ 0 else ρ_ 0 else bif x1 == 3 then bif F_r21_in x2 1 then ρ_ 2 else bif x1 == 4 then bif F_r21_in x2 2 then ρ_ 2 else ρ_ 0 else ρ_ 0 else bif x1 == 4 then bif F_r21_in x2 2 then ρ_ 2 else ρ_ 0 else ρ_ 0 else bif x1 == 1 then bif F_r21_in x2 7 then ρ_ 2 else bif x1 == 2 then bif x2 == 0 then ρ_ 2 else bif x1 == 3 then bif F_r21_in x2 1 then ρ_ 2 else bif x1 == 4 then bif F_r21_in x2 2 then ρ_ 2 else ρ_ 0 else ρ_ 0 else bif x1 == 4 then bif F_r21_in x2 2 then ρ_ 2 else ρ_ 0 else ρ_ 0 else bif x1 == 3 then bif F_r21_in x2 1 then ρ_ 2 else bif x1 == 4 then bif F_r21_in x2 2 then ρ_ 2 else ρ_ 0 else ρ_ 0 else bif x1 == 4 then bif F_r21_in x2 2 then ρ_ 2 else ρ_ 0 else ρ_ 0 else bif x1 == 2 then bif x2 == 0 then ρ_ 2 else bif x1 == 3 then bif F_r21_in x2 1 then ρ_ 2 else bif x1 == 4 then bif F_r21_in x2 2 then ρ_ 2 else ρ_ 0 else ρ_ 0 else bif x1 == 4 then bif F_r21_in x2 2 then ρ_ 2 else ρ_ 0 else ρ_ 0 else bif x1 == 3 then bif F_r21_in x2 1 then ρ_ 2 else bif x1 == 4 then bif F_r21_in x2 2 then ρ_ 2 else ρ_ 0 else ρ_ 0 else bif x1 == 4 then bif F_r21_in x2 2 then ρ_ 2 else ρ_ 0 else ρ_ 0
theorem t_r21_Fatev6 (F_r21_in : Int → Int → Bool)  (x1 : Int) (x2 : Int) : Ev.evBody0 E (Ev.evTab E [(139, s_r21_in F_r21_in)] 40 12) (fun s => Ev.loopN s 40) 78 [.int .i64 (6 : Int), .int .i64 x1, .int .i64 x2] ⟨[], 0, []⟩ = G_r21_Fatev6 (fun x_ => Ev.ret (e_r21_Fate x_)) F_r21_in x1 x2 := by kernel_rfl
noncomputable def N_r21_Fatev6 (F_r21_in : Int → Int → Bool)  (x1 : Int) (x2 : Int) : Int := G_r21_Fatev6 (fun x_ => x_) F_r21_in x1 x2
theorem p_r21_Fatev6 (F_r21_in : Int → Int → Bool)  (x1 : Int) (x2 : Int) : Ev.evBody0 E (Ev.evTab E [(139, s_r21_in F_r21_in)] 40 12) (fun s => Ev.loopN s 40) 78 [.int .i64 (6 : Int), .int .i64 x1, .int .i64 x2] ⟨[], 0, []⟩ = Ev.ret (e_r21_Fate (N_r21_Fatev6 F_r21_in x1 x2)) := by rw [t_r21_Fatev6]; simp only [N_r21_Fatev6, G_r21_Fatev6, Ev.push e_r21_Fate]
noncomputable def G_r21_Fatev7 {A_ : Type} (ρ_ : Int → A_) (F_r21_in : Int → Int → Bool) (n : Nat) (x1 : Int) (x2 : Int) : A_ := ρ_ 0
theorem t_r21_Fatev7 (F_r21_in : Int → Int → Bool) (n : Nat) (x1 : Int) (x2 : Int) : Ev.evBody0 E (Ev.evTab E [(139, s_r21_in F_r21_in)] 40 12) (fun s => Ev.loopN s 40) 78 [.int .i64 (Int.ofNat (n + 7)), .int .i64 x1, .int .i64 x2] ⟨[], 0, []⟩ = G_r21_Fatev7 (fun x_ => Ev.ret (e_r21_Fate x_)) F_r21_in n x1 x2 := by kernel_rfl
noncomputable def N_r21_Fatev7 (F_r21_in : Int → Int → Bool) (n : Nat) (x1 : Int) (x2 : Int) : Int := G_r21_Fatev7 (fun x_ => x_) F_r21_in n x1 x2
theorem p_r21_Fatev7 (F_r21_in : Int → Int → Bool) (n : Nat) (x1 : Int) (x2 : Int) : Ev.evBody0 E (Ev.evTab E [(139, s_r21_in F_r21_in)] 40 12) (fun s => Ev.loopN s 40) 78 [.int .i64 (Int.ofNat (n + 7)), .int .i64 x1, .int .i64 x2] ⟨[], 0, []⟩ = Ev.ret (e_r21_Fate (N_r21_Fatev7 F_r21_in n x1 x2)) := by rw [t_r21_Fatev7]; simp only [N_r21_Fatev7, G_r21_Fatev7, Ev.push e_r21_Fate]
noncomputable def G_r21_Fatev8 {A_ : Type} (ρ_ : Int → A_) (F_r21_in : Int → Int → Bool) (n : Nat) (x1 : Int) (x2 : Int) : A_ := ρ_ 0
theorem t_r21_Fatev8 (F_r21_in : Int → Int → Bool) (n : Nat) (x1 : Int) (x2 : Int) : Ev.evBody0 E (Ev.evTab E [(139, s_r21_in F_r21_in)] 40 12) (fun s => Ev.loopN s 40) 78 [.int .i64 (Int.negSucc n), .int .i64 x1, .int .i64 x2] ⟨[], 0, []⟩ = G_r21_Fatev8 (fun x_ => Ev.ret (e_r21_Fate x_)) F_r21_in n x1 x2 := by kernel_rfl
noncomputable def N_r21_Fatev8 (F_r21_in : Int → Int → Bool) (n : Nat) (x1 : Int) (x2 : Int) : Int := G_r21_Fatev8 (fun x_ => x_) F_r21_in n x1 x2
theorem p_r21_Fatev8 (F_r21_in : Int → Int → Bool) (n : Nat) (x1 : Int) (x2 : Int) : Ev.evBody0 E (Ev.evTab E [(139, s_r21_in F_r21_in)] 40 12) (fun s => Ev.loopN s 40) 78 [.int .i64 (Int.negSucc n), .int .i64 x1, .int .i64 x2] ⟨[], 0, []⟩ = Ev.ret (e_r21_Fate (N_r21_Fatev8 F_r21_in n x1 x2)) := by rw [t_r21_Fatev8]; simp only [N_r21_Fatev8, G_r21_Fatev8, Ev.push e_r21_Fate]
noncomputable def F_r21_Fate : Int → Int → Int → Int := fun x0 x1 x2 => match x0 with | .ofNat 0 => N_r21_Fatev0 F_r21_in x1 x2 | .ofNat 1 => N_r21_Fatev1 F_r21_in x1 x2 | .ofNat 2 => N_r21_Fatev2 F_r21_in x1 x2 | .ofNat 3 => N_r21_Fatev3 F_r21_in x1 x2 | .ofNat 4 => N_r21_Fatev4 F_r21_in x1 x2 | .ofNat 5 => N_r21_Fatev5 F_r21_in x1 x2 | .ofNat 6 => N_r21_Fatev6 F_r21_in x1 x2 | .ofNat (n + 7) => N_r21_Fatev7 F_r21_in n x1 x2 | .negSucc n => N_r21_Fatev8 F_r21_in n x1 x2
set_option maxHeartbeats 4000000 in
theorem g_r21_Fate : ∀ vs H r, s_r21_Fate F_r21_Fate vs H = some r → Ev.Good Try.prog 78 vs H r := by
  intro vs H r h
  unfold s_r21_Fate at h
  split at h
  · obtain ⟨x0, rfl, h0⟩ := Ev.gI_ok h
    obtain ⟨x1, rfl, h1⟩ := Ev.gI_ok h0
    obtain ⟨x2, rfl, h2⟩ := Ev.gI_ok h1
    obtain rfl := Option.some.inj h2
    match x0 with
    | .ofNat 0 => exact Ev.good_plain envOk (Ev.TabOk.cons g_r21_in Ev.TabOk.nil) (p_r21_Fatev0 F_r21_in x1 x2) (by kernel_rfl) (by kernel_rfl) H
    | .ofNat 1 => exact Ev.good_plain envOk (Ev.TabOk.cons g_r21_in Ev.TabOk.nil) (p_r21_Fatev1 F_r21_in x1 x2) (by kernel_rfl) (by kernel_rfl) H
    | .ofNat 2 => exact Ev.good_plain envOk (Ev.TabOk.cons g_r21_in Ev.TabOk.nil) (p_r21_Fatev2 F_r21_in x1 x2) (by kernel_rfl) (by kernel_rfl) H
    | .ofNat 3 => exact Ev.good_plain envOk (Ev.TabOk.cons g_r21_in Ev.TabOk.nil) (p_r21_Fatev3 F_r21_in x1 x2) (by kernel_rfl) (by kernel_rfl) H
    | .ofNat 4 => exact Ev.good_plain envOk (Ev.TabOk.cons g_r21_in Ev.TabOk.nil) (p_r21_Fatev4 F_r21_in x1 x2) (by kernel_rfl) (by kernel_rfl) H
    | .ofNat 5 => exact Ev.good_plain envOk (Ev.TabOk.cons g_r21_in Ev.TabOk.nil) (p_r21_Fatev5 F_r21_in x1 x2) (by kernel_rfl) (by kernel_rfl) H
    | .ofNat 6 => exact Ev.good_plain envOk (Ev.TabOk.cons g_r21_in Ev.TabOk.nil) (p_r21_Fatev6 F_r21_in x1 x2) (by kernel_rfl) (by kernel_rfl) H
    | .ofNat (n + 7) => exact Ev.good_plain envOk (Ev.TabOk.cons g_r21_in Ev.TabOk.nil) (p_r21_Fatev7 F_r21_in n x1 x2) (by kernel_rfl) (by kernel_rfl) H
    | .negSucc n => exact Ev.good_plain envOk (Ev.TabOk.cons g_r21_in Ev.TabOk.nil) (p_r21_Fatev8 F_r21_in n x1 x2) (by kernel_rfl) (by kernel_rfl) H
  · cases h
noncomputable def e_seg_IsError (x : Bool) : Value := .bool x
noncomputable def w_seg_IsError (v : Value) : Bool := Ev.uB v
noncomputable def s_seg_IsError (F : Int → Int → Bool) (vs : List Value) (H : Ev.AH) : Ev.Res := match vs with | [a0, a1] => Ev.gI .i64 a0 fun x0 => Ev.gI .i64 a1 fun x1 => some (e_seg_IsError (F x0 x1), H) | _ => none
-- stockade/seg.IsError
abbrev n_seg_IsError : FuncId := 87
noncomputable def G_seg_IsError {A_ : Type} (ρ_ : Bool → A_) (x0 : Int) (x1 : Int) : A_ := bif x0 == 4 then bif x1 == 3 then ρ_ true else bif x1 == 11 then ρ_ true else ρ_ (x1 == 12) else bif x0 == 6 then bif Ev.ltI 0 x1 then ρ_ (Ev.ltI x1 5) else ρ_ false else ρ_ false
theorem t_seg_IsError (x0 : Int) (x1 : Int) : Ev.evBody0 E (Ev.evTab E [] 40 12) (fun s => Ev.loopN s 40) 87 [.int .i64 x0, .int .i64 x1] ⟨[], 0, []⟩ = G_seg_IsError (fun x_ => Ev.ret (e_seg_IsError x_)) x0 x1 := by kernel_rfl
noncomputable def N_seg_IsError (x0 : Int) (x1 : Int) : Bool := G_seg_IsError (fun x_ => x_) x0 x1
theorem p_seg_IsError (x0 : Int) (x1 : Int) : Ev.evBody0 E (Ev.evTab E [] 40 12) (fun s => Ev.loopN s 40) 87 [.int .i64 x0, .int .i64 x1] ⟨[], 0, []⟩ = Ev.ret (e_seg_IsError (N_seg_IsError x0 x1)) := by rw [t_seg_IsError]; simp only [N_seg_IsError, G_seg_IsError, Ev.push e_seg_IsError]
noncomputable def F_seg_IsError : Int → Int → Bool := N_seg_IsError 
set_option maxHeartbeats 4000000 in
theorem g_seg_IsError : ∀ vs H r, s_seg_IsError F_seg_IsError vs H = some r → Ev.Good Try.prog 87 vs H r := by
  intro vs H r h
  unfold s_seg_IsError at h
  split at h
  · obtain ⟨x0, rfl, h0⟩ := Ev.gI_ok h
    obtain ⟨x1, rfl, h1⟩ := Ev.gI_ok h0
    obtain rfl := Option.some.inj h1
    exact Ev.good_plain envOk Ev.TabOk.nil (p_seg_IsError x0 x1) (by kernel_rfl) (by kernel_rfl) H
  · cases h
noncomputable def e_law21_alive (x : Bool) : Value := .bool x
noncomputable def w_law21_alive (v : Value) : Bool := Ev.uB v
noncomputable def s_law21_alive (F : Bool) (vs : List Value) (H : Ev.AH) : Ev.Res := match vs with | [] => some (e_law21_alive F, H) | _ => none
-- stockade/stockadelaw21.alive
abbrev n_law21_alive : FuncId := 79
noncomputable def G_law21_alive {A_ : Type} (ρ_ : Bool → A_)  : A_ := ρ_ true
theorem t_law21_alive  : Ev.evBody0 E (Ev.evTab E [] 40 12) (fun s => Ev.loopN s 40) 79 [] ⟨[], 0, []⟩ = G_law21_alive (fun x_ => Ev.ret (e_law21_alive x_))  := by kernel_rfl
noncomputable def N_law21_alive  : Bool := G_law21_alive (fun x_ => x_) 
theorem p_law21_alive  : Ev.evBody0 E (Ev.evTab E [] 40 12) (fun s => Ev.loopN s 40) 79 [] ⟨[], 0, []⟩ = Ev.ret (e_law21_alive (N_law21_alive )) := by rw [t_law21_alive]; simp only [N_law21_alive, G_law21_alive, Ev.push e_law21_alive]
noncomputable def F_law21_alive : Bool := N_law21_alive 
set_option maxHeartbeats 4000000 in
theorem g_law21_alive : ∀ vs H r, s_law21_alive F_law21_alive vs H = some r → Ev.Good Try.prog 79 vs H r := by
  intro vs H r h
  unfold s_law21_alive at h
  split at h
  · obtain rfl := Option.some.inj h
    exact Ev.good_plain envOk Ev.TabOk.nil (p_law21_alive ) (by kernel_rfl) (by kernel_rfl) H
  · cases h
noncomputable def e_law21_IcmpFates (x : Bool) : Value := .bool x
noncomputable def w_law21_IcmpFates (v : Value) : Bool := Ev.uB v
noncomputable def s_law21_IcmpFates (F : Int → Int → Int → Bool) (vs : List Value) (H : Ev.AH) : Ev.Res := match vs with | [a0, a1, a2] => Ev.gI .i64 a0 fun x0 => Ev.gI .i64 a1 fun x1 => Ev.gI .i64 a2 fun x2 => some (e_law21_IcmpFates (F x0 x1 x2), H) | _ => none
-- stockade/stockadelaw21.IcmpFates
abbrev n_law21_IcmpFates : FuncId := 22
noncomputable def G_law21_IcmpFates {A_ : Type} (ρ_ : Bool → A_) (F_icmp_Fate : Int → Int → Int → Int) (F_r21_Fate : Int → Int → Int → Int) (F_law21_alive : Bool) (x0 : Int) (x1 : Int) (x2 : Int) : A_ := bif F_icmp_Fate x0 x1 x2 == F_r21_Fate x0 x1 x2 then ρ_ F_law21_alive else ρ_ false
theorem t_law21_IcmpFates (F_icmp_Fate : Int → Int → Int → Int) (F_r21_Fate : Int → Int → Int → Int) (F_law21_alive : Bool) (x0 : Int) (x1 : Int) (x2 : Int) : Ev.evBody0 E (Ev.evTab E [(77, s_icmp_Fate F_icmp_Fate), (78, s_r21_Fate F_r21_Fate), (79, s_law21_alive F_law21_alive)] 40 12) (fun s => Ev.loopN s 40) 22 [.int .i64 x0, .int .i64 x1, .int .i64 x2] ⟨[], 0, []⟩ = G_law21_IcmpFates (fun x_ => Ev.ret (e_law21_IcmpFates x_)) F_icmp_Fate F_r21_Fate F_law21_alive x0 x1 x2 := by kernel_rfl
noncomputable def N_law21_IcmpFates (F_icmp_Fate : Int → Int → Int → Int) (F_r21_Fate : Int → Int → Int → Int) (F_law21_alive : Bool) (x0 : Int) (x1 : Int) (x2 : Int) : Bool := G_law21_IcmpFates (fun x_ => x_) F_icmp_Fate F_r21_Fate F_law21_alive x0 x1 x2
theorem p_law21_IcmpFates (F_icmp_Fate : Int → Int → Int → Int) (F_r21_Fate : Int → Int → Int → Int) (F_law21_alive : Bool) (x0 : Int) (x1 : Int) (x2 : Int) : Ev.evBody0 E (Ev.evTab E [(77, s_icmp_Fate F_icmp_Fate), (78, s_r21_Fate F_r21_Fate), (79, s_law21_alive F_law21_alive)] 40 12) (fun s => Ev.loopN s 40) 22 [.int .i64 x0, .int .i64 x1, .int .i64 x2] ⟨[], 0, []⟩ = Ev.ret (e_law21_IcmpFates (N_law21_IcmpFates F_icmp_Fate F_r21_Fate F_law21_alive x0 x1 x2)) := by rw [t_law21_IcmpFates]; simp only [N_law21_IcmpFates, G_law21_IcmpFates, Ev.push e_law21_IcmpFates]
noncomputable def F_law21_IcmpFates : Int → Int → Int → Bool := N_law21_IcmpFates F_icmp_Fate F_r21_Fate F_law21_alive
set_option maxHeartbeats 4000000 in
theorem g_law21_IcmpFates : ∀ vs H r, s_law21_IcmpFates F_law21_IcmpFates vs H = some r → Ev.Good Try.prog 22 vs H r := by
  intro vs H r h
  unfold s_law21_IcmpFates at h
  split at h
  · obtain ⟨x0, rfl, h0⟩ := Ev.gI_ok h
    obtain ⟨x1, rfl, h1⟩ := Ev.gI_ok h0
    obtain ⟨x2, rfl, h2⟩ := Ev.gI_ok h1
    obtain rfl := Option.some.inj h2
    exact Ev.good_plain envOk (Ev.TabOk.cons g_icmp_Fate (Ev.TabOk.cons g_r21_Fate (Ev.TabOk.cons g_law21_alive Ev.TabOk.nil))) (p_law21_IcmpFates F_icmp_Fate F_r21_Fate F_law21_alive x0 x1 x2) (by kernel_rfl) (by kernel_rfl) H
  · cases h
noncomputable def e_law21_IcmpKinds (x : Bool) : Value := .bool x
noncomputable def w_law21_IcmpKinds (v : Value) : Bool := Ev.uB v
noncomputable def s_law21_IcmpKinds (F : Int → Int → Int → Bool) (vs : List Value) (H : Ev.AH) : Ev.Res := match vs with | [a0, a1, a2] => Ev.gI .i64 a0 fun x0 => Ev.gI .i64 a1 fun x1 => Ev.gI .i64 a2 fun x2 => some (e_law21_IcmpKinds (F x0 x1 x2), H) | _ => none
-- stockade/stockadelaw21.IcmpKinds
abbrev n_law21_IcmpKinds : FuncId := 26
noncomputable def G_law21_IcmpKinds {A_ : Type} (ρ_ : Bool → A_) (F_icmp_Fate : Int → Int → Int → Int) (F_seg_IsError : Int → Int → Bool) (F_law21_alive : Bool) (x0 : Int) (x1 : Int) (x2 : Int) : A_ := bif F_icmp_Fate x0 x1 x2 == 2 then bif !F_seg_IsError x0 x1 then ρ_ false else bif F_icmp_Fate x0 x1 x2 == 1 then bif F_seg_IsError x0 x1 then ρ_ false else bif x0 != 6 then bif F_icmp_Fate x0 x1 x2 == 0 then ρ_ F_law21_alive else bif F_icmp_Fate x0 x1 x2 == 1 then ρ_ F_law21_alive else bif F_icmp_Fate x0 x1 x2 == 2 then ρ_ F_law21_alive else ρ_ false else bif Ev.ltI x1 133 then bif F_icmp_Fate x0 x1 x2 == 0 then ρ_ F_law21_alive else bif F_icmp_Fate x0 x1 x2 == 1 then ρ_ F_law21_alive else bif F_icmp_Fate x0 x1 x2 == 2 then ρ_ F_law21_alive else ρ_ false else bif Ev.ltI 137 x1 then bif F_icmp_Fate x0 x1 x2 == 0 then ρ_ F_law21_alive else bif F_icmp_Fate x0 x1 x2 == 1 then ρ_ F_law21_alive else bif F_icmp_Fate x0 x1 x2 == 2 then ρ_ F_law21_alive else ρ_ false else bif F_icmp_Fate x0 x1 x2 == 0 then bif F_icmp_Fate x0 x1 x2 == 0 then ρ_ F_law21_alive else bif F_icmp_Fate x0 x1 x2 == 1 then ρ_ F_law21_alive else bif F_icmp_Fate x0 x1 x2 == 2 then ρ_ F_law21_alive else ρ_ false else ρ_ false else bif x0 != 6 then bif F_icmp_Fate x0 x1 x2 == 0 then ρ_ F_law21_alive else bif F_icmp_Fate x0 x1 x2 == 1 then ρ_ F_law21_alive else bif F_icmp_Fate x0 x1 x2 == 2 then ρ_ F_law21_alive else ρ_ false else bif Ev.ltI x1 133 then bif F_icmp_Fate x0 x1 x2 == 0 then ρ_ F_law21_alive else bif F_icmp_Fate x0 x1 x2 == 1 then ρ_ F_law21_alive else bif F_icmp_Fate x0 x1 x2 == 2 then ρ_ F_law21_alive else ρ_ false else bif Ev.ltI 137 x1 then bif F_icmp_Fate x0 x1 x2 == 0 then ρ_ F_law21_alive else bif F_icmp_Fate x0 x1 x2 == 1 then ρ_ F_law21_alive else bif F_icmp_Fate x0 x1 x2 == 2 then ρ_ F_law21_alive else ρ_ false else bif F_icmp_Fate x0 x1 x2 == 0 then bif F_icmp_Fate x0 x1 x2 == 0 then ρ_ F_law21_alive else bif F_icmp_Fate x0 x1 x2 == 1 then ρ_ F_law21_alive else bif F_icmp_Fate x0 x1 x2 == 2 then ρ_ F_law21_alive else ρ_ false else ρ_ false else bif F_icmp_Fate x0 x1 x2 == 1 then bif F_seg_IsError x0 x1 then ρ_ false else bif x0 != 6 then bif F_icmp_Fate x0 x1 x2 == 0 then ρ_ F_law21_alive else bif F_icmp_Fate x0 x1 x2 == 1 then ρ_ F_law21_alive else bif F_icmp_Fate x0 x1 x2 == 2 then ρ_ F_law21_alive else ρ_ false else bif Ev.ltI x1 133 then bif F_icmp_Fate x0 x1 x2 == 0 then ρ_ F_law21_alive else bif F_icmp_Fate x0 x1 x2 == 1 then ρ_ F_law21_alive else bif F_icmp_Fate x0 x1 x2 == 2 then ρ_ F_law21_alive else ρ_ false else bif Ev.ltI 137 x1 then bif F_icmp_Fate x0 x1 x2 == 0 then ρ_ F_law21_alive else bif F_icmp_Fate x0 x1 x2 == 1 then ρ_ F_law21_alive else bif F_icmp_Fate x0 x1 x2 == 2 then ρ_ F_law21_alive else ρ_ false else bif F_icmp_Fate x0 x1 x2 == 0 then bif F_icmp_Fate x0 x1 x2 == 0 then ρ_ F_law21_alive else bif F_icmp_Fate x0 x1 x2 == 1 then ρ_ F_law21_alive else bif F_icmp_Fate x0 x1 x2 == 2 then ρ_ F_law21_alive else ρ_ false else ρ_ false else bif x0 != 6 then bif F_icmp_Fate x0 x1 x2 == 0 then ρ_ F_law21_alive else bif F_icmp_Fate x0 x1 x2 == 1 then ρ_ F_law21_alive else bif F_icmp_Fate x0 x1 x2 == 2 then ρ_ F_law21_alive else ρ_ false else bif Ev.ltI x1 133 then bif F_icmp_Fate x0 x1 x2 == 0 then ρ_ F_law21_alive else bif F_icmp_Fate x0 x1 x2 == 1 then ρ_ F_law21_alive else bif F_icmp_Fate x0 x1 x2 == 2 then ρ_ F_law21_alive else ρ_ false else bif Ev.ltI 137 x1 then bif F_icmp_Fate x0 x1 x2 == 0 then ρ_ F_law21_alive else bif F_icmp_Fate x0 x1 x2 == 1 then ρ_ F_law21_alive else bif F_icmp_Fate x0 x1 x2 == 2 then ρ_ F_law21_alive else ρ_ false else bif F_icmp_Fate x0 x1 x2 == 0 then bif F_icmp_Fate x0 x1 x2 == 0 then ρ_ F_law21_alive else bif F_icmp_Fate x0 x1 x2 == 1 then ρ_ F_law21_alive else bif F_icmp_Fate x0 x1 x2 == 2 then ρ_ F_law21_alive else ρ_ false else ρ_ false
theorem t_law21_IcmpKinds (F_icmp_Fate : Int → Int → Int → Int) (F_seg_IsError : Int → Int → Bool) (F_law21_alive : Bool) (x0 : Int) (x1 : Int) (x2 : Int) : Ev.evBody0 E (Ev.evTab E [(77, s_icmp_Fate F_icmp_Fate), (87, s_seg_IsError F_seg_IsError), (79, s_law21_alive F_law21_alive)] 40 12) (fun s => Ev.loopN s 40) 26 [.int .i64 x0, .int .i64 x1, .int .i64 x2] ⟨[], 0, []⟩ = G_law21_IcmpKinds (fun x_ => Ev.ret (e_law21_IcmpKinds x_)) F_icmp_Fate F_seg_IsError F_law21_alive x0 x1 x2 := by kernel_rfl
noncomputable def N_law21_IcmpKinds (F_icmp_Fate : Int → Int → Int → Int) (F_seg_IsError : Int → Int → Bool) (F_law21_alive : Bool) (x0 : Int) (x1 : Int) (x2 : Int) : Bool := G_law21_IcmpKinds (fun x_ => x_) F_icmp_Fate F_seg_IsError F_law21_alive x0 x1 x2
theorem p_law21_IcmpKinds (F_icmp_Fate : Int → Int → Int → Int) (F_seg_IsError : Int → Int → Bool) (F_law21_alive : Bool) (x0 : Int) (x1 : Int) (x2 : Int) : Ev.evBody0 E (Ev.evTab E [(77, s_icmp_Fate F_icmp_Fate), (87, s_seg_IsError F_seg_IsError), (79, s_law21_alive F_law21_alive)] 40 12) (fun s => Ev.loopN s 40) 26 [.int .i64 x0, .int .i64 x1, .int .i64 x2] ⟨[], 0, []⟩ = Ev.ret (e_law21_IcmpKinds (N_law21_IcmpKinds F_icmp_Fate F_seg_IsError F_law21_alive x0 x1 x2)) := by rw [t_law21_IcmpKinds]; simp only [N_law21_IcmpKinds, G_law21_IcmpKinds, Ev.push e_law21_IcmpKinds]
noncomputable def F_law21_IcmpKinds : Int → Int → Int → Bool := N_law21_IcmpKinds F_icmp_Fate F_seg_IsError F_law21_alive
set_option maxHeartbeats 4000000 in
theorem g_law21_IcmpKinds : ∀ vs H r, s_law21_IcmpKinds F_law21_IcmpKinds vs H = some r → Ev.Good Try.prog 26 vs H r := by
  intro vs H r h
  unfold s_law21_IcmpKinds at h
  split at h
  · obtain ⟨x0, rfl, h0⟩ := Ev.gI_ok h
    obtain ⟨x1, rfl, h1⟩ := Ev.gI_ok h0
    obtain ⟨x2, rfl, h2⟩ := Ev.gI_ok h1
    obtain rfl := Option.some.inj h2
    exact Ev.good_plain envOk (Ev.TabOk.cons g_icmp_Fate (Ev.TabOk.cons g_seg_IsError (Ev.TabOk.cons g_law21_alive Ev.TabOk.nil))) (p_law21_IcmpKinds F_icmp_Fate F_seg_IsError F_law21_alive x0 x1 x2) (by kernel_rfl) (by kernel_rfl) H
  · cases h
end Go.Proofs.Yteljeekapcenlaa
