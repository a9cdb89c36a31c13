/-
  Ev, part Gc: functions whose slices are deep values: loops by their places, rounds without number, specifications of callees. No conditions.
-/
import Derived.Test.YteljeekapcenlaaEvGb
namespace Go.Proofs.Yteljeekapcenlaa.Ev
open Go Go.RowKit
set_option linter.unusedSimpArgs false
set_option linter.unusedVariables false
noncomputable def stepD (E : Env) (M : Mats) (orc : Orc) (m : Nat) (f : FuncId) (a : Code) : Frame → AH → KC → Res :=
  fun fr H k => evCodeD E M orc m f a fr H (clrK (headClear E.pol f a) k)
noncomputable def kontD (E : Env) (M : Mats) (orc : Orc) (m : Nat) (f : FuncId) : List Nat → List Nat → Code → KC → KC
  | [], _, _, k => k
  | i :: p, ns, c, k => match c with
    | .seq a b => cond (Nat.beq i 0) (kontD E M orc m f p ns a (seqK (evCodeD E M orc m f b) k)) (kontD E M orc m f p ns b k)
    | .cond _ a b => cond (Nat.beq i 0) (kontD E M orc m f p ns a k) (kontD E M orc m f p ns b k)
    | .block id a => kontD E M orc m f p ns a (blockK id k)
    | .loop a => match ns with
      | n :: ns => kontD E M orc m f p ns a (clrK (headClear E.pol f a) (seqK (fun fr H k => headG M f (idOf a) fr H fun fr H => loopG (headG M f (idOf a)) (stepD E M orc m f a) n fr H k) k))
      | [] => k
    | _ => k
noncomputable def loopAtD (E : Env) (M : Mats) (orc : Orc) (m : Nat) (f : FuncId) (p : List Nat) (ns : List Nat) (n : Nat) (fr : Frame) (H : AH) : Res :=
  (E.P.funcs[f]?).bind fun fn => fn.body.bind fun c => match subC p c with
    | .loop a => loopG (headG M f (idOf a)) (stepD E M orc m f a) n fr H (kontD E M orc m f p ns c (evEndD E M f fn))
    | _ => none
noncomputable def oR {α : Type} (e : α → Value) (x : Option α) : Res := match x with | some a => ret (e a) | none => none
theorem oR_some {α : Type} (e : α → Value) (a : α) : oR e (some a) = ret (e a) := rfl
theorem oR_none {α : Type} (e : α → Value) : oR e none = none := rfl
theorem oR_cond {α : Type} (e : α → Value) (b : Bool) (x y : Option α) : cond b (oR e x) (oR e y) = oR e (cond b x y) := by cases b <;> rfl
theorem oR_bnd {α β : Type} (e : α → Value) (x : Option β) (f : β → Option α) : bnd x (fun b => oR e (f b)) = oR e (bnd x f) := by cases x <;> rfl
theorem oR_get {α : Type} {e : α → Value} {x : Option α} {r : Value × AH} (h : oR e x = some r) : ∃ a, x = some a ∧ r = (e a, ⟨[], 0, []⟩) := by
  cases x with
  | none => cases h
  | some a => exact ⟨a, rfl, (Option.some.inj h).symm⟩
noncomputable def oO (z : Nat) (x : Option (List Value)) : Res := match x with | some cs => some (ownR z cs) | none => none
noncomputable def lim {α : Type} (N : Nat → Option α) : Option α := by
  classical exact if h : ∃ r n, ∀ m, n ≤ m → N m = some r then some h.choose else none
theorem lim_eq {α : Type} {N : Nat → Option α} {r : α} (n : Nat) (h : ∀ m, n ≤ m → N m = some r) : lim N = some r := by
  unfold lim
  have hex : ∃ r n, ∀ m, n ≤ m → N m = some r := ⟨r, n, h⟩
  rw [dif_pos hex]
  obtain ⟨n', h'⟩ := hex.choose_spec
  have h1 := h (max n n') (Nat.le_max_left _ _)
  have h2 := h' (max n n') (Nat.le_max_right _ _)
  rw [h1] at h2
  exact h2.symm
theorem lim_some {α : Type} {N : Nat → Option α} {r : α} (h : lim N = some r) : ∃ n, N n = some r := by
  unfold lim at h
  split at h
  · rename_i hex
    obtain ⟨n, hn⟩ := hex.choose_spec
    obtain rfl := Option.some.inj h
    exact ⟨n, hn n (Nat.le_refl _)⟩
  · cases h
noncomputable def kI {α : Type} (k : IntKind) (v : Value) (c : Int → Option α) : Option α := match v with | .int k' n => cond (decide (k' = k)) (c n) none | _ => none
noncomputable def kB {α : Type} (v : Value) (c : Bool → Option α) : Option α := match v with | .bool b => c b | _ => none
noncomputable def kS {α : Type} (v : Value) (c : ByteArray → Option α) : Option α := match v with | .string s => c s | _ => none
noncomputable def kL {α : Type} (z : Nat) (v : Value) (c : List Value → Option α) : Option α := deepC v (fun t cs => cond (Nat.beq t z) (c cs) none) (fun _ _ => none) (fun _ _ _ => none) (fun _ => none) none
noncomputable def kA {α : Type} (v : Value) (c : List Value → Option α) : Option α := match v with | .agg cs => c cs.toList | _ => none
theorem kI_ok {α : Type} {k : IntKind} {v : Value} {c : Int → Option α} {r : α} (h : kI k v c = some r) : ∃ n, v = .int k n ∧ c n = some r := by
  unfold kI at h
  split at h
  · rename_i k' n
    cases hk : decide (k' = k) with
    | true => rw [hk] at h; rw [of_decide_eq_true hk]; exact ⟨_, rfl, h⟩
    | false => rw [hk] at h; cases h
  · cases h
theorem kB_ok {α : Type} {v : Value} {c : Bool → Option α} {r : α} (h : kB v c = some r) : ∃ n, v = .bool n ∧ c n = some r := by
  unfold kB at h
  split at h
  · exact ⟨_, rfl, h⟩
  · cases h
theorem kS_ok {α : Type} {v : Value} {c : ByteArray → Option α} {r : α} (h : kS v c = some r) : ∃ n, v = .string n ∧ c n = some r := by
  unfold kS at h
  split at h
  · exact ⟨_, rfl, h⟩
  · cases h
theorem kL_ok {α : Type} {z : Nat} {v : Value} {c : List Value → Option α} {r : α} (h : kL z v c = some r) : ∃ cs, v = dS z cs ∧ c cs = some r := by
  unfold kL at h
  rcases deepC_some h with ⟨t, cs, rfl, g⟩ | ⟨_, _, _, g⟩ | ⟨_, _, _, _, g⟩ | ⟨_, _, g⟩ | g
  · cases ht : Nat.beq t z with
    | true => rw [ht] at g; rw [Nat.eq_of_beq_eq_true ht]; exact ⟨cs, rfl, g⟩
    | false => rw [ht] at g; cases g
  all_goals cases g
theorem kA_ok {α : Type} {v : Value} {c : List Value → Option α} {r : α} (h : kA v c = some r) : ∃ cs, v = .agg ⟨cs⟩ ∧ c cs = some r := by
  unfold kA at h
  split at h
  · rename_i cs; exact ⟨cs.toList, rfl, h⟩
  · cases h
abbrev Sp := List Value → (Value → Res) → Res
noncomputable def findS (l : List (FuncId × Sp)) (g : FuncId) : Option Sp := List.rec (motive := fun _ => Option Sp) none (fun x _ ih => cond (Nat.beq x.1 g) (some x.2) ih) l
theorem findS_mem {l : List (FuncId × Sp)} {g : FuncId} {s : Sp} (h : findS l g = some s) : (g, s) ∈ l := by
  induction l with
  | nil => cases h
  | cons x xs ih =>
    have h2 : cond (Nat.beq x.1 g) (some x.2) (findS xs g) = some s := h
    clear h
    cases hb : Nat.beq x.1 g with
    | true =>
      rw [hb] at h2
      have e := Nat.eq_of_beq_eq_true hb
      have e2 : x.2 = s := by simpa using h2
      have : (g, s) = x := by rw [← e, ← e2]
      rw [this]; exact List.mem_cons_self
    | false => rw [hb] at h2; exact List.mem_cons_of_mem _ (ih h2)
def SpOk (P : Program) (own : Bool) (g : FuncId) (s : Sp) : Prop := ∀ vs k r, s vs k = some r → ∃ v, k v = some r ∧
  (if own = true then ∃ z cs, v = dS z cs ∧ Good P g vs ⟨[], 0, []⟩ (ownR z cs) else Good P g vs ⟨[], 0, []⟩ (v, ⟨[], 0, []⟩))
inductive SpsOk (P : Program) (mode : FuncId → Nat) : List (FuncId × Sp) → Prop
  | nil : SpsOk P mode []
  | cons {g s l} (h : SpOk P (decide (mode g = 5)) g s) (hs : SpsOk P mode l) : SpsOk P mode ((g, s) :: l)
theorem SpsOk.get {P : Program} {mode : FuncId → Nat} {l : List (FuncId × Sp)} (h : SpsOk P mode l) : ∀ {g : FuncId} {s : Sp}, (g, s) ∈ l → SpOk P (decide (mode g = 5)) g s := by
  induction h with
  | nil => intro g s h; cases h
  | cons h1 _ ih =>
    intro g s h
    rcases List.mem_cons.1 h with e | h
    · cases e; exact h1
    · exact ih h
noncomputable def Env.with (E : Env) (l : List (FuncId × Sp)) : Env := ⟨E.P, E.T, { E.pol with spec := findS l }⟩
theorem envOk_with {E : Env} (hE : EnvOk E) {l : List (FuncId × Sp)} (hl : SpsOk E.P E.pol.mode l) : EnvOk (E.with l) := by
  refine ⟨hE.fits, hE.names, hE.mixed, fun g s hs vs k r h => ?_, hE.specM⟩
  obtain ⟨v, h1, h2⟩ := hl.get (findS_mem hs) vs k r h
  refine ⟨v, h1, ?_⟩
  by_cases hm : E.pol.mode g = 5
  · have e : decide (E.pol.mode g = 5) = true := decide_eq_true hm
    rw [if_pos e] at h2
    have : (E.with l).pol.mode g = 5 := hm
    rw [if_pos this]; exact h2
  · have e : decide (E.pol.mode g = 5) = false := decide_eq_false hm
    rw [e, if_neg (by simp)] at h2
    have : ¬ (E.with l).pol.mode g = 5 := hm
    rw [if_neg this]; exact h2
noncomputable def kU {α : Type} (l : List Value) (c : Value → List Value → Option α) : Option α := match l with | x :: xs => c x xs | [] => none
noncomputable def kE {α : Type} (l : List Value) (c : Option α) : Option α := match l with | [] => c | _ => none
noncomputable def kP {α : Type} (v : Value) (c : List Value → Option α) : Option α := deepC v (fun _ _ => none) (fun off cs => cond (Nat.beq off 0) (c cs) none) (fun _ _ _ => none) (fun _ => none) none
noncomputable def kF {α : Type} (g : Nat) (v : Value) (c : List Value → Option α) : Option α := match v with
  | .func fn f cs => (match fn with | .func g' => (match f.toList with | [] => cond (Nat.beq g' g) (c cs.toList) none | _ => none) | _ => none)
  | _ => none
noncomputable def fnOf (l : List Value) (i : Nat) : Nat := match getL l i with | some v => (match v with | .func fn _ _ => (match fn with | .func g => g | _ => 0) | _ => 0) | none => 0
noncomputable def ret2 (r : Value × AH) : Res := some r
theorem kU_ok {α : Type} {l : List Value} {c : Value → List Value → Option α} {r : α} (h : kU l c = some r) : ∃ x xs, l = x :: xs ∧ c x xs = some r := by
  cases l with
  | nil => cases h
  | cons x xs => exact ⟨x, xs, rfl, h⟩
theorem kE_ok {α : Type} {l : List Value} {c : Option α} {r : α} (h : kE l c = some r) : l = [] ∧ c = some r := by
  cases l with
  | nil => exact ⟨rfl, h⟩
  | cons x xs => cases h
theorem kP_ok {α : Type} {v : Value} {c : List Value → Option α} {r : α} (h : kP v c = some r) : ∃ cs, v = dP 0 cs ∧ c cs = some r := by
  unfold kP at h
  rcases deepC_some h with ⟨_, _, _, g⟩ | ⟨off, cs, rfl, g⟩ | ⟨_, _, _, _, g⟩ | ⟨_, _, g⟩ | g
  · cases g
  · cases ht : Nat.beq off 0 with
    | true => rw [ht] at g; rw [Nat.eq_of_beq_eq_true ht]; exact ⟨cs, rfl, g⟩
    | false => rw [ht] at g; cases g
  all_goals cases g
theorem kF_ok {α : Type} {g : Nat} {v : Value} {c : List Value → Option α} {r : α} (h : kF g v c = some r) : ∃ cs, v = .func (.func g) ⟨[]⟩ ⟨cs⟩ ∧ c cs = some r := by
  unfold kF at h
  split at h
  · rename_i fn f cs
    split at h
    · rename_i g'
      split at h
      · rename_i hf
        cases ht : Nat.beq g' g with
        | true =>
          rw [ht] at h
          rw [Nat.eq_of_beq_eq_true ht]
          obtain ⟨f⟩ := f
          obtain ⟨cs⟩ := cs
          obtain rfl : f = [] := hf
          exact ⟨cs, rfl, h⟩
        | false => rw [ht] at h; cases h
      · cases h
    · cases h
  · cases h
theorem bnd_get {α β : Type} {x : Option α} {f : α → Option β} {r : β} (h : bnd x f = some r) : ∃ a, x = some a ∧ f a = some r := by
  cases x with
  | none => cases h
  | some a => exact ⟨a, rfl, h⟩
noncomputable def oE {α : Type} (e : α → Value × AH) (x : Option α) : Res := match x with | some a => ret2 (e a) | none => none
theorem oE_some {α : Type} (e : α → Value × AH) (a : α) : oE e (some a) = ret2 (e a) := rfl
theorem oE_none {α : Type} (e : α → Value × AH) : oE e none = none := rfl
theorem oE_cond {α : Type} (e : α → Value × AH) (b : Bool) (x y : Option α) : oE e (cond b x y) = cond b (oE e x) (oE e y) := by cases b <;> rfl
theorem oE_bnd {α β : Type} (e : α → Value × AH) (x : Option β) (f : β → Option α) : oE e (bnd x f) = bnd x (fun b => oE e (f b)) := by cases x <;> rfl
noncomputable def pickS (i : Nat) (l : List (FuncId × Sp)) : Sp := fun vs k => match findS l (fnOf vs i) with | some s => s vs k | none => none
theorem SpOk.mkF {P : Program} {g : FuncId} {s : Sp} (h : ∀ vs k r, s vs k = some r → ∃ v, k v = some r ∧ Good P g vs ⟨[], 0, []⟩ (v, ⟨[], 0, []⟩)) : SpOk P false g s := fun vs k r hr => by
  obtain ⟨v, h1, h2⟩ := h vs k r hr
  exact ⟨v, h1, by rw [if_neg (by simp)]; exact h2⟩
theorem SpOk.mkT {P : Program} {g : FuncId} {s : Sp} (h : ∀ vs k r, s vs k = some r → ∃ z cs, k (dS z cs) = some r ∧ Good P g vs ⟨[], 0, []⟩ (ownR z cs)) : SpOk P true g s := fun vs k r hr => by
  obtain ⟨z, cs, h1, h2⟩ := h vs k r hr
  exact ⟨_, h1, by rw [if_pos rfl]; exact ⟨z, cs, rfl, h2⟩⟩
theorem SpOk.pick {P : Program} {own : Bool} {g : FuncId} {i : Nat} {l : List (FuncId × Sp)} (h : ∀ x ∈ l, SpOk P own g x.2) : SpOk P own g (pickS i l) := fun vs k r hr => by
  unfold pickS at hr
  cases hf : findS l (fnOf vs i) with
  | none => rw [hf] at hr; cases hr
  | some s => rw [hf] at hr; exact h _ (findS_mem hf) vs k r hr
theorem SpsOk.add {P : Program} {mode : FuncId → Nat} {b : Bool} {g : FuncId} {s : Sp} {l : List (FuncId × Sp)} (h : SpOk P b g s) (hb : decide (mode g = 5) = b) (hs : SpsOk P mode l) : SpsOk P mode ((g, s) :: l) := .cons (by rw [hb]; exact h) hs
end Go.Proofs.Yteljeekapcenlaa.Ev
