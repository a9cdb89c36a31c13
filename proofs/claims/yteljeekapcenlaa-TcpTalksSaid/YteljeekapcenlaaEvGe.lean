/-
  Ev, part Ge: callees told by their code, whose answers go on. No conditions.
-/
import Derived.Test.YteljeekapcenlaaEvGd
import Derived.Test.YteljeekapcenlaaEvN
namespace Go.Proofs.Yteljeekapcenlaa.Ev
open Go
set_option linter.unusedVariables false
noncomputable def tabS (s : List Value → AH → Res) : Sp := fun vs k => (s vs ⟨[], 0, []⟩).bind fun r => cond (isEmptyH r.2) (k r.1) none
noncomputable def Env.inl (E : Env) (M : Mats) (tab : Tab) (m : Nat) : Nat → Env :=
  Nat.rec (motive := fun _ => Env) E (fun _ ih => ⟨E.P, E.T, { E.pol with
    spec := fun g => match E.pol.spec g with
      | some s => some s
      | none => match findT tab g with
        | some s => cond (Nat.beq (E.pol.mode g) 5) none (some (tabS s))
        | none => cond (M.own g || Nat.beq (E.pol.mode g) 5) none (some fun vs k => evBodyDK ih M (fun _ _ _ => none) m g vs k)
    specM := fun g => match E.pol.specM g with
      | some s => some s
      | none => some fun vs H k => evBodyMK ih (fun _ _ _ => none) m g vs H k }⟩)
theorem orcNone_ok (E : Env) : OrcOk E (fun _ _ _ => none) := fun _ _ _ _ h => by cases h
theorem inl_pol (E : Env) (M : Mats) (tab : Tab) (m n : Nat) : (E.inl M tab m n).P = E.P ∧ (E.inl M tab m n).T = E.T ∧ (E.inl M tab m n).pol.mode = E.pol.mode ∧ (E.inl M tab m n).pol.deep = E.pol.deep ∧ (E.inl M tab m n).pol.nrm = E.pol.nrm := by
  cases n <;> exact ⟨rfl, rfl, rfl, rfl, rfl⟩
theorem inl_ok {E : Env} (hE : EnvOk E) (hr : SpecRl E) (hd : E.pol.deep = true) (hn : E.pol.nrm = false) {M : Mats} {tab : Tab} (ht : TabOk E.P tab) (m : Nat) : ∀ n, EnvOk (E.inl M tab m n) ∧ SpecRl (E.inl M tab m n) := by
  intro n
  induction n with
  | zero => exact ⟨hE, hr⟩
  | succ n ih =>
    obtain ⟨ih, ihr⟩ := ih
    obtain ⟨eP, eT, em, ed, en⟩ := inl_pol E M tab m n
    have hd' := ed.trans hd
    have hn' := en.trans hn
    have cases' : ∀ g s, (E.inl M tab m (n + 1)).pol.spec g = some s → E.pol.spec g = some s ∨ (∃ t, findT tab g = some t ∧ E.pol.mode g ≠ 5 ∧ s = tabS t) ∨ (M.own g = false ∧ E.pol.mode g ≠ 5 ∧ s = fun vs k => evBodyDK (E.inl M tab m n) M (fun _ _ _ => none) m g vs k) := by
      intro g s h
      have h : (match E.pol.spec g with
        | some s => some s
        | none => match findT tab g with
          | some s => cond (Nat.beq (E.pol.mode g) 5) none (some (tabS s))
          | none => cond (M.own g || Nat.beq (E.pol.mode g) 5) none (some fun vs k => evBodyDK (E.inl M tab m n) M (fun _ _ _ => none) m g vs k)) = some s := h
      split at h
      · exact .inl (by rename_i e; rw [e]; exact h)
      · split at h
        · rename_i t e
          cases hm : Nat.beq (E.pol.mode g) 5 with
          | true => rw [hm] at h; cases h
          | false =>
            rw [hm, cond_false] at h
            obtain rfl := Option.some.inj h
            exact .inr (.inl ⟨t, e, fun e5 => (by rw [e5] at hm; cases hm), rfl⟩)
        · cases ho : M.own g with
          | true => rw [ho] at h; cases h
          | false =>
            cases hm : Nat.beq (E.pol.mode g) 5 with
            | true => rw [ho, hm] at h; cases h
            | false =>
              rw [ho, hm] at h
              obtain rfl := Option.some.inj h
              exact .inr (.inr ⟨rfl, fun e5 => (by rw [e5] at hm; cases hm), rfl⟩)
    have casesM : ∀ g s, (E.inl M tab m (n + 1)).pol.specM g = some s → E.pol.specM g = some s ∨ s = fun vs H k => evBodyMK (E.inl M tab m n) (fun _ _ _ => none) m g vs H k := by
      intro g s h
      have h : (match E.pol.specM g with
        | some s => some s
        | none => some fun vs H k => evBodyMK (E.inl M tab m n) (fun _ _ _ => none) m g vs H k) = some s := h
      split at h
      · exact .inl (by rename_i e; rw [e]; exact h)
      · exact .inr (Option.some.inj h).symm
    refine ⟨⟨hE.fits, hE.names, hE.mixed, fun g s hs vs k r h => ?_, fun g s hs vs H k r h => ?_⟩, ⟨fun g s hs S vs k k' hk => ?_, fun g s hs S vs H k k' hk => ?_⟩⟩
    · rcases cases' g s hs with hs | ⟨t, ht', hm, rfl⟩ | ⟨ho, hm, rfl⟩
      · exact hE.spec g s hs vs k r h
      · unfold tabS at h
        obtain ⟨q, hq, h⟩ := Option.bind_eq_some_iff.1 h
        obtain ⟨he, h⟩ := cond_some h
        refine ⟨q.1, h, ?_⟩
        rw [if_neg (show ¬ (E.inl M tab m (n + 1)).pol.mode g = 5 from hm)]
        have hg := ht _ (findT_mem ht') vs _ q hq
        have e2 : q = (q.1, ⟨[], 0, []⟩) := by rw [← isEmptyH_some he]
        rw [e2] at hg
        exact hg
      · obtain ⟨v, h1, h2⟩ := evBodyDK_ok hd' hn' ihr ho h
        refine ⟨v, h1, ?_⟩
        rw [if_neg (show ¬ (E.inl M tab m (n + 1)).pol.mode g = 5 from hm)]
        have := body_goodD ih (orcNone_ok _) h2
        rw [eP] at this
        exact this
    · rcases casesM g s hs with hs | rfl
      · exact hE.specM g s hs vs H k r h
      · obtain ⟨v, H', h1, h2⟩ := evBodyMK_ok hd' hn' ihr h
        refine ⟨v, H', h1, ?_⟩
        have := body_good ih (orcNone_ok _) h2
        rw [eP] at this
        exact this
    · rcases cases' g s hs with hs | ⟨t, ht', hm, rfl⟩ | ⟨ho, hm, rfl⟩
      · exact hr.v g s hs S vs k k' hk
      · unfold tabS
        exact Rl.bind fun q => Rl.cond (hk _) Rl.none
      · unfold evBodyDK
        refine Rl.bind fun fn => Rl.bind fun c => rl_evCodeD hd' hn' ihr m g c _ _ _ _ fun e fr H => ?_
        cases e with
        | normal => exact rl_resK fun vs => rl_keepVs fun ds H => hk _
        | exit i => exact Rl.none
        | ret => exact rl_resK fun vs => rl_keepVs fun ds H => hk _
    · rcases casesM g s hs with hs | rfl
      · exact hr.m g s hs S vs H k k' hk
      · unfold evBodyMK
        refine Rl.bind fun fn => Rl.bind fun c => rl_evCode hd' hn' ihr m g c _ _ _ _ fun e fr H => ?_
        cases e with
        | normal => exact rl_resK fun vs => hk _ _
        | exit i => exact Rl.none
        | ret => exact rl_resK fun vs => hk _ _
def SpRl (s : Sp) : Prop := ∀ (S : (Value × AH) → Res → Prop) vs k k', (∀ v, Rl S (k v) (k' v)) → Rl S (s vs k) (s vs k')
inductive SpsRl : List (FuncId × Sp) → Prop
  | nil : SpsRl []
  | cons {g s l} (h : SpRl s) (hs : SpsRl l) : SpsRl ((g, s) :: l)
theorem SpsRl.get {l : List (FuncId × Sp)} (h : SpsRl l) : ∀ {g : FuncId} {s : Sp}, (g, s) ∈ l → SpRl s := by
  induction h with
  | nil => intro g s h; cases h
  | cons h1 _ ih =>
    intro g s h
    rcases List.mem_cons.1 h with e | h
    · cases e; exact h1
    · exact ih h
theorem specRl_with {E : Env} (hm : E.pol.specM = fun _ => none) {l : List (FuncId × Sp)} (hl : SpsRl l) : SpecRl (E.with l) :=
  ⟨fun g s hs S vs k k' hk => hl.get (findS_mem hs) S vs k k' hk, fun g s hs => by
    have : E.pol.specM g = some s := hs
    rw [hm] at this; cases this⟩
theorem SpRl.pick {i : Nat} {l : List (FuncId × Sp)} (h : SpsRl l) : SpRl (pickS i l) := fun S vs k k' hk => by
  unfold pickS
  cases hf : findS l (fnOf vs i) with
  | none => exact Rl.none
  | some s => exact h.get (findS_mem hf) S vs k k' hk
section
variable {S : (Value × AH) → Res → Prop}
theorem rl_kU {l : List Value} {c c' : Value → List Value → Res} (h : ∀ a b, Rl S (c a b) (c' a b)) : Rl S (kU l c) (kU l c') := by
  cases l with
  | nil => exact Rl.none
  | cons => exact h _ _
theorem rl_kE {l : List Value} {c c' : Res} (h : Rl S c c') : Rl S (kE l c) (kE l c') := by
  cases l with
  | nil => exact h
  | cons => exact Rl.none
theorem rl_kP {v : Value} {c c' : List Value → Res} (h : ∀ a, Rl S (c a) (c' a)) : Rl S (kP v c) (kP v c') := by
  unfold kP
  exact rl_deepC (fun _ _ => Rl.none) (fun _ _ => Rl.cond (h _) Rl.none) (fun _ _ _ => Rl.none) (fun _ => Rl.none) Rl.none
theorem rl_kL {z : Nat} {v : Value} {c c' : List Value → Res} (h : ∀ a, Rl S (c a) (c' a)) : Rl S (kL z v c) (kL z v c') := by
  unfold kL
  exact rl_deepC (fun _ _ => Rl.cond (h _) Rl.none) (fun _ _ => Rl.none) (fun _ _ _ => Rl.none) (fun _ => Rl.none) Rl.none
theorem rl_kF {g : Nat} {v : Value} {c c' : List Value → Res} (h : ∀ a, Rl S (c a) (c' a)) : Rl S (kF g v c) (kF g v c') := by
  unfold kF
  repeat' (first | exact Rl.none | exact h _ | with_reducible refine Rl.cond ?_ ?_ | split)
theorem rl_gI {kd : IntKind} {v : Value} {c c' : Int → Res} (h : ∀ a, Rl S (c a) (c' a)) : Rl S (gI kd v c) (gI kd v c') := by
  unfold gI
  repeat' (first | exact Rl.none | exact h _ | with_reducible refine Rl.cond ?_ ?_ | split)
theorem rl_gB {v : Value} {c c' : Bool → Res} (h : ∀ a, Rl S (c a) (c' a)) : Rl S (gB v c) (gB v c') := by
  unfold gB
  repeat' (first | exact Rl.none | exact h _ | split)
theorem rl_gS {v : Value} {c c' : ByteArray → Res} (h : ∀ a, Rl S (c a) (c' a)) : Rl S (gS v c) (gS v c') := by
  unfold gS
  repeat' (first | exact Rl.none | exact h _ | split)
end
theorem good_of_inl {E : Env} (hE : EnvOk E) (hr : SpecRl E) (hd : E.pol.deep = true) (hn : E.pol.nrm = false) {M : Mats} {tab : Tab} (ht : TabOk E.P tab) (m n k : Nat) {f : FuncId} {vs : List Value} {r : Value × AH}
    (h : evBodyD (E.inl M tab m n) M (fun _ _ _ => none) k f vs = some r) : Good E.P f vs ⟨[], 0, []⟩ r := by
  have := body_goodD (inl_ok hE hr hd hn ht m n).1 (orcNone_ok _) h
  rw [(inl_pol E M tab m n).1] at this
  exact this
end Go.Proofs.Yteljeekapcenlaa.Ev
