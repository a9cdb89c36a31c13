/-
  Ev, part R: from a contract to a row: what an argument of a flat type is, and what a call of a good function comes to. No conditions.
-/
import Derived.Test.YteljeekapcenlaaEvN
import Derived.WalkKit
import Derived.ProofKit
import Derived.OpenShut
import Derived.ShutString
import Derived.ChangeOld
import Derived.Below
import Derived.SizedLaws
import Derived.Carry
namespace Go.Proofs.Yteljeekapcenlaa.Ev
open Go Go.RowKit
def Has : Kd → Value → Prop
  | .bool, v => ∃ b, v = .bool b
  | .int k, v => ∃ n, v = .int k n ∧ k.has n
  | .str, v => ∃ s, v = .string s
  | _, _ => True
def HasL : List Kd → List Value → Prop
  | [], [] => True
  | k :: ks, v :: vs => Has k v ∧ HasL ks vs
  | _, _ => False
theorem HasL.int {k : IntKind} {ks : List Kd} {cs : List Value} (h : HasL (.int k :: ks) cs) : ∃ n vs, cs = .int k n :: vs ∧ k.has n ∧ HasL ks vs := by
  cases cs with
  | nil => cases h
  | cons c cs => obtain ⟨⟨n, rfl, h1⟩, h2⟩ := h; exact ⟨n, cs, rfl, h1, h2⟩
theorem HasL.bool {ks : List Kd} {cs : List Value} (h : HasL (.bool :: ks) cs) : ∃ n vs, cs = .bool n :: vs ∧ HasL ks vs := by
  cases cs with
  | nil => cases h
  | cons c cs => obtain ⟨⟨n, rfl⟩, h2⟩ := h; exact ⟨n, cs, rfl, h2⟩
theorem HasL.str {ks : List Kd} {cs : List Value} (h : HasL (.str :: ks) cs) : ∃ n vs, cs = .string n :: vs ∧ HasL ks vs := by
  cases cs with
  | nil => cases h
  | cons c cs => obtain ⟨⟨n, rfl⟩, h2⟩ := h; exact ⟨n, cs, rfl, h2⟩
theorem HasL.nil {cs : List Value} (h : HasL [] cs) : cs = [] := by
  cases cs with
  | nil => rfl
  | cons c cs => cases h
theorem cell_has {P : Program} {w : World} {r : Reach} {base : Nat} {t : TypeId} {v : Value} (h : Cell.okWide P w r base t v) (hf : (kindP P t).flat = true) : Has (kindP P t) v := by
  unfold Cell.okWide at h
  unfold kindP at hf ⊢
  generalize hu : P.underlying t = u at h hf
  match u, hf, h with
  | some .bool, _, h =>
    have h : Cell.ok P w r base t v := by cases v <;> exact h
    unfold Cell.ok at h; rw [hu] at h
    cases v <;> first | exact ⟨_, rfl⟩ | (cases h; done)
  | some (.int k), _, h =>
    have h : Cell.ok P w r base t v := by cases v <;> exact h
    unfold Cell.ok at h; rw [hu] at h
    cases v <;> first | (obtain ⟨rfl, h⟩ := h; exact ⟨_, rfl, h⟩) | (cases h; done)
  | some .string, _, h =>
    have h : Cell.ok P w r base t v := by cases v <;> exact h
    unfold Cell.ok at h; rw [hu] at h
    cases v <;> first | exact ⟨_, rfl⟩ | (cases h; done)
theorem scalar_has {P : Program} {w : World} {r : Reach} {base : Nat} {t : TypeId} {v : Value} (h : Value.okWide P w r base t v) (hf : (kindP P t).flat = true) : Has (kindP P t) v := by
  refine cell_has (w := w) (r := r) (base := base) ?_ hf
  unfold Value.okWide at h
  unfold kindP at hf
  generalize hu : P.underlying t = u at h hf
  match u, hf, h with
  | some .bool, _, h => exact h
  | some (.int k), _, h => exact h
  | some .string, _, h => exact h
theorem agg_has {P : Program} {w : World} {r : Reach} {base : Nat} {t : TypeId} {v : Value} {ts : List TypeId} (h : Value.okWide P w r base t v) (ha : aggP P t = true)
    (hts : P.cellTypes P.depth t = some ts) (hn : P.cellsOf t = ts.length) (hf : (ts.map (kindP P)).all Kd.flat = true) : ∃ cs, v = .agg ⟨cs⟩ ∧ HasL (ts.map (kindP P)) cs := by
  have h2 : ∃ cs, v = .agg cs ∧ cs.size = P.cellsOf t ∧ Row.okWide P w r base t cs := by
    unfold Value.okWide at h
    unfold aggP at ha
    generalize hu : P.underlying t = u at h ha
    match u, ha, h with
    | some (.struct _), _, h => exact h
    | some (.array _ _), _, h => exact h
  obtain ⟨⟨cs⟩, rfl, hsz, ts', hts', _, hc⟩ := h2
  rw [hts] at hts'
  obtain rfl := Option.some.inj hts'
  refine ⟨cs, rfl, ?_⟩
  have hlen : cs.length = ts.length := by rw [← hn, ← hsz]; rfl
  have key : ∀ (ts : List TypeId) (cs : List Value), cs.length = ts.length → (∀ (i : Nat) (v : Value), cs[i]? = some v → ∃ u, ts[i]? = some u ∧ Cell.okWide P w r base u v) → (ts.map (kindP P)).all Kd.flat = true → HasL (ts.map (kindP P)) cs := by
    intro ts
    induction ts with
    | nil => intro cs hl _ _; cases cs with | nil => trivial | cons _ _ => simp at hl
    | cons t ts ih =>
      intro cs hl hc hf
      cases cs with
      | nil => simp at hl
      | cons c cs =>
        simp only [List.map_cons, List.all_cons, Bool.and_eq_true] at hf
        obtain ⟨u, h1, h2⟩ := hc 0 c rfl
        simp at h1; subst h1
        exact ⟨cell_has h2 hf.1, ih cs (by simpa using hl) (fun i v hv => hc (i + 1) v hv) hf.2⟩
  refine key ts cs hlen (fun i v hv => ?_) hf
  obtain ⟨u, h1, h2⟩ := hc i v (by simpa using hv)
  have hi : i < ts.length := by
    have := (List.getElem?_eq_some_iff.1 hv).1
    omega
  rw [Nat.mod_eq_of_lt hi] at h1
  exact ⟨u, h1, h2⟩
theorem calls_of_good {P : Program} {f : FuncId} {vs : List Value} {v : Value} (h : Good P f vs ⟨[], 0, []⟩ (v, ⟨[], 0, []⟩)) (hvs : vs.all plain = true) (hp : plain7 v = true) (w : World) :
    Calls P f ⟨vs⟩ w fun e w' => e = .returned v ∧ Below w.heap.size w w' := by
  refine (h.2 w.heap.size Emb.nil w vs (HR.empty w) (plains_refl _ hvs)).mono fun e w' he => ?_
  obtain ⟨ι', v', rfl, _, _, x3, x4⟩ := he
  rw [plain7_eq hp x3]
  exact ⟨rfl, x4⟩
end Go.Proofs.Yteljeekapcenlaa.Ev
