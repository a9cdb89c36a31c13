/-
  Ev, part N: values of fixed shapes taken apart and put together. No conditions.
-/
import Derived.Test.YteljeekapcenlaaEvM
namespace Go.Proofs.Yteljeekapcenlaa.Ev
open Go
noncomputable def gI (k : IntKind) (v : Value) (c : Int → Res) : Res := match v with | .int k' n => cond (decide (k' = k)) (c n) none | _ => none
noncomputable def gB (v : Value) (c : Bool → Res) : Res := match v with | .bool b => c b | _ => none
noncomputable def gS (v : Value) (c : ByteArray → Res) : Res := match v with | .string s => c s | _ => none
theorem gI_ok {k : IntKind} {v : Value} {c : Int → Res} {r : Value × AH} (h : gI k v c = some r) : ∃ n, v = .int k n ∧ c n = some r := by
  unfold gI at h
  split at h
  · obtain ⟨hk, h⟩ := cond_some h
    rw [of_decide_eq_true hk]
    exact ⟨_, rfl, h⟩
  · cases h
theorem gB_ok {v : Value} {c : Bool → Res} {r : Value × AH} (h : gB v c = some r) : ∃ n, v = .bool n ∧ c n = some r := by
  unfold gB at h
  split at h
  · exact ⟨_, rfl, h⟩
  · cases h
theorem gS_ok {v : Value} {c : ByteArray → Res} {r : Value × AH} (h : gS v c = some r) : ∃ n, v = .string n ∧ c n = some r := by
  unfold gS at h
  split at h
  · exact ⟨_, rfl, h⟩
  · cases h
theorem push {α : Type} (e : α → Value) (b : Bool) (x y : α) : cond b (ret (e x)) (ret (e y)) = ret (e (cond b x y)) := by cases b <;> rfl
theorem pcond {α : Type} (e : α → Value) (b : Bool) {x1 y1 : Res} {x2 y2 : α} {x3 y3 : Bool} (hx : x3 = true → x1 = ret (e x2)) (hy : y3 = true → y1 = ret (e y2)) : cond b x3 y3 = true → cond b x1 y1 = ret (e (cond b x2 y2)) := by
  cases b
  · exact hy
  · exact hx
end Go.Proofs.Yteljeekapcenlaa.Ev
