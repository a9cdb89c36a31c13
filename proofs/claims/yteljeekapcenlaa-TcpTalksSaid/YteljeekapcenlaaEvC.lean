/-
  Ev, part C: the relation between the abstract memory and the model's memory, and its small laws. No conditions.
-/
import Derived.Test.YteljeekapcenlaaEvB
import Derived.Below
namespace Go.Proofs.Yteljeekapcenlaa.Ev
open Go
structure Inj where
  blk : Nat
  sh : Nat
  ex : Nat
structure Emb where
  m : Nat → Option Inj
  fz : Nat → Nat → Value → Prop
  S : Nat → Nat → Value → Prop
instance : CoeFun Emb (fun _ => Nat → Option Inj) := ⟨Emb.m⟩
def Emb.nil : Emb := ⟨fun _ => none, fun _ _ _ => False, fun _ _ _ => False⟩
structure Emb.le (i i' : Emb) : Prop where
  m : ∀ b j, i b = some j → i' b = some j
  fz : ∀ r k d, i.fz r k d → i'.fz r k d
  S : i'.S = i.S
theorem Emb.le_refl (i : Emb) : i.le i := ⟨fun _ _ h => h, fun _ _ _ h => h, rfl⟩
theorem Emb.le_trans {i i' i'' : Emb} (h : i.le i') (h' : i'.le i'') : i.le i'' := ⟨fun b j hj => h'.m b j (h.m b j hj), fun r k d hd => h'.fz r k d (h.fz r k d hd), h'.S.trans h.S⟩
mutual
inductive VR (ι : Emb) : Value → Value → Prop
  | bool (b) : VR ι (.bool b) (.bool b)
  | int (k n) : VR ι (.int k n) (.int k n)
  | float (k n) : VR ι (.float k n) (.float k n)
  | complex (k n m) : VR ι (.complex k n m) (.complex k n m)
  | string (s) : VR ι (.string s) (.string s)
  | nilFunc : VR ι .nilFunc .nilFunc
  | nilIface : VR ι .nilIface .nilIface
  | ptrNil : VR ι (.pointer none) (.pointer none)
  | ptr (b o j) (h : ι b = some j) : VR ι (.pointer (some ⟨b, o, none⟩)) (.pointer (some ⟨j.blk, j.sh + o, none⟩))
  | sliceNil : VR ι (.slice none 0 0) (.slice none 0 0)
  | slice (b o l k j) (h : ι b = some j) : VR ι (.slice (some ⟨b, o, none⟩) l k) (.slice (some ⟨j.blk, j.sh + o, none⟩) l k)
  | sliceX (b o l k k' sz j) (h : ι b = some j) (hz : 0 < sz) (hk : k ≤ k') (hx : (k' - k) * sz = j.ex) : VR ι (.slice (some ⟨b, o, some sz⟩) l k) (.slice (some ⟨j.blk, j.sh + o, none⟩) l k')
  | sliceE (b a' o' k') : VR ι (.slice (some ⟨b, 0, some 0⟩) 0 0) (.slice (some ⟨a', o', none⟩) 0 k')
  | dSl (sz cs n cap r o) (hz : 0 < sz) (hl : cs.length = n * sz) (hc : n ≤ cap) (h : ∀ i d, cs[i]? = some d → ι.fz r (o + i) d) : VR ι (.iface sz (.agg ⟨.chan (some 0) :: cs⟩)) (.slice (some ⟨r, o, none⟩) n cap)
  | dNil (sz) (hz : 0 < sz) : VR ι (.iface sz (.agg ⟨[.chan (some 0)]⟩)) (.slice none 0 0)
  | dSe (sz) (a : Addr) (hz : 0 < sz) : VR ι (.iface sz (.agg ⟨[.chan (some 0)]⟩)) (.slice (some a) 0 0)
  | dPt (off cs r o) (h : ∀ i d, cs[i]? = some d → ι.fz r (o + i) d) : VR ι (.iface off (.agg ⟨.chan (some 1) :: cs⟩)) (.pointer (some ⟨r, o + off, none⟩))
  | dBl (sz b n k' j) (h : ι b = some j) (hz : 0 < sz) (hk : n ≤ k') (hx : (k' - n) * sz = j.ex) : VR ι (.iface sz (.agg ⟨[.chan (some 2), .chan (some b), .chan (some n)]⟩)) (.slice (some ⟨j.blk, j.sh, none⟩) n k')
  | dBn (sz b) (hz : 0 < sz) : VR ι (.iface sz (.agg ⟨[.chan (some 2), .chan (some b), .chan (some 0)]⟩)) (.slice none 0 0)
  | dBe (sz b) (a : Addr) (hz : 0 < sz) : VR ι (.iface sz (.agg ⟨[.chan (some 2), .chan (some b), .chan (some 0)]⟩)) (.slice (some a) 0 0)
  | dEn (sz) (hz : 0 < sz) : VR ι (.iface sz (.agg ⟨[.chan (some 3)]⟩)) (.slice none 0 0)
  | dEe (sz) (a : Addr) (hz : 0 < sz) : VR ι (.iface sz (.agg ⟨[.chan (some 3)]⟩)) (.slice (some a) 0 0)
  | mapNil : VR ι (.map none) (.map none)
  | map (r j) (h : ι r = some j) : VR ι (.map (some r)) (.map (some j.blk))
  | chanNil : VR ι (.chan none) (.chan none)
  | func (fn f f' c c') (hf : VRs ι f f') (hc : VRs ι c c') : VR ι (.func fn ⟨f⟩ ⟨c⟩) (.func fn ⟨f'⟩ ⟨c'⟩)
  | iface (t v v') (h : VR ι v v') : VR ι (.iface t v) (.iface t v')
  | agg (c c') (h : VRs ι c c') : VR ι (.agg ⟨c⟩) (.agg ⟨c'⟩)
  | tuple (c c') (h : VRs ι c c') : VR ι (.tuple ⟨c⟩) (.tuple ⟨c'⟩)
inductive VRs (ι : Emb) : List Value → List Value → Prop
  | nil : VRs ι [] []
  | cons (v v' l l') (h : VR ι v v') (hs : VRs ι l l') : VRs ι (v :: l) (v' :: l')
end
mutual
theorem VR.mono {ι ι' : Emb} (hi : ι.le ι') {v v' : Value} : VR ι v v' → VR ι' v v'
  | .bool b => .bool b
  | .int k n => .int k n
  | .float k n => .float k n
  | .complex k n m => .complex k n m
  | .string s => .string s
  | .nilFunc => .nilFunc
  | .nilIface => .nilIface
  | .ptrNil => .ptrNil
  | .ptr b o j h => .ptr b o j (hi.m _ _ h)
  | .sliceNil => .sliceNil
  | .slice b o l k j h => .slice b o l k j (hi.m _ _ h)
  | .sliceX b o l k k' sz j h hz hk hx => .sliceX b o l k k' sz j (hi.m _ _ h) hz hk hx
  | .sliceE b a' o' k' => .sliceE b a' o' k'
  | .dSl sz cs n cap r o hz hl hc h => .dSl sz cs n cap r o hz hl hc (fun i d hd => hi.fz _ _ _ (h i d hd))
  | .dNil sz hz => .dNil sz hz
  | .dSe sz a hz => .dSe sz a hz
  | .dPt off cs r o h => .dPt off cs r o (fun i d hd => hi.fz _ _ _ (h i d hd))
  | .dBl sz b n k' j h hz hk hx => .dBl sz b n k' j (hi.m _ _ h) hz hk hx
  | .dBn sz b hz => .dBn sz b hz
  | .dBe sz b a hz => .dBe sz b a hz
  | .dEn sz hz => .dEn sz hz
  | .dEe sz a hz => .dEe sz a hz
  | .mapNil => .mapNil
  | .map r j h => .map r j (hi.m _ _ h)
  | .chanNil => .chanNil
  | .func fn f f' c c' hf hc => .func fn f f' c c' (hf.mono hi) (hc.mono hi)
  | .iface t v v' h => .iface t v v' (h.mono hi)
  | .agg c c' h => .agg c c' (h.mono hi)
  | .tuple c c' h => .tuple c c' (h.mono hi)
theorem VRs.mono {ι ι' : Emb} (hi : ι.le ι') {l l' : List Value} : VRs ι l l' → VRs ι' l l'
  | .nil => .nil
  | .cons v v' l l' h hs => .cons v v' l l' (h.mono hi) (hs.mono hi)
end
theorem VRs.length {ι : Emb} {l l' : List Value} : VRs ι l l' → l'.length = l.length
  | .nil => rfl
  | .cons _ _ _ _ _ hs => by simp [hs.length]
theorem VRs.append {ι : Emb} {a a' b b' : List Value} (h : VRs ι a a') (h' : VRs ι b b') : VRs ι (a ++ b) (a' ++ b') := by
  match a, a', h with
  | _, _, .nil => exact h'
  | _, _, .cons v v' l l' hv hs => exact .cons _ _ _ _ hv (hs.append h')
theorem VRs.get {ι : Emb} {l l' : List Value} (h : VRs ι l l') : ∀ {i : Nat} {v : Value}, l[i]? = some v → ∃ v', l'[i]? = some v' ∧ VR ι v v' := by
  match l, l', h with
  | _, _, .nil => intro i v hv; simp at hv
  | _, _, .cons x x' l l' hx hs =>
    intro i v hv
    cases i with
    | zero => simp at hv; subst hv; exact ⟨x', by simp, hx⟩
    | succ i => simp at hv; obtain ⟨v', h1, h2⟩ := hs.get hv; exact ⟨v', by simpa using h1, h2⟩
theorem VRs.take {ι : Emb} {l l' : List Value} (h : VRs ι l l') : ∀ n, VRs ι (l.take n) (l'.take n) := by
  match l, l', h with
  | _, _, .nil => intro n; simp; exact .nil
  | _, _, .cons x x' l l' hx hs =>
    intro n
    cases n with
    | zero => simp; exact .nil
    | succ n => simp; exact .cons _ _ _ _ hx (hs.take n)
theorem VRs.drop {ι : Emb} {l l' : List Value} (h : VRs ι l l') : ∀ n, VRs ι (l.drop n) (l'.drop n) := by
  match l, l', h with
  | _, _, .nil => intro n; simp; exact .nil
  | _, _, .cons x x' l l' hx hs =>
    intro n
    cases n with
    | zero => simp; exact .cons _ _ _ _ hx hs
    | succ n => simp; exact hs.drop n
theorem VRs.mem {ι : Emb} {l l' : List Value} (h : VRs ι l l') : ∀ v' ∈ l', ∃ v ∈ l, VR ι v v' := by
  match l, l', h with
  | _, _, .nil => intro v hv; simp at hv
  | _, _, .cons x x' l l' hx hs =>
    intro v hv
    rcases List.mem_cons.1 hv with rfl | hv
    · exact ⟨x, by simp, hx⟩
    · obtain ⟨u, h1, h2⟩ := hs.mem v hv; exact ⟨u, by simp [h1], h2⟩
theorem setF_self : ∀ {fr : Frame} {d : Nat} {v : Value}, getF fr d = some v → setF fr d (some v) = fr
  | [], _, _, h => by cases h
  | x :: xs, 0, v, h => by
    have h : x = some v := h
    show some v :: xs = x :: xs
    rw [h]
  | x :: xs, d + 1, v, h => by
    have h : getF xs d = some v := h
    show x :: setF xs d (some v) = x :: xs
    rw [setF_self h]
theorem guardR_eq (ops : List Oper) (g : Option (Nat × Bool)) (fr : Frame) (run skip : Frame → Res) : guardR ops g fr run skip = guardK ops g fr (run fr) (skip fr) := by
  cases g with
  | none => rfl
  | some g =>
    obtain ⟨j, want⟩ := g
    simp only [guardR, guardK]
    cases ho : getL ops j with
    | none => rfl
    | some o =>
      simp only [Option.bind_some]
      cases hd : o.dst with
      | none => rfl
      | some d =>
        simp only [Option.bind_some]
        cases hv : getF fr d with
        | none => rfl
        | some v =>
          simp only [Option.bind_some]
          cases v with
          | bool b => cases b <;> simp only [cond_true, cond_false, setF_self hv]
          | _ => rfl
theorem condR_eq (fr : Frame) (c : Operand) (x y : Frame → Res) : condR fr c x y = condK fr c (x fr) (y fr) := by
  cases c with
  | tmp d =>
    simp only [condR, condK, arg]
    cases hv : getF fr d with
    | none => rfl
    | some v =>
      simp only [Option.bind_some]
      cases v with
      | bool b => cases b <;> simp only [asB, cond_true, cond_false, setF_self hv]
      | _ => rfl
  | _ => rfl
theorem vr_chan {ι : Emb} {k : Nat} {v : Value} (h : VR ι (.chan (some k)) v) : False := by cases h
theorem vr_mark {ι : Emb} {k : Nat} {cs : List Value} {v : Value} (h : VR ι (.agg ⟨.chan (some k) :: cs⟩) v) : False := by
  cases h with | agg _ c' h => cases h with | cons _ _ _ _ h _ => exact vr_chan h
theorem VR.dS_inv {ι : Emb} {z : Nat} {cs : List Value} {v : Value} (h : VR ι (dS z cs) v) : 0 < z ∧ (((∃ oa, v = .slice oa 0 0) ∧ cs = []) ∨ ∃ n cap r o, v = .slice (some ⟨r, o, none⟩) n cap ∧ cs.length = n * z ∧ n ≤ cap ∧ ∀ i d, cs[i]? = some d → ι.fz r (o + i) d) := by
  cases h with
  | iface _ _ _ h => exact (vr_mark h).elim
  | dSl _ _ n cap r o hz hl hc h => exact ⟨hz, .inr ⟨n, cap, r, o, rfl, hl, hc, h⟩⟩
  | dNil _ hz => exact ⟨hz, .inl ⟨⟨_, rfl⟩, rfl⟩⟩
  | dSe _ a hz => exact ⟨hz, .inl ⟨⟨_, rfl⟩, rfl⟩⟩
theorem VR.dP_inv {ι : Emb} {off : Nat} {cs : List Value} {v : Value} (h : VR ι (dP off cs) v) : ∃ r o, v = .pointer (some ⟨r, o + off, none⟩) ∧ ∀ i d, cs[i]? = some d → ι.fz r (o + i) d := by
  cases h with
  | iface _ _ _ h => exact (vr_mark h).elim
  | dPt _ _ r o h => exact ⟨r, o, rfl, h⟩
theorem VR.dB_inv {ι : Emb} {z b n : Nat} {v : Value} (h : VR ι (dB z b n) v) : 0 < z ∧ ((n = 0 ∧ ∃ oa, v = .slice oa 0 0 ∧ (oa = none ∨ ∃ a', oa = some a')) ∨ ∃ k' j, ι b = some j ∧ v = .slice (some ⟨j.blk, j.sh, none⟩) n k' ∧ n ≤ k' ∧ (k' - n) * z = j.ex) := by
  cases h with
  | iface _ _ _ h => exact (vr_mark h).elim
  | dBl _ _ _ k' j h hz hk hx => exact ⟨hz, .inr ⟨k', j, h, rfl, hk, hx⟩⟩
  | dBn _ _ hz => exact ⟨hz, .inl ⟨rfl, _, rfl, .inl rfl⟩⟩
  | dBe _ _ a' hz => exact ⟨hz, .inl ⟨rfl, _, rfl, .inr ⟨a', rfl⟩⟩⟩
theorem VR.dE_inv {ι : Emb} {z : Nat} {v : Value} (h : VR ι (dE z) v) : 0 < z ∧ ∃ oa, v = .slice oa 0 0 ∧ (oa = none ∨ ∃ a', oa = some a') := by
  cases h with
  | iface _ _ _ h => exact (vr_mark h).elim
  | dEn _ hz => exact ⟨hz, _, rfl, .inl rfl⟩
  | dEe _ a' hz => exact ⟨hz, _, rfl, .inr ⟨a', rfl⟩⟩
theorem deepC_some {α : Type} {v : Value} {s p : Nat → List Value → α} {b : Nat → Nat → Nat → α} {e : Nat → α} {z x : α} (h : deepC v s p b e z = x) :
    (∃ t cs, v = dS t cs ∧ s t cs = x) ∨ (∃ off cs, v = dP off cs ∧ p off cs = x) ∨ (∃ t q n, v = dB t q n ∧ b t q n = x) ∨ (∃ t, v = dE t ∧ e t = x) ∨ z = x := by
  cases v with
  | iface t u =>
    cases u with
    | agg a =>
      obtain ⟨l⟩ := a
      cases l with
      | nil => exact .inr (.inr (.inr (.inr h)))
      | cons m cs =>
        cases m with
        | chan o =>
          cases o with
          | none => exact .inr (.inr (.inr (.inr h)))
          | some q =>
            match q, h with
            | 0, h => exact .inl ⟨t, cs, rfl, h⟩
            | 1, h => exact .inr (.inl ⟨t, cs, rfl, h⟩)
            | 2, h =>
              cases cs with
              | nil => exact .inr (.inr (.inr (.inr h)))
              | cons y0 xs =>
                cases y0 with
                | chan ob =>
                  cases ob with
                  | none => exact .inr (.inr (.inr (.inr h)))
                  | some bb =>
                    cases xs with
                    | nil => exact .inr (.inr (.inr (.inr h)))
                    | cons y ys =>
                      cases y with
                      | chan on =>
                        cases on with
                        | none => exact .inr (.inr (.inr (.inr h)))
                        | some n =>
                          cases ys with
                          | nil => exact .inr (.inr (.inl ⟨t, bb, n, rfl, h⟩))
                          | cons _ _ => exact .inr (.inr (.inr (.inr h)))
                      | _ => exact .inr (.inr (.inr (.inr h)))
                | _ => exact .inr (.inr (.inr (.inr h)))
            | 3, h =>
              cases cs with
              | nil => exact .inr (.inr (.inr (.inl ⟨t, rfl, h⟩)))
              | cons _ _ => exact .inr (.inr (.inr (.inr h)))
            | q + 4, h => exact .inr (.inr (.inr (.inr h)))
        | _ => exact .inr (.inr (.inr (.inr h)))
    | _ => exact .inr (.inr (.inr (.inr h)))
  | _ => exact .inr (.inr (.inr (.inr h)))
theorem cellOk_some {v : Value} (h : cellOk v = true) : (∃ b, v = .bool b) ∨ (∃ k n, v = .int k n) ∨ (∃ s, v = .string s) ∨ ∃ t cs, v = dS t cs := by
  have deep : ∀ u, v = u → deepC u (fun _ _ => true) (fun _ _ => false) (fun _ _ _ => false) (fun _ => false) false = true → ∃ t cs, v = dS t cs := by
    intro u hu h
    subst hu
    rcases deepC_some h with ⟨t, cs, rfl, _⟩ | ⟨_, _, _, g⟩ | ⟨_, _, _, _, g⟩ | ⟨_, _, g⟩ | g
    · exact ⟨t, cs, rfl⟩
    all_goals cases g
  unfold cellOk at h
  cases v with
  | bool b => exact .inl ⟨b, rfl⟩
  | int k n => exact .inr (.inl ⟨k, n, rfl⟩)
  | string s => exact .inr (.inr (.inl ⟨s, rfl⟩))
  | _ => exact .inr (.inr (.inr (deep _ rfl h)))
theorem cellOk_one {v : Value} (h : cellOk v = true) : oneCell v = true := by
  rcases cellOk_some h with ⟨_, rfl⟩ | ⟨_, _, rfl⟩ | ⟨_, rfl⟩ | ⟨_, _, rfl⟩ <;> rfl
theorem VRs_all {ι : Emb} (p : Value → Bool) : ∀ (l : List Value), (∀ v ∈ l, p v = true → VR ι v v) → l.all p = true → VRs ι l l
  | [], _, _ => .nil
  | v :: l, h, hp => by
    simp at hp
    exact .cons _ _ _ _ (h v (by simp) hp.1) (VRs_all p l (fun u hu => h u (by simp [hu])) (by simpa using hp.2))
theorem cond_some {α : Type} {b : Bool} {x : Option α} {y : α} (h : cond b x none = some y) : b = true ∧ x = some y := by
  cases b
  · exact absurd h (by simp)
  · exact ⟨rfl, h⟩
theorem plainN_refl (ι : Emb) : ∀ (n : Nat) (v : Value), plainN n v = true → VR ι v v := by
  intro n
  induction n with
  | zero =>
    intro v h
    cases v with
    | bool b => exact .bool _
    | int k n => exact .int _ _
    | float k n => exact .float _ _
    | complex k n m => exact .complex _ _ _
    | string s => exact .string _
    | pointer a => cases a <;> simp [plainN] at h; exact .ptrNil
    | slice a l c => cases a <;> simp [plainN] at h; obtain ⟨rfl, rfl⟩ := h; exact .sliceNil
    | map a => cases a <;> simp [plainN] at h; exact .mapNil
    | chan a => cases a <;> simp [plainN] at h; exact .chanNil
    | nilFunc => exact .nilFunc
    | nilIface => exact .nilIface
    | _ => simp [plainN] at h
  | succ n ih =>
    intro v h
    cases v with
    | bool b => exact .bool _
    | int k n => exact .int _ _
    | float k n => exact .float _ _
    | complex k n m => exact .complex _ _ _
    | string s => exact .string _
    | pointer a => cases a <;> simp [plainN] at h; exact .ptrNil
    | slice a l c => cases a <;> simp [plainN] at h; obtain ⟨rfl, rfl⟩ := h; exact .sliceNil
    | map a => cases a <;> simp [plainN] at h; exact .mapNil
    | chan a => cases a <;> simp [plainN] at h; exact .chanNil
    | nilFunc => exact .nilFunc
    | nilIface => exact .nilIface
    | func fn f c =>
      obtain ⟨f⟩ := f; obtain ⟨c⟩ := c
      simp only [plainN, Bool.and_eq_true] at h
      exact .func _ _ _ _ _ (VRs_all _ _ (fun v _ => ih v) h.1) (VRs_all _ _ (fun v _ => ih v) h.2)
    | iface t v => exact .iface _ _ _ (ih _ h)
    | agg c => obtain ⟨c⟩ := c; exact .agg _ _ (VRs_all _ _ (fun v _ => ih v) h)
    | tuple c => obtain ⟨c⟩ := c; exact .tuple _ _ (VRs_all _ _ (fun v _ => ih v) h)
theorem plain_refl (ι : Emb) {v : Value} (h : plain v = true) : VR ι v v := plainN_refl ι _ v h
theorem VRs_plain_eq {ι : Emb} (p : Value → Bool) : ∀ {l l' : List Value}, VRs ι l l' → (∀ v ∈ l, ∀ v', p v = true → VR ι v v' → v' = v) → l.all p = true → l' = l
  | _, _, .nil, _, _ => rfl
  | _, _, .cons v v' l l' h hs, hp, ha => by
    simp at ha
    rw [hp v (by simp) v' ha.1 h, VRs_plain_eq p hs (fun u hu => hp u (by simp [hu])) (by simpa using ha.2)]
theorem chan_np : ∀ (n k : Nat), plainN n (.chan (some k)) = false := by
  intro n k; cases n <;> rfl
theorem mark_np : ∀ (n k : Nat) (cs : List Value), plainN n (.agg ⟨.chan (some k) :: cs⟩) = false := by
  intro n k cs; cases n
  · rfl
  · simp [plainN, chan_np]
theorem deep_np : ∀ (n t k : Nat) (cs : List Value), plainN n (.iface t (.agg ⟨.chan (some k) :: cs⟩)) = false := by
  intro n t k cs; cases n
  · rfl
  · simp only [plainN, mark_np]
theorem plainN_eq {ι : Emb} : ∀ (n : Nat) (v v' : Value), plainN n v = true → VR ι v v' → v' = v := by
  intro n
  induction n with
  | zero => intro v v' h hr; cases hr <;> simp_all [plainN]
  | succ n ih =>
    intro v v' h hr
    cases hr with
    | func fn f f' c c' hf hc =>
      simp only [plainN, Bool.and_eq_true] at h
      rw [VRs_plain_eq _ hf (fun v _ v' => ih v v') h.1, VRs_plain_eq _ hc (fun v _ v' => ih v v') h.2]
    | iface t v v' hr => simp only [plainN] at h; rw [ih _ _ h hr]
    | agg c c' hc => simp only [plainN] at h; rw [VRs_plain_eq _ hc (fun v _ v' => ih v v') h]
    | tuple c c' hc => simp only [plainN] at h; rw [VRs_plain_eq _ hc (fun v _ v' => ih v v') h]
    | dSl => rw [deep_np] at h; cases h
    | dNil => rw [deep_np] at h; cases h
    | dSe => rw [deep_np] at h; cases h
    | dPt => rw [deep_np] at h; cases h
    | dBl => rw [deep_np] at h; cases h
    | dBn => rw [deep_np] at h; cases h
    | dBe => rw [deep_np] at h; cases h
    | dEn => rw [deep_np] at h; cases h
    | dEe => rw [deep_np] at h; cases h
    | _ => first | rfl | simp_all [plainN]
theorem plain_eq {ι : Emb} {v v' : Value} (h : plain v = true) (hr : VR ι v v') : v' = v := plainN_eq _ _ _ h hr
theorem plains_eq {ι : Emb} {l l' : List Value} (hr : VRs ι l l') (h : l.all plain = true) : l' = l :=
  VRs_plain_eq plain hr (fun _ _ _ => plain_eq) h
theorem plains_refl (ι : Emb) {l : List Value} (h : l.all plain = true) : VRs ι l l := VRs_all plain l (fun _ _ => plain_refl ι) h
theorem solid_of {ι : Emb} {v v' : Value} (h : VR ι v v') : solid v' = solid v := by cases h <;> rfl
theorem oneCell_of {ι : Emb} {v v' : Value} (h : VR ι v v') : v'.oneCell' = oneCell v := by cases h <;> rfl
theorem cells_of {ι : Emb} {v v' : Value} (h : VR ι v v') : VRs ι (cellsOf v) v'.cells.toList := by
  have h0 := h
  cases h <;> first
    | exact .cons _ _ _ _ h0 .nil
    | (rename_i h; exact h)
theorem cells_len {ι : Emb} {v v' : Value} (h : VR ι v v') : v'.cells.size = (cellsOf v).length := by
  have := (cells_of h).length
  simpa using this
theorem oneCells_of {ι : Emb} {l l' : List Value} (h : VRs ι l l') (ho : l.all oneCell = true) : ∀ v ∈ l', v.oneCell' = true := by
  intro v' hv'
  obtain ⟨v, hv, hr⟩ := h.mem v' hv'
  rw [oneCell_of hr]
  exact List.all_eq_true.1 ho v hv
section
variable {α : Type}
@[simp] theorem getL_eq (l : List α) : ∀ n, getL l n = l[n]? := by
  induction l with
  | nil => intro n; rfl
  | cons x xs ih => intro n; cases n with
    | zero => rfl
    | succ n => exact ih n
@[simp] theorem dropL_eq (l : List α) : ∀ n, dropL l n = l.drop n := by
  induction l with
  | nil => intro n; simp; rfl
  | cons x xs ih => intro n; cases n with
    | zero => rfl
    | succ n => exact ih n
theorem takeL_eq (l : List α) : ∀ n, takeL l n = if n ≤ l.length then some (l.take n) else none := by
  induction l with
  | nil => intro n; cases n with
    | zero => rfl
    | succ n => rfl
  | cons x xs ih => intro n; cases n with
    | zero => rfl
    | succ n =>
      show (takeL xs n).bind (fun l => some (x :: l)) = _
      rw [ih n]
      by_cases h : n ≤ xs.length <;> simp [h]
end
theorem getF_eq (fr : Frame) : ∀ n, getF fr n = (fr[n]?).bind id := by
  induction fr with
  | nil => intro n; rfl
  | cons x xs ih => intro n; cases n with
    | zero => simp; rfl
    | succ n => show getF xs n = _; rw [ih n]; simp
theorem setF_eq (fr : Frame) : ∀ n v, setF fr n v = fr.set n v := by
  induction fr with
  | nil => intro n v; rfl
  | cons x xs ih => intro n v; cases n with
    | zero => rfl
    | succ n => simp [← ih n v]; rfl
theorem setN_some : ∀ (c vs : List Value) (o : Nat) (c2 : List Value), setN c vs o = some c2 → o + vs.length ≤ c.length ∧ c2 = c.take o ++ vs ++ c.drop (o + vs.length) := by
  intro c
  induction c with
  | nil =>
    intro vs o c2 h
    cases vs with
    | nil => cases o with
      | zero => have : some [] = some c2 := h; simp at this; subst this; simp
      | succ o => exact absurd (show none = some c2 from h) (by simp)
    | cons v vs => exact absurd (show none = some c2 from h) (by simp)
  | cons x xs ih =>
    intro vs o c2 h
    cases o with
    | zero =>
      cases vs with
      | nil => have : some (x :: xs) = some c2 := h; simp at this; subst this; simp
      | cons v vs =>
        have h' : (setN xs vs 0).bind (fun l => some (v :: l)) = some c2 := h
        obtain ⟨l, hl, he⟩ := Option.bind_eq_some_iff.1 h'
        obtain ⟨h1, h2⟩ := ih vs 0 l hl
        simp at he h1 h2
        subst he h2
        simp; omega
    | succ o =>
      have h' : (setN xs vs o).bind (fun l => some (x :: l)) = some c2 := h
      obtain ⟨l, hl, he⟩ := Option.bind_eq_some_iff.1 h'
      obtain ⟨h1, h2⟩ := ih vs o l hl
      simp at he
      subst he h2
      refine ⟨by simp; omega, ?_⟩
      rw [show o + 1 + vs.length = (o + vs.length) + 1 by omega]
      simp
theorem args_some {fr : Frame} : ∀ {xs : List Operand} {vs : List Value}, args fr xs = some vs → vs.length = xs.length ∧ ∀ (i : Nat) (x : Operand), xs[i]? = some x → ∃ v, vs[i]? = some v ∧ arg fr x = some v := by
  intro xs
  induction xs with
  | nil => intro vs h; have : some [] = some vs := h; simp at this; subst this; simp
  | cons x xs ih =>
    intro vs h
    have h' : (arg fr x).bind (fun v => (args fr xs).bind fun vs => some (v :: vs)) = some vs := h
    obtain ⟨v, hv, h'⟩ := Option.bind_eq_some_iff.1 h'
    obtain ⟨us, hus, h'⟩ := Option.bind_eq_some_iff.1 h'
    simp at h'
    subst h'
    obtain ⟨h1, h2⟩ := ih hus
    refine ⟨by simp [h1], fun i y hy => ?_⟩
    cases i with
    | zero => simp at hy; subst hy; exact ⟨v, by simp, hv⟩
    | succ i => simp at hy; obtain ⟨u, h3, h4⟩ := h2 i y hy; exact ⟨u, by simpa using h3, h4⟩
structure Info (P : Program) (t : TypeId) (i : TI) : Prop where
  und : P.underlying t = some i.d
  agg : i.agg = aggP P t
  kd : i.kd = kindsN P 8 t
  len : i.zero.length = i.size
  plain : i.zero.all Go.Proofs.Yteljeekapcenlaa.Ev.plain = true ∨ True
  eqs : i.eqs = (decide (flatEqN P 8 t = some i.size) && !P.eqGuardType P.depth t)
  info : ∃ inf z, P.info? t = some inf ∧ inf.size = i.size ∧ inf.bytes = i.bytes ∧ inf.zero = some z ∧ Go.Proofs.Yteljeekapcenlaa.Ev.plain z = true ∧ solid z = true ∧ cellsOf z = i.zero ∧ (i.agg = true → ∃ c, z = .agg c) ∧ (i.agg = false → oneCell z = true)
theorem Fits.get {P : Program} {T : Ty} (hT : Fits P T) {t : TypeId} {i : TI} (h : T.get t = some i) : Info P t i := by
  have h1 := hT t i h
  unfold tiOf at h1
  obtain ⟨inf, hinf, h1⟩ := Option.bind_eq_some_iff.1 h1
  obtain ⟨d, hd, h1⟩ := Option.bind_eq_some_iff.1 h1
  obtain ⟨z, hz, h1⟩ := Option.bind_eq_some_iff.1 h1
  obtain ⟨hc, h1⟩ := cond_some h1
  simp only [Option.some.injEq] at h1
  subst h1
  simp only [Bool.and_eq_true] at hc
  obtain ⟨⟨⟨c1, c2⟩, c3⟩, c4⟩ := hc
  refine ⟨hd, rfl, rfl, Nat.eq_of_beq_eq_true c3, .inr trivial, rfl, inf, z, hinf, rfl, rfl, hz, c1, c2, ?_, ?_, ?_⟩
  · cases z <;> rfl
  · intro ha
    have ha' : aggP P t = true := ha
    cases z <;> first | exact ⟨_, rfl⟩ | (simp [ha'] at c4)
  · intro ha
    have ha' : aggP P t = false := ha
    cases z <;> first | rfl | (simp [ha'] at c4; done) | (simp [solid] at c2)
theorem Fits.und {P : Program} {T : Ty} (hT : Fits P T) {t : TypeId} {d : TypeDesc} (h : T.und t = some d) : P.underlying t = some d := by
  unfold Ty.und at h
  cases hg : T.get t with
  | none => rw [hg] at h; simp at h
  | some i => rw [hg] at h; simp at h; rw [(hT.get hg).und, h]
end Go.Proofs.Yteljeekapcenlaa.Ev
