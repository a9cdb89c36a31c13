/-
  Ev, part Gd: an answer of the evaluator is an answer of what comes behind: related endings, related answers. No conditions.
-/
import Derived.Test.YteljeekapcenlaaEvGc
namespace Go.Proofs.Yteljeekapcenlaa.Ev
open Go
set_option linter.unusedVariables false
set_option linter.unusedSimpArgs false
def Rl (S : (Value × AH) → Res → Prop) (x x' : Res) : Prop := ∀ r, x = some r → S r x'
section
variable {S : (Value × AH) → Res → Prop}
theorem Rl.none {x' : Res} : Rl S none x' := by intro r h; cases h
theorem Rl.cond {b : Bool} {x x' y y' : Res} (h1 : Rl S x x') (h2 : Rl S y y') : Rl S (cond b x y) (cond b x' y') := by cases b <;> assumption
theorem Rl.bind {β : Type} {o : Option β} {f f' : β → Res} (h : ∀ b, Rl S (f b) (f' b)) : Rl S (o.bind f) (o.bind f') := by
  cases o with
  | none => exact Rl.none
  | some b => exact h b
theorem Rl.bnd {β : Type} {o : Option β} {f f' : β → Res} (h : ∀ b, Rl S (f b) (f' b)) : Rl S (bnd o f) (bnd o f') := by
  cases o with
  | none => exact Rl.none
  | some b => exact h b
structure SpecRl (E : Env) : Prop where
  v : ∀ g s, E.pol.spec g = some s → ∀ (S : (Value × AH) → Res → Prop) vs k k', (∀ v, Rl S (k v) (k' v)) → Rl S (s vs k) (s vs k')
  m : ∀ g s, E.pol.specM g = some s → ∀ (S : (Value × AH) → Res → Prop) vs H k k', (∀ v H, Rl S (k v H) (k' v H)) → Rl S (s vs H k) (s vs H k')
theorem rl_deepC {v : Value} {s s' p p' : Nat → List Value → Res} {b b' : Nat → Nat → Nat → Res} {e e' : Nat → Res} {z z' : Res} (hs : ∀ t c, Rl S (s t c) (s' t c)) (hp : ∀ t c, Rl S (p t c) (p' t c)) (hb : ∀ t c d, Rl S (b t c d) (b' t c d)) (he : ∀ t, Rl S (e t) (e' t)) (hz : Rl S z z') : Rl S (deepC v s p b e z) (deepC v s' p' b' e' z') := by
  unfold deepC
  repeat' (first | exact hs _ _ | exact hp _ _ | exact hb _ _ _ | exact he _ | exact hz | split)
theorem rl_destr {kd : Kd} {v : Value} {k k' : Value → Res} (hk : ∀ a, Rl S (k a) (k' a)) : Rl S (kd.destr v k) (kd.destr v k') := by
  cases kd <;> simp only [Kd.destr] <;> repeat' (first | exact hk _ | exact Rl.none | refine Rl.cond ?_ ?_ | split)
theorem rl_destrL {ks : List Kd} : ∀ {vs : List Value} {k k' : List Value → Res}, (∀ a, Rl S (k a) (k' a)) → Rl S (destrL ks vs k) (destrL ks vs k') := by
  induction ks with
  | nil => intro vs k k' hk; cases vs with
    | nil => exact hk _
    | cons => exact Rl.none
  | cons kd ks ih => intro vs k k' hk; cases vs with
    | nil => exact Rl.none
    | cons v vs => exact rl_destr (fun v => ih (fun l => hk _))
set_option maxHeartbeats 8000000 in
theorem rl_asB {v : Value} {k k' : Bool → Res} (hk : ∀ a0, Rl S (k a0) (k' a0)) : Rl S (asB v k) (asB v k') := by
  unfold asB
  repeat' (first | exact hk _ | exact Rl.none | with_reducible refine Rl.cond ?_ ?_ | with_reducible refine Rl.bind fun _ => ?_ | with_reducible refine Rl.bnd fun _ => ?_ | with_reducible refine rl_asPtr (fun _ => ?_) | split | dsimp only)
set_option maxHeartbeats 8000000 in
theorem rl_asPtr {v : Value} {k k' : Addr → Res} (hk : ∀ a0, Rl S (k a0) (k' a0)) : Rl S (asPtr v k) (asPtr v k') := by
  unfold asPtr
  repeat' (first | exact hk _ | exact Rl.none | with_reducible refine Rl.cond ?_ ?_ | with_reducible refine Rl.bind fun _ => ?_ | with_reducible refine Rl.bnd fun _ => ?_ | split | dsimp only)
set_option maxHeartbeats 8000000 in
theorem rl_asI {v : Value} {k k' : IntKind → Int → Res} (hk : ∀ a0 a1, Rl S (k a0 a1) (k' a0 a1)) : Rl S (asI v k) (asI v k') := by
  unfold asI
  repeat' (first | exact hk _ _ | exact Rl.none | with_reducible refine Rl.cond ?_ ?_ | with_reducible refine Rl.bind fun _ => ?_ | with_reducible refine Rl.bnd fun _ => ?_ | split | dsimp only)
set_option maxHeartbeats 8000000 in
theorem rl_loadN {H : AH} {a : Addr} {n : Nat} {k k' : List Value → Res} (hk : ∀ a0, Rl S (k a0) (k' a0)) : Rl S (loadN H a n k) (loadN H a n k') := by
  unfold loadN
  repeat' (first | exact hk _ | exact Rl.none | with_reducible refine Rl.cond ?_ ?_ | with_reducible refine Rl.bind fun _ => ?_ | with_reducible refine Rl.bnd fun _ => ?_ | split | dsimp only)
set_option maxHeartbeats 8000000 in
theorem rl_load1 {H : AH} {a : Addr} {k k' : Value → Res} (hk : ∀ a0, Rl S (k a0) (k' a0)) : Rl S (load1 H a k) (load1 H a k') := by
  unfold load1
  repeat' (first | exact hk _ | exact Rl.none | with_reducible refine Rl.cond ?_ ?_ | with_reducible refine Rl.bind fun _ => ?_ | with_reducible refine Rl.bnd fun _ => ?_ | split | dsimp only)
set_option maxHeartbeats 8000000 in
theorem rl_storeN {H : AH} {a : Addr} {vs : List Value} {k k' : AH → Res} (hk : ∀ a0, Rl S (k a0) (k' a0)) : Rl S (storeN H a vs k) (storeN H a vs k') := by
  unfold storeN
  repeat' (first | exact hk _ | exact Rl.none | with_reducible refine Rl.cond ?_ ?_ | with_reducible refine Rl.bind fun _ => ?_ | with_reducible refine Rl.bnd fun _ => ?_ | split | dsimp only)
set_option maxHeartbeats 8000000 in
theorem rl_zeroOf {T : Ty} {t : TypeId} {k k' : List Value → Res} (hk : ∀ a0, Rl S (k a0) (k' a0)) : Rl S (zeroOf T t k) (zeroOf T t k') := by
  unfold zeroOf
  repeat' (first | exact hk _ | exact Rl.none | with_reducible refine Rl.cond ?_ ?_ | with_reducible refine Rl.bind fun _ => ?_ | with_reducible refine Rl.bnd fun _ => ?_ | split | dsimp only)
set_option maxHeartbeats 8000000 in
theorem rl_sizeT {T : Ty} {t : TypeId} {k k' : Nat → Res} (hk : ∀ a0, Rl S (k a0) (k' a0)) : Rl S (sizeT T t k) (sizeT T t k') := by
  unfold sizeT
  repeat' (first | exact hk _ | exact Rl.none | with_reducible refine Rl.cond ?_ ?_ | with_reducible refine Rl.bind fun _ => ?_ | with_reducible refine Rl.bnd fun _ => ?_ | split | dsimp only)
theorem rl_pickL {l : List Value} {i : Nat} {k k' : Value → Res} (hk : ∀ a, Rl S (k a) (k' a)) : ∀ {j : Nat}, Rl S (pickL l i k j) (pickL l i k' j) := by
  induction l with
  | nil => intro j; exact Rl.none
  | cons x xs ih => intro j; exact Rl.cond (hk _) ih
set_option maxHeartbeats 8000000 in
theorem rl_destrV {T : Ty} {t : TypeId} {v : Value} {k k' : Value → Res} (hk : ∀ a0, Rl S (k a0) (k' a0)) : Rl S (destrV T t v k) (destrV T t v k') := by
  unfold destrV
  repeat' (first | exact hk _ | exact Rl.none | with_reducible refine Rl.cond ?_ ?_ | with_reducible refine Rl.bind fun _ => ?_ | with_reducible refine Rl.bnd fun _ => ?_ | with_reducible refine rl_destrL (fun _ => ?_) | with_reducible refine rl_destr (fun _ => ?_) | split | dsimp only)
theorem rl_destrT {T : Ty} {ts : List TypeId} : ∀ {vs : List Value} {k k' : List Value → Res}, (∀ a, Rl S (k a) (k' a)) → Rl S (destrT T ts vs k) (destrT T ts vs k') := by
  induction ts with
  | nil => intro vs k k' hk; cases vs with
    | nil => exact hk _
    | cons => exact Rl.none
  | cons t ts ih => intro vs k k' hk; cases vs with
    | nil => exact Rl.none
    | cons v vs => exact rl_destrV (fun v => ih (fun l => hk _))
set_option maxHeartbeats 8000000 in
theorem rl_destrRes {T : Ty} {ts : List TypeId} {v : Value} {k k' : Value → Res} (hk : ∀ a0, Rl S (k a0) (k' a0)) : Rl S (destrRes T ts v k) (destrRes T ts v k') := by
  unfold destrRes
  repeat' (first | exact hk _ | exact Rl.none | with_reducible refine Rl.cond ?_ ?_ | with_reducible refine Rl.bind fun _ => ?_ | with_reducible refine Rl.bnd fun _ => ?_ | with_reducible refine rl_destrV (fun _ => ?_) | with_reducible refine rl_destrT (fun _ => ?_) | split | dsimp only)
set_option maxHeartbeats 8000000 in
theorem rl_binInt {op : BinOp} {k : IntKind} {x : Int} {y : Int} {c c' : Value → Res} (hc : ∀ a0, Rl S (c a0) (c' a0)) : Rl S (binInt op k x y c) (binInt op k x y c') := by
  unfold binInt
  repeat' (first | exact hc _ | exact Rl.none | with_reducible refine Rl.cond ?_ ?_ | with_reducible refine Rl.bind fun _ => ?_ | with_reducible refine Rl.bnd fun _ => ?_ | split | dsimp only)
set_option maxHeartbeats 8000000 in
theorem rl_shiftInt {op : BinOp} {k : IntKind} {x : Int} {y : Int} {c c' : Value → Res} (hc : ∀ a0, Rl S (c a0) (c' a0)) : Rl S (shiftInt op k x y c) (shiftInt op k x y c') := by
  unfold shiftInt
  repeat' (first | exact hc _ | exact Rl.none | with_reducible refine Rl.cond ?_ ?_ | with_reducible refine Rl.bind fun _ => ?_ | with_reducible refine Rl.bnd fun _ => ?_ | split | dsimp only)
set_option maxHeartbeats 8000000 in
theorem rl_binStr {op : BinOp} {x : ByteArray} {y : ByteArray} {c c' : Value → Res} (hc : ∀ a0, Rl S (c a0) (c' a0)) : Rl S (binStr op x y c) (binStr op x y c') := by
  unfold binStr
  repeat' (first | exact hc _ | exact Rl.none | with_reducible refine Rl.cond ?_ ?_ | with_reducible refine Rl.bind fun _ => ?_ | with_reducible refine Rl.bnd fun _ => ?_ | split | dsimp only)
set_option maxHeartbeats 8000000 in
theorem rl_eqCell {kd : Kd} {x : Value} {y : Value} {c c' : Bool → Res} (hc : ∀ a0, Rl S (c a0) (c' a0)) : Rl S (eqCell kd x y c) (eqCell kd x y c') := by
  unfold eqCell
  repeat' (first | exact hc _ | exact Rl.none | with_reducible refine Rl.cond ?_ ?_ | with_reducible refine Rl.bind fun _ => ?_ | with_reducible refine Rl.bnd fun _ => ?_ | split | dsimp only)
theorem rl_eqCells {ks : List Kd} : ∀ {xs ys : List Value} {k k' : Bool → Res}, (∀ a, Rl S (k a) (k' a)) → Rl S (eqCells ks xs ys k) (eqCells ks xs ys k') := by
  induction ks with
  | nil => intro xs ys k k' hk; cases xs with
    | nil => cases ys with
      | nil => exact hk _
      | cons => exact Rl.none
    | cons => exact Rl.none
  | cons kd ks ih => intro xs ys k k' hk; cases xs with
    | nil => exact Rl.none
    | cons x xs => cases ys with
      | nil => exact Rl.none
      | cons y ys => exact rl_eqCell (fun v => ih (fun l => hk _))
set_option maxHeartbeats 8000000 in
theorem rl_eqV {T : Ty} {t : TypeId} {x : Value} {y : Value} {c c' : Bool → Res} (hc : ∀ a0, Rl S (c a0) (c' a0)) : Rl S (eqV T t x y c) (eqV T t x y c') := by
  unfold eqV
  repeat' (first | exact hc _ | exact Rl.none | with_reducible refine Rl.cond ?_ ?_ | with_reducible refine Rl.bind fun _ => ?_ | with_reducible refine Rl.bnd fun _ => ?_ | with_reducible refine rl_eqCells (fun _ => ?_) | split | dsimp only)
set_option maxHeartbeats 8000000 in
theorem rl_opEq {T : Ty} {op : BinOp} {t : TypeId} {x : Value} {y : Value} {c c' : Value → Res} (hc : ∀ a0, Rl S (c a0) (c' a0)) : Rl S (opEq T op t x y c) (opEq T op t x y c') := by
  unfold opEq
  repeat' (first | exact hc _ | exact Rl.none | with_reducible refine Rl.cond ?_ ?_ | with_reducible refine Rl.bind fun _ => ?_ | with_reducible refine Rl.bnd fun _ => ?_ | with_reducible refine rl_eqV (fun _ => ?_) | split | dsimp only)
set_option maxHeartbeats 8000000 in
theorem rl_opBin {T : Ty} {op : BinOp} {t : TypeId} {x : Value} {y : Value} {c c' : Value → Res} (hc : ∀ a0, Rl S (c a0) (c' a0)) : Rl S (opBin T op t x y c) (opBin T op t x y c') := by
  unfold opBin
  repeat' (first | exact hc _ | exact Rl.none | with_reducible refine Rl.cond ?_ ?_ | with_reducible refine Rl.bind fun _ => ?_ | with_reducible refine Rl.bnd fun _ => ?_ | with_reducible refine rl_binInt (fun _ => ?_) | with_reducible refine rl_shiftInt (fun _ => ?_) | with_reducible refine rl_binStr (fun _ => ?_) | with_reducible refine rl_opEq (fun _ => ?_) | split | dsimp only)
set_option maxHeartbeats 8000000 in
theorem rl_opUn {op : UnOp} {x : Value} {c c' : Value → Res} (hc : ∀ a0, Rl S (c a0) (c' a0)) : Rl S (opUn op x c) (opUn op x c') := by
  unfold opUn
  repeat' (first | exact hc _ | exact Rl.none | with_reducible refine Rl.cond ?_ ?_ | with_reducible refine Rl.bind fun _ => ?_ | with_reducible refine Rl.bnd fun _ => ?_ | split | dsimp only)
set_option maxHeartbeats 8000000 in
theorem rl_boundK {fr : Frame} {x : Option Operand} {dflt : Nat} {most : Nat} {k k' : Nat → Res} (hk : ∀ a0, Rl S (k a0) (k' a0)) : Rl S (boundK fr x dflt most k) (boundK fr x dflt most k') := by
  unfold boundK
  repeat' (first | exact hk _ | exact Rl.none | with_reducible refine Rl.cond ?_ ?_ | with_reducible refine Rl.bind fun _ => ?_ | with_reducible refine Rl.bnd fun _ => ?_ | with_reducible refine rl_asI (fun _ _ => ?_) | split | dsimp only)
set_option maxHeartbeats 8000000 in
theorem rl_boundsK {fr : Frame} {len : Nat} {cap : Nat} {lo : Option Operand} {hi : Option Operand} {mx : Option Operand} {k k' : Nat → Nat → Nat → Res} (hk : ∀ a0 a1 a2, Rl S (k a0 a1 a2) (k' a0 a1 a2)) : Rl S (boundsK fr len cap lo hi mx k) (boundsK fr len cap lo hi mx k') := by
  unfold boundsK
  repeat' (first | exact hk _ _ _ | exact Rl.none | with_reducible refine Rl.cond ?_ ?_ | with_reducible refine Rl.bind fun _ => ?_ | with_reducible refine Rl.bnd fun _ => ?_ | with_reducible refine rl_boundK (fun _ => ?_) | split | dsimp only)
set_option maxHeartbeats 8000000 in
theorem rl_opSlice {T : Ty} {fr : Frame} {t : TypeId} {x : Value} {lo : Option Operand} {hi : Option Operand} {mx : Option Operand} {k k' : Value → Res} (hk : ∀ a0, Rl S (k a0) (k' a0)) : Rl S (opSlice T fr t x lo hi mx k) (opSlice T fr t x lo hi mx k') := by
  unfold opSlice
  repeat' (first | exact hk _ | exact Rl.none | with_reducible refine Rl.cond ?_ ?_ | with_reducible refine Rl.bind fun _ => ?_ | with_reducible refine Rl.bnd fun _ => ?_ | with_reducible refine rl_asPtr (fun _ => ?_) | with_reducible refine rl_sizeT (fun _ => ?_) | with_reducible refine rl_boundsK (fun _ _ _ => ?_) | split | dsimp only)
set_option maxHeartbeats 8000000 in
theorem rl_opFieldAddr {T : Ty} {t : TypeId} {x : Value} {f : Nat} {k k' : Value → Res} (hk : ∀ a0, Rl S (k a0) (k' a0)) : Rl S (opFieldAddr T t x f k) (opFieldAddr T t x f k') := by
  unfold opFieldAddr
  repeat' (first | exact hk _ | exact Rl.none | with_reducible refine Rl.cond ?_ ?_ | with_reducible refine Rl.bind fun _ => ?_ | with_reducible refine Rl.bnd fun _ => ?_ | with_reducible refine rl_sizeT (fun _ => ?_) | split | dsimp only)
set_option maxHeartbeats 8000000 in
theorem rl_partK {T : Ty} {t : TypeId} {cs : List Value} {off : Nat} {k k' : Value → Res} (hk : ∀ a0, Rl S (k a0) (k' a0)) : Rl S (partK T t cs off k) (partK T t cs off k') := by
  unfold partK
  repeat' (first | exact hk _ | exact Rl.none | with_reducible refine Rl.cond ?_ ?_ | with_reducible refine Rl.bind fun _ => ?_ | with_reducible refine Rl.bnd fun _ => ?_ | with_reducible refine rl_sizeT (fun _ => ?_) | with_reducible refine rl_pickL (fun _ => ?_) | split | dsimp only)
set_option maxHeartbeats 8000000 in
theorem rl_opField {T : Ty} {t : TypeId} {x : Value} {f : Nat} {k k' : Value → Res} (hk : ∀ a0, Rl S (k a0) (k' a0)) : Rl S (opField T t x f k) (opField T t x f k') := by
  unfold opField
  repeat' (first | exact hk _ | exact Rl.none | with_reducible refine Rl.cond ?_ ?_ | with_reducible refine Rl.bind fun _ => ?_ | with_reducible refine Rl.bnd fun _ => ?_ | with_reducible refine rl_partK (fun _ => ?_) | split | dsimp only)
set_option maxHeartbeats 8000000 in
theorem rl_opIndexAddr {T : Ty} {t : TypeId} {x : Value} {ix : Value} {k k' : Value → Res} (hk : ∀ a0, Rl S (k a0) (k' a0)) : Rl S (opIndexAddr T t x ix k) (opIndexAddr T t x ix k') := by
  unfold opIndexAddr
  repeat' (first | exact hk _ | exact Rl.none | with_reducible refine Rl.cond ?_ ?_ | with_reducible refine Rl.bind fun _ => ?_ | with_reducible refine Rl.bnd fun _ => ?_ | with_reducible refine rl_asI (fun _ _ => ?_) | with_reducible refine rl_sizeT (fun _ => ?_) | split | dsimp only)
set_option maxHeartbeats 8000000 in
theorem rl_opIndex {T : Ty} {t : TypeId} {x : Value} {ix : Value} {k k' : Value → Res} (hk : ∀ a0, Rl S (k a0) (k' a0)) : Rl S (opIndex T t x ix k) (opIndex T t x ix k') := by
  unfold opIndex
  repeat' (first | exact hk _ | exact Rl.none | with_reducible refine Rl.cond ?_ ?_ | with_reducible refine Rl.bind fun _ => ?_ | with_reducible refine Rl.bnd fun _ => ?_ | with_reducible refine rl_asI (fun _ _ => ?_) | with_reducible refine rl_sizeT (fun _ => ?_) | with_reducible refine rl_partK (fun _ => ?_) | split | dsimp only)
set_option maxHeartbeats 8000000 in
theorem rl_opBuild {T : Ty} {t : TypeId} {ps : List (Nat × Value)} {k k' : Value → Res} (hk : ∀ a0, Rl S (k a0) (k' a0)) : Rl S (opBuild T t ps k) (opBuild T t ps k') := by
  unfold opBuild
  repeat' (first | exact hk _ | exact Rl.none | with_reducible refine Rl.cond ?_ ?_ | with_reducible refine Rl.bind fun _ => ?_ | with_reducible refine Rl.bnd fun _ => ?_ | with_reducible refine rl_zeroOf (fun _ => ?_) | split | dsimp only)
set_option maxHeartbeats 8000000 in
theorem rl_opConvert {T : Ty} {src : TypeId} {dst : TypeId} {x : Value} {H : AH} {k k' : K} (hk : ∀ a0 a1, Rl S (k a0 a1) (k' a0 a1)) : Rl S (opConvert T src dst x H k) (opConvert T src dst x H k') := by
  unfold opConvert
  repeat' (first | exact hk _ _ | exact Rl.none | with_reducible refine Rl.cond ?_ ?_ | with_reducible refine Rl.bind fun _ => ?_ | with_reducible refine Rl.bnd fun _ => ?_ | with_reducible refine rl_loadN (fun _ => ?_) | split | dsimp only)
set_option maxHeartbeats 8000000 in
theorem rl_entriesK {T : Ty} {t : TypeId} {H : AH} {x : Value} {key : Value} {k k' : Nat → List (Value × Value) → Res} (hk : ∀ a0 a1, Rl S (k a0 a1) (k' a0 a1)) : Rl S (entriesK T t H x key k) (entriesK T t H x key k') := by
  unfold entriesK
  repeat' (first | exact hk _ _ | exact Rl.none | with_reducible refine Rl.cond ?_ ?_ | with_reducible refine Rl.bind fun _ => ?_ | with_reducible refine Rl.bnd fun _ => ?_ | split | dsimp only)
theorem rl_findK {ks : List Kd} {key : Value} {es : List (Value × Value)} : ∀ {k k' : Option Value → Res}, (∀ a, Rl S (k a) (k' a)) → Rl S (findK ks key es k) (findK ks key es k') := by
  induction es with
  | nil => intro k k' hk; exact hk _
  | cons e es ih => intro k k' hk; exact rl_eqCells (fun b => Rl.cond (hk _) (ih hk))
theorem rl_updK {ks : List Kd} {key v : Value} {es : List (Value × Value)} : ∀ {k k' : List (Value × Value) → Res}, (∀ a, Rl S (k a) (k' a)) → Rl S (updK ks key v es k) (updK ks key v es k') := by
  induction es with
  | nil => intro k k' hk; exact hk _
  | cons e es ih => intro k k' hk; exact rl_eqCells (fun b => Rl.cond (hk _) (ih (fun l => hk _)))
set_option maxHeartbeats 8000000 in
theorem rl_opLookup {T : Ty} {t : TypeId} {x : Value} {key : Value} {commaOk : Bool} {H : AH} {k k' : Value → Res} (hk : ∀ a0, Rl S (k a0) (k' a0)) : Rl S (opLookup T t x key commaOk H k) (opLookup T t x key commaOk H k') := by
  unfold opLookup
  repeat' (first | exact hk _ | exact Rl.none | with_reducible refine Rl.cond ?_ ?_ | with_reducible refine Rl.bind fun _ => ?_ | with_reducible refine Rl.bnd fun _ => ?_ | with_reducible refine rl_zeroOf (fun _ => ?_) | with_reducible refine rl_entriesK (fun _ _ => ?_) | with_reducible refine rl_findK (fun _ => ?_) | split | dsimp only)
set_option maxHeartbeats 8000000 in
theorem rl_opUpdate {T : Ty} {t : TypeId} {m : Value} {key : Value} {v : Value} {H : AH} {k k' : AH → Res} (hk : ∀ a0, Rl S (k a0) (k' a0)) : Rl S (opUpdate T t m key v H k) (opUpdate T t m key v H k') := by
  unfold opUpdate
  repeat' (first | exact hk _ | exact Rl.none | with_reducible refine Rl.cond ?_ ?_ | with_reducible refine Rl.bind fun _ => ?_ | with_reducible refine Rl.bnd fun _ => ?_ | with_reducible refine rl_entriesK (fun _ _ => ?_) | with_reducible refine rl_updK (fun _ => ?_) | split | dsimp only)
set_option maxHeartbeats 8000000 in
theorem rl_firstK {H : AH} {s : Nat} {n : Nat} {x : Value} {k k' : List Value → Res} (hk : ∀ a0, Rl S (k a0) (k' a0)) : Rl S (firstK H s n x k) (firstK H s n x k') := by
  unfold firstK
  repeat' (first | exact hk _ | exact Rl.none | with_reducible refine Rl.cond ?_ ?_ | with_reducible refine Rl.bind fun _ => ?_ | with_reducible refine Rl.bnd fun _ => ?_ | with_reducible refine rl_loadN (fun _ => ?_) | split | dsimp only)
set_option maxHeartbeats 8000000 in
theorem rl_lenK {x : Value} {k k' : Nat → Res} (hk : ∀ a0, Rl S (k a0) (k' a0)) : Rl S (lenK x k) (lenK x k') := by
  unfold lenK
  repeat' (first | exact hk _ | exact Rl.none | with_reducible refine Rl.cond ?_ ?_ | with_reducible refine Rl.bind fun _ => ?_ | with_reducible refine Rl.bnd fun _ => ?_ | split | dsimp only)
set_option maxHeartbeats 8000000 in
theorem rl_appendTo {i : TI} {a : Addr} {len : Nat} {cap : Nat} {n : Nat} {new : List Value} {H : AH} {k k' : K} (hk : ∀ a0 a1, Rl S (k a0 a1) (k' a0 a1)) : Rl S (appendTo i a len cap n new H k) (appendTo i a len cap n new H k') := by
  unfold appendTo
  repeat' (first | exact hk _ _ | exact Rl.none | with_reducible refine Rl.cond ?_ ?_ | with_reducible refine Rl.bind fun _ => ?_ | with_reducible refine Rl.bnd fun _ => ?_ | with_reducible refine rl_loadN (fun _ => ?_) | with_reducible refine rl_storeN (fun _ => ?_) | split | dsimp only)
set_option maxHeartbeats 8000000 in
theorem rl_appendNil {i : TI} {n : Nat} {new : List Value} {H : AH} {k k' : K} (hk : ∀ a0 a1, Rl S (k a0 a1) (k' a0 a1)) : Rl S (appendNil i n new H k) (appendNil i n new H k') := by
  unfold appendNil
  repeat' (first | exact hk _ _ | exact Rl.none | with_reducible refine Rl.cond ?_ ?_ | with_reducible refine Rl.bind fun _ => ?_ | with_reducible refine Rl.bnd fun _ => ?_ | split | dsimp only)
set_option maxHeartbeats 8000000 in
theorem rl_opAppend {T : Ty} {ts : List TypeId} {vs : List Value} {H : AH} {k k' : K} (hk : ∀ a0 a1, Rl S (k a0 a1) (k' a0 a1)) : Rl S (opAppend T ts vs H k) (opAppend T ts vs H k') := by
  unfold opAppend
  repeat' (first | exact hk _ _ | exact Rl.none | with_reducible refine Rl.cond ?_ ?_ | with_reducible refine Rl.bind fun _ => ?_ | with_reducible refine Rl.bnd fun _ => ?_ | with_reducible refine rl_firstK (fun _ => ?_) | with_reducible refine rl_lenK (fun _ => ?_) | with_reducible refine rl_appendTo (fun _ _ => ?_) | with_reducible refine rl_appendNil (fun _ _ => ?_) | split | dsimp only)
set_option maxHeartbeats 8000000 in
theorem rl_opMakeSlice {T : Ty} {t : TypeId} {l : Value} {c : Value} {H : AH} {k k' : K} (hk : ∀ a0 a1, Rl S (k a0 a1) (k' a0 a1)) : Rl S (opMakeSlice T t l c H k) (opMakeSlice T t l c H k') := by
  unfold opMakeSlice
  repeat' (first | exact hk _ _ | exact Rl.none | with_reducible refine Rl.cond ?_ ?_ | with_reducible refine Rl.bind fun _ => ?_ | with_reducible refine Rl.bnd fun _ => ?_ | with_reducible refine rl_asI (fun _ _ => ?_) | with_reducible refine rl_zeroOf (fun _ => ?_) | split | dsimp only)
set_option maxHeartbeats 8000000 in
theorem rl_opClear {T : Ty} {ts : List TypeId} {vs : List Value} {H : AH} {k k' : K} (hk : ∀ a0 a1, Rl S (k a0 a1) (k' a0 a1)) : Rl S (opClear T ts vs H k) (opClear T ts vs H k') := by
  unfold opClear
  repeat' (first | exact hk _ _ | exact Rl.none | with_reducible refine Rl.cond ?_ ?_ | with_reducible refine Rl.bind fun _ => ?_ | with_reducible refine Rl.bnd fun _ => ?_ | with_reducible refine rl_storeN (fun _ => ?_) | with_reducible refine rl_zeroOf (fun _ => ?_) | split | dsimp only)
set_option maxHeartbeats 8000000 in
theorem rl_opLen {T : Ty} {ts : List TypeId} {as : List Value} {H : AH} {k k' : Value → Res} (hk : ∀ a0, Rl S (k a0) (k' a0)) : Rl S (opLen T ts as H k) (opLen T ts as H k') := by
  unfold opLen
  repeat' (first | exact hk _ | exact Rl.none | with_reducible refine Rl.cond ?_ ?_ | with_reducible refine Rl.bind fun _ => ?_ | with_reducible refine Rl.bnd fun _ => ?_ | split | dsimp only)
set_option maxHeartbeats 8000000 in
theorem rl_opMinMax {isMax : Bool} {vs : List Value} {k k' : Value → Res} (hk : ∀ a0, Rl S (k a0) (k' a0)) : Rl S (opMinMax isMax vs k) (opMinMax isMax vs k') := by
  unfold opMinMax
  repeat' (first | exact hk _ | exact Rl.none | with_reducible refine Rl.cond ?_ ?_ | with_reducible refine Rl.bind fun _ => ?_ | with_reducible refine Rl.bnd fun _ => ?_ | with_reducible refine rl_asI (fun _ _ => ?_) | split | dsimp only)
set_option maxHeartbeats 8000000 in
theorem rl_opBuiltin {T : Ty} {b : Builtin} {ts : List TypeId} {as : List Value} {H : AH} {k k' : K} (hk : ∀ a0 a1, Rl S (k a0 a1) (k' a0 a1)) : Rl S (opBuiltin T b ts as H k) (opBuiltin T b ts as H k') := by
  unfold opBuiltin
  repeat' (first | exact hk _ _ | exact Rl.none | with_reducible refine Rl.cond ?_ ?_ | with_reducible refine Rl.bind fun _ => ?_ | with_reducible refine Rl.bnd fun _ => ?_ | with_reducible refine rl_opAppend (fun _ _ => ?_) | with_reducible refine rl_opClear (fun _ _ => ?_) | with_reducible refine rl_opLen (fun _ => ?_) | with_reducible refine rl_opMinMax (fun _ => ?_) | split | dsimp only)
set_option maxHeartbeats 8000000 in
theorem rl_callF {E : Env} {orc : Orc} {f : FuncId} {as : List Value} {H : AH} {k k' : K} (hk : ∀ a0 a1, Rl S (k a0 a1) (k' a0 a1)) : Rl S (callF E orc f as H k) (callF E orc f as H k') := by
  unfold callF
  repeat' (first | exact hk _ _ | exact Rl.none | with_reducible refine Rl.cond ?_ ?_ | with_reducible refine Rl.bind fun _ => ?_ | with_reducible refine Rl.bnd fun _ => ?_ | with_reducible refine rl_destrRes (fun _ => ?_) | split | dsimp only)
set_option maxHeartbeats 8000000 in
theorem rl_oMove {fr : Frame} {H : AH} {k k' : K} {x : Operand} (hk : ∀ a0 a1, Rl S (k a0 a1) (k' a0 a1)) : Rl S (oMove fr H k x) (oMove fr H k' x) := by
  unfold oMove
  repeat' (first | exact hk _ _ | exact Rl.none | with_reducible refine Rl.cond ?_ ?_ | with_reducible refine Rl.bind fun _ => ?_ | with_reducible refine Rl.bnd fun _ => ?_ | split | dsimp only)
set_option maxHeartbeats 8000000 in
theorem rl_oPick {fr : Frame} {H : AH} {k k' : K} {c : Operand} {a : Operand} {b : Operand} (hk : ∀ a0 a1, Rl S (k a0 a1) (k' a0 a1)) : Rl S (oPick fr H k c a b) (oPick fr H k' c a b) := by
  unfold oPick
  repeat' (first | exact hk _ _ | exact Rl.none | with_reducible refine Rl.cond ?_ ?_ | with_reducible refine Rl.bind fun _ => ?_ | with_reducible refine Rl.bnd fun _ => ?_ | with_reducible refine rl_asB (fun _ => ?_) | split | dsimp only)
set_option maxHeartbeats 8000000 in
theorem rl_oAlloc {T : Ty} {H : AH} {k k' : K} {e : TypeId} (hk : ∀ a0 a1, Rl S (k a0 a1) (k' a0 a1)) : Rl S (oAlloc T H k e) (oAlloc T H k' e) := by
  unfold oAlloc
  repeat' (first | exact hk _ _ | exact Rl.none | with_reducible refine Rl.cond ?_ ?_ | with_reducible refine Rl.bind fun _ => ?_ | with_reducible refine Rl.bnd fun _ => ?_ | with_reducible refine rl_zeroOf (fun _ => ?_) | split | dsimp only)
set_option maxHeartbeats 8000000 in
theorem rl_oBox {fr : Frame} {H : AH} {k k' : K} {x : Operand} (hk : ∀ a0 a1, Rl S (k a0 a1) (k' a0 a1)) : Rl S (oBox fr H k x) (oBox fr H k' x) := by
  unfold oBox
  repeat' (first | exact hk _ _ | exact Rl.none | with_reducible refine Rl.cond ?_ ?_ | with_reducible refine Rl.bind fun _ => ?_ | with_reducible refine Rl.bnd fun _ => ?_ | split | dsimp only)
set_option maxHeartbeats 8000000 in
theorem rl_oBuild {T : Ty} {fr : Frame} {H : AH} {k k' : K} {t : TypeId} {ps : Array (Nat × Operand)} (hk : ∀ a0 a1, Rl S (k a0 a1) (k' a0 a1)) : Rl S (oBuild T fr H k t ps) (oBuild T fr H k' t ps) := by
  unfold oBuild
  repeat' (first | exact hk _ _ | exact Rl.none | with_reducible refine Rl.cond ?_ ?_ | with_reducible refine Rl.bind fun _ => ?_ | with_reducible refine Rl.bnd fun _ => ?_ | with_reducible refine rl_opBuild (fun _ => ?_) | split | dsimp only)
set_option maxHeartbeats 8000000 in
theorem rl_oNilCheck {fr : Frame} {H : AH} {k k' : K} {x : Operand} (hk : ∀ a0 a1, Rl S (k a0 a1) (k' a0 a1)) : Rl S (oNilCheck fr H k x) (oNilCheck fr H k' x) := by
  unfold oNilCheck
  repeat' (first | exact hk _ _ | exact Rl.none | with_reducible refine Rl.cond ?_ ?_ | with_reducible refine Rl.bind fun _ => ?_ | with_reducible refine Rl.bnd fun _ => ?_ | split | dsimp only)
set_option maxHeartbeats 8000000 in
theorem rl_oBin {T : Ty} {fr : Frame} {H : AH} {k k' : K} {op : BinOp} {t : TypeId} {x : Operand} {y : Operand} (hk : ∀ a0 a1, Rl S (k a0 a1) (k' a0 a1)) : Rl S (oBin T fr H k op t x y) (oBin T fr H k' op t x y) := by
  unfold oBin
  repeat' (first | exact hk _ _ | exact Rl.none | with_reducible refine Rl.cond ?_ ?_ | with_reducible refine Rl.bind fun _ => ?_ | with_reducible refine Rl.bnd fun _ => ?_ | with_reducible refine rl_opBin (fun _ => ?_) | split | dsimp only)
set_option maxHeartbeats 8000000 in
theorem rl_oUn {fr : Frame} {H : AH} {k k' : K} {op : UnOp} {x : Operand} (hk : ∀ a0 a1, Rl S (k a0 a1) (k' a0 a1)) : Rl S (oUn fr H k op x) (oUn fr H k' op x) := by
  unfold oUn
  repeat' (first | exact hk _ _ | exact Rl.none | with_reducible refine Rl.cond ?_ ?_ | with_reducible refine Rl.bind fun _ => ?_ | with_reducible refine Rl.bnd fun _ => ?_ | with_reducible refine rl_opUn (fun _ => ?_) | split | dsimp only)
set_option maxHeartbeats 8000000 in
theorem rl_oConvert {T : Ty} {fr : Frame} {H : AH} {k k' : K} {s : TypeId} {d : TypeId} {x : Operand} (hk : ∀ a0 a1, Rl S (k a0 a1) (k' a0 a1)) : Rl S (oConvert T fr H k s d x) (oConvert T fr H k' s d x) := by
  unfold oConvert
  repeat' (first | exact hk _ _ | exact Rl.none | with_reducible refine Rl.cond ?_ ?_ | with_reducible refine Rl.bind fun _ => ?_ | with_reducible refine Rl.bnd fun _ => ?_ | with_reducible refine rl_opConvert (fun _ _ => ?_) | split | dsimp only)
set_option maxHeartbeats 8000000 in
theorem rl_oMakeFunc {fr : Frame} {H : AH} {k k' : K} {fn : Fn} {first : Array Operand} {captured : Array Operand} (hk : ∀ a0 a1, Rl S (k a0 a1) (k' a0 a1)) : Rl S (oMakeFunc fr H k fn first captured) (oMakeFunc fr H k' fn first captured) := by
  unfold oMakeFunc
  repeat' (first | exact hk _ _ | exact Rl.none | with_reducible refine Rl.cond ?_ ?_ | with_reducible refine Rl.bind fun _ => ?_ | with_reducible refine Rl.bnd fun _ => ?_ | split | dsimp only)
set_option maxHeartbeats 8000000 in
theorem rl_oMakeMap {H : AH} {k k' : K} {r : Option Operand} (hk : ∀ a0 a1, Rl S (k a0 a1) (k' a0 a1)) : Rl S (oMakeMap H k r) (oMakeMap H k' r) := by
  unfold oMakeMap
  repeat' (first | exact hk _ _ | exact Rl.none | with_reducible refine Rl.cond ?_ ?_ | with_reducible refine Rl.bind fun _ => ?_ | with_reducible refine Rl.bnd fun _ => ?_ | split | dsimp only)
set_option maxHeartbeats 8000000 in
theorem rl_oField {T : Ty} {fr : Frame} {H : AH} {k k' : K} {t : TypeId} {x : Operand} {f : Nat} (hk : ∀ a0 a1, Rl S (k a0 a1) (k' a0 a1)) : Rl S (oField T fr H k t x f) (oField T fr H k' t x f) := by
  unfold oField
  repeat' (first | exact hk _ _ | exact Rl.none | with_reducible refine Rl.cond ?_ ?_ | with_reducible refine Rl.bind fun _ => ?_ | with_reducible refine Rl.bnd fun _ => ?_ | with_reducible refine rl_opField (fun _ => ?_) | split | dsimp only)
set_option maxHeartbeats 8000000 in
theorem rl_oIndex {T : Ty} {fr : Frame} {H : AH} {k k' : K} {t : TypeId} {x : Operand} {i : Operand} (hk : ∀ a0 a1, Rl S (k a0 a1) (k' a0 a1)) : Rl S (oIndex T fr H k t x i) (oIndex T fr H k' t x i) := by
  unfold oIndex
  repeat' (first | exact hk _ _ | exact Rl.none | with_reducible refine Rl.cond ?_ ?_ | with_reducible refine Rl.bind fun _ => ?_ | with_reducible refine Rl.bnd fun _ => ?_ | with_reducible refine rl_opIndex (fun _ => ?_) | split | dsimp only)
set_option maxHeartbeats 8000000 in
theorem rl_oExtract {fr : Frame} {H : AH} {k k' : K} {x : Operand} {i : Nat} (hk : ∀ a0 a1, Rl S (k a0 a1) (k' a0 a1)) : Rl S (oExtract fr H k x i) (oExtract fr H k' x i) := by
  unfold oExtract
  repeat' (first | exact hk _ _ | exact Rl.none | with_reducible refine Rl.cond ?_ ?_ | with_reducible refine Rl.bind fun _ => ?_ | with_reducible refine Rl.bnd fun _ => ?_ | split | dsimp only)
set_option maxHeartbeats 8000000 in
theorem rl_oLookupN {E : Env} {ot : TypeId} {fr : Frame} {H : AH} {k k' : K} {t : TypeId} {x : Operand} {i : Operand} {ok : Bool} (hk : ∀ a0 a1, Rl S (k a0 a1) (k' a0 a1)) : Rl S (oLookupN E ot fr H k t x i ok) (oLookupN E ot fr H k' t x i ok) := by
  unfold oLookupN
  repeat' (first | exact hk _ _ | exact Rl.none | with_reducible refine Rl.cond ?_ ?_ | with_reducible refine Rl.bind fun _ => ?_ | with_reducible refine Rl.bnd fun _ => ?_ | with_reducible refine rl_opLookup (fun _ => ?_) | split | dsimp only)
set_option maxHeartbeats 8000000 in
theorem rl_oUpdateN {E : Env} {fr : Frame} {H : AH} {k k' : K} {t : TypeId} {m : Operand} {i : Operand} {x : Operand} (hk : ∀ a0 a1, Rl S (k a0 a1) (k' a0 a1)) : Rl S (oUpdateN E fr H k t m i x) (oUpdateN E fr H k' t m i x) := by
  unfold oUpdateN
  repeat' (first | exact hk _ _ | exact Rl.none | with_reducible refine Rl.cond ?_ ?_ | with_reducible refine Rl.bind fun _ => ?_ | with_reducible refine Rl.bnd fun _ => ?_ | with_reducible refine rl_opUpdate (fun _ => ?_) | split | dsimp only)
set_option maxHeartbeats 8000000 in
theorem rl_readD {T : Ty} {t : TypeId} {cs : List Value} {off : Nat} {k k' : Value → Res} (hk : ∀ a0, Rl S (k a0) (k' a0)) : Rl S (readD T t cs off k) (readD T t cs off k') := by
  unfold readD
  repeat' (first | exact hk _ | exact Rl.none | with_reducible refine Rl.cond ?_ ?_ | with_reducible refine Rl.bind fun _ => ?_ | with_reducible refine Rl.bnd fun _ => ?_ | split | dsimp only)
set_option maxHeartbeats 8000000 in
theorem rl_AH_bldAt {H : AH} {b : Nat} {k k' : List Value → Res} {z z' : Res} (hk : ∀ a0, Rl S (k a0) (k' a0)) (hz : Rl S (z) (z')) : Rl S (AH.bldAt H b k z) (AH.bldAt H b k' z') := by
  unfold AH.bldAt
  repeat' (first | exact hk _ | exact hz | exact Rl.none | with_reducible refine Rl.cond ?_ ?_ | with_reducible refine Rl.bind fun _ => ?_ | with_reducible refine Rl.bnd fun _ => ?_ | split | dsimp only)
set_option maxHeartbeats 8000000 in
theorem rl_loadD {T : Ty} {t : TypeId} {x : Value} {H : AH} {k k' : Value → Res} (hk : ∀ a0, Rl S (k a0) (k' a0)) : Rl S (loadD T t x H k) (loadD T t x H k') := by
  unfold loadD
  repeat' (first | exact hk _ | exact Rl.none | with_reducible refine Rl.cond ?_ ?_ | with_reducible refine Rl.bind fun _ => ?_ | with_reducible refine Rl.bnd fun _ => ?_ | with_reducible refine rl_loadN (fun _ => ?_) | with_reducible refine rl_load1 (fun _ => ?_) | with_reducible refine rl_sizeT (fun _ => ?_) | with_reducible refine rl_readD (fun _ => ?_) | with_reducible refine rl_AH_bldAt (fun _ => ?_) ?_ | refine rl_deepC (fun _ _ => ?_) (fun _ _ => ?_) (fun _ _ _ => ?_) (fun _ => ?_) ?_ | split | dsimp only)
set_option maxHeartbeats 8000000 in
theorem rl_getCells {H : AH} {b : Nat} {k k' : List Value → Res} (hk : ∀ a0, Rl S (k a0) (k' a0)) : Rl S (getCells H b k) (getCells H b k') := by
  unfold getCells
  repeat' (first | exact hk _ | exact Rl.none | with_reducible refine Rl.cond ?_ ?_ | with_reducible refine Rl.bind fun _ => ?_ | with_reducible refine Rl.bnd fun _ => ?_ | split | dsimp only)
set_option maxHeartbeats 8000000 in
theorem rl_keep1 {z : Nat} {v : Value} {H : AH} {k k' : Value → AH → Res} (hk : ∀ a0 a1, Rl S (k a0 a1) (k' a0 a1)) : Rl S (keep1 z v H k) (keep1 z v H k') := by
  unfold keep1
  repeat' (first | exact hk _ _ | exact Rl.none | with_reducible refine Rl.cond ?_ ?_ | with_reducible refine Rl.bind fun _ => ?_ | with_reducible refine Rl.bnd fun _ => ?_ | with_reducible refine rl_getCells (fun _ => ?_) | refine rl_deepC (fun _ _ => ?_) (fun _ _ => ?_) (fun _ _ _ => ?_) (fun _ => ?_) ?_ | split | dsimp only)
set_option maxHeartbeats 8000000 in
theorem rl_keepC {kd : Kd × Nat} {v : Value} {H : AH} {k k' : Value → AH → Res} (hk : ∀ a0 a1, Rl S (k a0 a1) (k' a0 a1)) : Rl S (keepC kd v H k) (keepC kd v H k') := by
  unfold keepC
  repeat' (first | exact hk _ _ | exact Rl.none | with_reducible refine Rl.cond ?_ ?_ | with_reducible refine Rl.bind fun _ => ?_ | with_reducible refine Rl.bnd fun _ => ?_ | with_reducible refine rl_keep1 (fun _ _ => ?_) | split | dsimp only)
theorem rl_keepD {ks : List (Kd × Nat)} : ∀ {vs : List Value} {H : AH} {k k' : List Value → AH → Res}, (∀ a b, Rl S (k a b) (k' a b)) → Rl S (keepD ks vs H k) (keepD ks vs H k') := by
  induction ks with
  | nil => intro vs H k k' hk; cases vs with
    | nil => exact hk _ _
    | cons => exact Rl.none
  | cons kd ks ih => intro vs H k k' hk; cases vs with
    | nil => exact Rl.none
    | cons v vs => exact rl_keepC (fun v H => ih (fun l H => hk _ _))
set_option maxHeartbeats 8000000 in
theorem rl_storeD {T : Ty} {t : TypeId} {x : Value} {v : Value} {H : AH} {k k' : AH → Res} (hk : ∀ a0, Rl S (k a0) (k' a0)) : Rl S (storeD T t x v H k) (storeD T t x v H k') := by
  unfold storeD
  repeat' (first | exact hk _ | exact Rl.none | with_reducible refine Rl.cond ?_ ?_ | with_reducible refine Rl.bind fun _ => ?_ | with_reducible refine Rl.bnd fun _ => ?_ | with_reducible refine rl_asPtr (fun _ => ?_) | with_reducible refine rl_storeN (fun _ => ?_) | with_reducible refine rl_sizeT (fun _ => ?_) | with_reducible refine rl_AH_bldAt (fun _ => ?_) ?_ | split | dsimp only)
set_option maxHeartbeats 8000000 in
theorem rl_allD {T : Ty} {e : TypeId} {s : Nat} {b : Nat} {n : Nat} {H : AH} {k k' : List Value → AH → Res} (hk : ∀ a0 a1, Rl S (k a0 a1) (k' a0 a1)) : Rl S (allD T e s b n H k) (allD T e s b n H k') := by
  unfold allD
  repeat' (first | exact hk _ _ | exact Rl.none | with_reducible refine Rl.cond ?_ ?_ | with_reducible refine Rl.bind fun _ => ?_ | with_reducible refine Rl.bnd fun _ => ?_ | with_reducible refine rl_keepD (fun _ _ => ?_) | split | dsimp only)
set_option maxHeartbeats 8000000 in
theorem rl_srcD {T : Ty} {e : TypeId} {s : Nat} {x : Value} {H : AH} {k k' : List Value → Nat → AH → Res} (hk : ∀ a0 a1 a2, Rl S (k a0 a1 a2) (k' a0 a1 a2)) : Rl S (srcD T e s x H k) (srcD T e s x H k') := by
  unfold srcD
  repeat' (first | exact hk _ _ _ | exact Rl.none | with_reducible refine Rl.cond ?_ ?_ | with_reducible refine Rl.bind fun _ => ?_ | with_reducible refine Rl.bnd fun _ => ?_ | with_reducible refine rl_allD (fun _ _ => ?_) | refine rl_deepC (fun _ _ => ?_) (fun _ _ => ?_) (fun _ _ _ => ?_) (fun _ => ?_) ?_ | split | dsimp only)
set_option maxHeartbeats 8000000 in
theorem rl_baseD {T : Ty} {e : TypeId} {s : Nat} {x : Value} {H : AH} {k k' : List Value → Nat → AH → Res} (hk : ∀ a0 a1 a2, Rl S (k a0 a1 a2) (k' a0 a1 a2)) : Rl S (baseD T e s x H k) (baseD T e s x H k') := by
  unfold baseD
  repeat' (first | exact hk _ _ _ | exact Rl.none | with_reducible refine Rl.cond ?_ ?_ | with_reducible refine Rl.bind fun _ => ?_ | with_reducible refine Rl.bnd fun _ => ?_ | with_reducible refine rl_allD (fun _ _ => ?_) | refine rl_deepC (fun _ _ => ?_) (fun _ _ => ?_) (fun _ _ _ => ?_) (fun _ => ?_) ?_ | split | dsimp only)
set_option maxHeartbeats 8000000 in
theorem rl_appendD {T : Ty} {ts : List TypeId} {vs : List Value} {H : AH} {k k' : K} (hk : ∀ a0 a1, Rl S (k a0 a1) (k' a0 a1)) : Rl S (appendD T ts vs H k) (appendD T ts vs H k') := by
  unfold appendD
  repeat' (first | exact hk _ _ | exact Rl.none | with_reducible refine Rl.cond ?_ ?_ | with_reducible refine Rl.bind fun _ => ?_ | with_reducible refine Rl.bnd fun _ => ?_ | with_reducible refine rl_srcD (fun _ _ _ => ?_) | with_reducible refine rl_baseD (fun _ _ _ => ?_) | split | dsimp only)
set_option maxHeartbeats 8000000 in
theorem rl_lenD {T : Ty} {ts : List TypeId} {as : List Value} {H : AH} {k k' : Value → Res} {z z' : Res} (hk : ∀ a0, Rl S (k a0) (k' a0)) (hz : Rl S (z) (z')) : Rl S (lenD T ts as H k z) (lenD T ts as H k' z') := by
  unfold lenD
  repeat' (first | exact hk _ | exact hz | exact Rl.none | with_reducible refine Rl.cond ?_ ?_ | with_reducible refine Rl.bind fun _ => ?_ | with_reducible refine Rl.bnd fun _ => ?_ | refine rl_deepC (fun _ _ => ?_) (fun _ _ => ?_) (fun _ _ _ => ?_) (fun _ => ?_) ?_ | split | dsimp only)
set_option maxHeartbeats 8000000 in
theorem rl_indexD {T : Ty} {t : TypeId} {x : Value} {ix : Value} {k k' : Value → Res} (hk : ∀ a0, Rl S (k a0) (k' a0)) : Rl S (indexD T t x ix k) (indexD T t x ix k') := by
  unfold indexD
  repeat' (first | exact hk _ | exact Rl.none | with_reducible refine Rl.cond ?_ ?_ | with_reducible refine Rl.bind fun _ => ?_ | with_reducible refine Rl.bnd fun _ => ?_ | with_reducible refine rl_asI (fun _ _ => ?_) | with_reducible refine rl_sizeT (fun _ => ?_) | with_reducible refine rl_opIndexAddr (fun _ => ?_) | refine rl_deepC (fun _ _ => ?_) (fun _ _ => ?_) (fun _ _ _ => ?_) (fun _ => ?_) ?_ | split | dsimp only)
set_option maxHeartbeats 8000000 in
theorem rl_fieldD {T : Ty} {t : TypeId} {x : Value} {f : Nat} {k k' : Value → Res} (hk : ∀ a0, Rl S (k a0) (k' a0)) : Rl S (fieldD T t x f k) (fieldD T t x f k') := by
  unfold fieldD
  repeat' (first | exact hk _ | exact Rl.none | with_reducible refine Rl.cond ?_ ?_ | with_reducible refine Rl.bind fun _ => ?_ | with_reducible refine Rl.bnd fun _ => ?_ | with_reducible refine rl_sizeT (fun _ => ?_) | with_reducible refine rl_opFieldAddr (fun _ => ?_) | refine rl_deepC (fun _ _ => ?_) (fun _ _ => ?_) (fun _ _ _ => ?_) (fun _ => ?_) ?_ | split | dsimp only)
set_option maxHeartbeats 8000000 in
theorem rl_sliceD {T : Ty} {fr : Frame} {t : TypeId} {x : Value} {lo : Option Operand} {hi : Option Operand} {mx : Option Operand} {k k' : Value → Res} (hk : ∀ a0, Rl S (k a0) (k' a0)) : Rl S (sliceD T fr t x lo hi mx k) (sliceD T fr t x lo hi mx k') := by
  unfold sliceD
  repeat' (first | exact hk _ | exact Rl.none | with_reducible refine Rl.cond ?_ ?_ | with_reducible refine Rl.bind fun _ => ?_ | with_reducible refine Rl.bnd fun _ => ?_ | with_reducible refine rl_sizeT (fun _ => ?_) | with_reducible refine rl_boundsK (fun _ _ _ => ?_) | with_reducible refine rl_opSlice (fun _ => ?_) | refine rl_deepC (fun _ _ => ?_) (fun _ _ => ?_) (fun _ _ _ => ?_) (fun _ => ?_) ?_ | split | dsimp only)
set_option maxHeartbeats 8000000 in
theorem rl_buildSliceD {T : Ty} {t : TypeId} {n : Nat} {ps : List (Nat × Value)} {H : AH} {k k' : K} (hk : ∀ a0 a1, Rl S (k a0 a1) (k' a0 a1)) : Rl S (buildSliceD T t n ps H k) (buildSliceD T t n ps H k') := by
  unfold buildSliceD
  repeat' (first | exact hk _ _ | exact Rl.none | with_reducible refine Rl.cond ?_ ?_ | with_reducible refine Rl.bind fun _ => ?_ | with_reducible refine Rl.bnd fun _ => ?_ | with_reducible refine rl_zeroOf (fun _ => ?_) | with_reducible refine rl_sizeT (fun _ => ?_) | split | dsimp only)
set_option maxHeartbeats 8000000 in
theorem rl_makeSliceD {T : Ty} {t : TypeId} {l : Value} {c : Value} {H : AH} {k k' : K} (hk : ∀ a0 a1, Rl S (k a0 a1) (k' a0 a1)) : Rl S (makeSliceD T t l c H k) (makeSliceD T t l c H k') := by
  unfold makeSliceD
  repeat' (first | exact hk _ _ | exact Rl.none | with_reducible refine Rl.cond ?_ ?_ | with_reducible refine Rl.bind fun _ => ?_ | with_reducible refine Rl.bnd fun _ => ?_ | with_reducible refine rl_asI (fun _ _ => ?_) | with_reducible refine rl_zeroOf (fun _ => ?_) | split | dsimp only)
set_option maxHeartbeats 8000000 in
theorem rl_packS {z : Nat} {v : Value} {H : AH} {k k' : Value → Res} (hk : ∀ a0, Rl S (k a0) (k' a0)) : Rl S (packS z v H k) (packS z v H k') := by
  unfold packS
  repeat' (first | exact hk _ | exact Rl.none | with_reducible refine Rl.cond ?_ ?_ | with_reducible refine Rl.bind fun _ => ?_ | with_reducible refine Rl.bnd fun _ => ?_ | with_reducible refine rl_getCells (fun _ => ?_) | refine rl_deepC (fun _ _ => ?_) (fun _ _ => ?_) (fun _ _ _ => ?_) (fun _ => ?_) ?_ | split | dsimp only)
set_option maxHeartbeats 8000000 in
theorem rl_packC {kd : Kd × Nat} {v : Value} {H : AH} {k k' : Value → Res} (hk : ∀ a0, Rl S (k a0) (k' a0)) : Rl S (packC kd v H k) (packC kd v H k') := by
  unfold packC
  repeat' (first | exact hk _ | exact Rl.none | with_reducible refine Rl.cond ?_ ?_ | with_reducible refine Rl.bind fun _ => ?_ | with_reducible refine Rl.bnd fun _ => ?_ | with_reducible refine rl_packS (fun _ => ?_) | split | dsimp only)
theorem rl_packL {ks : List (Kd × Nat)} : ∀ {vs : List Value} {H : AH} {k k' : List Value → Res}, (∀ a, Rl S (k a) (k' a)) → Rl S (packL ks vs H k) (packL ks vs H k') := by
  induction ks with
  | nil => intro vs H k k' hk; cases vs with
    | nil => exact hk _
    | cons => exact Rl.none
  | cons kd ks ih => intro vs H k k' hk; cases vs with
    | nil => exact Rl.none
    | cons v vs => exact rl_packC (fun v => ih (fun l => hk _))
set_option maxHeartbeats 8000000 in
theorem rl_packA {v : Value} {H : AH} {k k' : Value → Res} (hk : ∀ a0, Rl S (k a0) (k' a0)) : Rl S (packA v H k) (packA v H k') := by
  unfold packA
  repeat' (first | exact hk _ | exact Rl.none | with_reducible refine Rl.cond ?_ ?_ | with_reducible refine Rl.bind fun _ => ?_ | with_reducible refine Rl.bnd fun _ => ?_ | with_reducible refine rl_getCells (fun _ => ?_) | refine rl_deepC (fun _ _ => ?_) (fun _ _ => ?_) (fun _ _ _ => ?_) (fun _ => ?_) ?_ | split | dsimp only)
theorem rl_packAs {vs : List Value} : ∀ {H : AH} {k k' : List Value → Res}, (∀ a, Rl S (k a) (k' a)) → Rl S (packAs vs H k) (packAs vs H k') := by
  induction vs with
  | nil => intro H k k' hk; exact hk _
  | cons v vs ih => intro H k k' hk; exact rl_packA (fun v => ih (fun l => hk _))
set_option maxHeartbeats 8000000 in
theorem rl_packP {v : Value} {H : AH} {k k' : Value → Res} (hk : ∀ a0, Rl S (k a0) (k' a0)) : Rl S (packP v H k) (packP v H k') := by
  unfold packP
  repeat' (first | exact hk _ | exact Rl.none | with_reducible refine Rl.cond ?_ ?_ | with_reducible refine Rl.bind fun _ => ?_ | with_reducible refine Rl.bnd fun _ => ?_ | with_reducible refine rl_packA (fun _ => ?_) | with_reducible refine rl_packAs (fun _ => ?_) | refine rl_deepC (fun _ _ => ?_) (fun _ _ => ?_) (fun _ _ _ => ?_) (fun _ => ?_) ?_ | split | dsimp only)
theorem rl_packPs {vs : List Value} : ∀ {H : AH} {k k' : List Value → Res}, (∀ a, Rl S (k a) (k' a)) → Rl S (packPs vs H k) (packPs vs H k') := by
  induction vs with
  | nil => intro H k k' hk; exact hk _
  | cons v vs ih => intro H k k' hk; exact rl_packP (fun v => ih (fun l => hk _))
set_option maxHeartbeats 8000000 in
theorem rl_packV {T : Ty} {t : TypeId} {v : Value} {H : AH} {k k' : Value → Res} (hk : ∀ a0, Rl S (k a0) (k' a0)) : Rl S (packV T t v H k) (packV T t v H k') := by
  unfold packV
  repeat' (first | exact hk _ | exact Rl.none | with_reducible refine Rl.cond ?_ ?_ | with_reducible refine Rl.bind fun _ => ?_ | with_reducible refine Rl.bnd fun _ => ?_ | with_reducible refine rl_packC (fun _ => ?_) | with_reducible refine rl_packP (fun _ => ?_) | with_reducible refine rl_packL (fun _ => ?_) | with_reducible refine rl_packPs (fun _ => ?_) | split | dsimp only)
theorem rl_packVs {T : Ty} {ts : List TypeId} : ∀ {vs : List Value} {H : AH} {k k' : List Value → Res}, (∀ a, Rl S (k a) (k' a)) → Rl S (packVs T ts vs H k) (packVs T ts vs H k') := by
  induction ts with
  | nil => intro vs H k k' hk; exact rl_packPs hk
  | cons t ts ih => intro vs H k k' hk; cases vs with
    | nil => exact Rl.none
    | cons v vs => exact rl_packV (fun v => ih (fun l => hk _))
set_option maxHeartbeats 8000000 in
theorem rl_callP {E : Env} {orc : Orc} {g : FuncId} {vs : List Value} {H : AH} {k k' : Value → Res} (hs : SpecRl E) (hk : ∀ a0, Rl S (k a0) (k' a0)) : Rl S (callP E orc g vs H k) (callP E orc g vs H k') := by
  unfold callP
  repeat' (first | exact hk _ | exact Rl.none | with_reducible refine Rl.cond ?_ ?_ | with_reducible refine Rl.bind fun _ => ?_ | with_reducible refine Rl.bnd fun _ => ?_ | refine hs.v _ _ (by assumption) _ _ _ _ (fun _ => ?_) | with_reducible refine rl_destrRes (fun _ => ?_) | with_reducible refine rl_packVs (fun _ => ?_) | split | dsimp only)
set_option maxHeartbeats 8000000 in
theorem rl_keepV {T : Ty} {t : TypeId} {v : Value} {H : AH} {k k' : Value → AH → Res} (hk : ∀ a0 a1, Rl S (k a0 a1) (k' a0 a1)) : Rl S (keepV T t v H k) (keepV T t v H k') := by
  unfold keepV
  repeat' (first | exact hk _ _ | exact Rl.none | with_reducible refine Rl.cond ?_ ?_ | with_reducible refine Rl.bind fun _ => ?_ | with_reducible refine Rl.bnd fun _ => ?_ | with_reducible refine rl_keepC (fun _ _ => ?_) | with_reducible refine rl_keepD (fun _ _ => ?_) | split | dsimp only)
theorem rl_keepVs {T : Ty} {ts : List TypeId} : ∀ {vs : List Value} {H : AH} {k k' : List Value → AH → Res}, (∀ a b, Rl S (k a b) (k' a b)) → Rl S (keepVs T ts vs H k) (keepVs T ts vs H k') := by
  induction ts with
  | nil => intro vs H k k' hk; cases vs with
    | nil => exact hk _ _
    | cons => exact Rl.none
  | cons t ts ih => intro vs H k k' hk; cases vs with
    | nil => exact Rl.none
    | cons v vs =>
      show Rl S (keepV T t v H fun d H => keepVs T ts vs H fun l H => k (d :: l) H) (keepV T t v H fun d H => keepVs T ts vs H fun l H => k' (d :: l) H)
      exact rl_keepV (fun v H => ih (fun l H => hk _ _))
set_option maxHeartbeats 8000000 in
theorem rl_callQ {E : Env} {orc : Orc} {g : FuncId} {vs : List Value} {H : AH} {k k' : K} (hs : SpecRl E) (hk : ∀ a0 a1, Rl S (k a0 a1) (k' a0 a1)) : Rl S (callQ E orc g vs H k) (callQ E orc g vs H k') := by
  unfold callQ
  repeat' (first | exact hk _ _ | exact Rl.none | with_reducible refine Rl.cond ?_ ?_ | with_reducible refine Rl.bind fun _ => ?_ | with_reducible refine Rl.bnd fun _ => ?_ | refine hs.v _ _ (by assumption) _ _ _ _ (fun _ => ?_) | with_reducible refine rl_keepVs (fun _ _ => ?_) | refine rl_deepC (fun _ _ => ?_) (fun _ _ => ?_) (fun _ _ _ => ?_) (fun _ => ?_) ?_ | split | dsimp only)
set_option maxHeartbeats 8000000 in
theorem rl_callM {E : Env} {g : FuncId} {vs : List Value} {H : AH} {k k' : K} (hs : SpecRl E) (hk : ∀ a0 a1, Rl S (k a0 a1) (k' a0 a1)) : Rl S (callM E g vs H k) (callM E g vs H k') := by
  unfold callM
  repeat' (first | exact hk _ _ | exact Rl.none | with_reducible refine Rl.cond ?_ ?_ | with_reducible refine Rl.bind fun _ => ?_ | with_reducible refine Rl.bnd fun _ => ?_ | refine hs.m _ _ (by assumption) _ _ _ _ _ (fun _ _ => ?_) | with_reducible refine rl_destrRes (fun _ => ?_) | split | dsimp only)
set_option maxHeartbeats 8000000 in
theorem rl_oCallD {E : Env} {orc : Orc} {o : Oper} {fr : Frame} {H : AH} {k k' : K} {c : Call} (hs : SpecRl E) (hk : ∀ a0 a1, Rl S (k a0 a1) (k' a0 a1)) : Rl S (oCallD E orc o fr H k c) (oCallD E orc o fr H k' c) := by
  unfold oCallD
  repeat' (first | exact hk _ _ | exact Rl.none | with_reducible refine Rl.cond ?_ ?_ | with_reducible refine Rl.bind fun _ => ?_ | with_reducible refine Rl.bnd fun _ => ?_ | with_reducible refine rl_opBuiltin (fun _ _ => ?_) | with_reducible refine rl_callF (fun _ _ => ?_) | with_reducible refine rl_appendD (fun _ _ => ?_) | with_reducible refine rl_lenD (fun _ => ?_) ?_ | with_reducible refine rl_callP hs (fun _ => ?_) | with_reducible refine rl_callQ hs (fun _ _ => ?_) | with_reducible refine rl_callM hs (fun _ _ => ?_) | split | dsimp only)
set_option maxHeartbeats 8000000 in
theorem rl_opBuildSlice {T : Ty} {t : TypeId} {n : Nat} {ps : List (Nat × Value)} {H : AH} {k k' : K} (hk : ∀ a0 a1, Rl S (k a0 a1) (k' a0 a1)) : Rl S (opBuildSlice T t n ps H k) (opBuildSlice T t n ps H k') := by
  unfold opBuildSlice
  repeat' (first | exact hk _ _ | exact Rl.none | with_reducible refine Rl.cond ?_ ?_ | with_reducible refine Rl.bind fun _ => ?_ | with_reducible refine Rl.bnd fun _ => ?_ | with_reducible refine rl_zeroOf (fun _ => ?_) | with_reducible refine rl_sizeT (fun _ => ?_) | split | dsimp only)
set_option maxHeartbeats 8000000 in
theorem rl_oLoad {T : Ty} {fr : Frame} {H : AH} {k k' : K} {t : TypeId} {x : Operand} (hk : ∀ a0 a1, Rl S (k a0 a1) (k' a0 a1)) : Rl S (oLoad T fr H k t x) (oLoad T fr H k' t x) := by
  unfold oLoad
  repeat' (first | exact hk _ _ | exact Rl.none | with_reducible refine Rl.cond ?_ ?_ | with_reducible refine Rl.bind fun _ => ?_ | with_reducible refine Rl.bnd fun _ => ?_ | with_reducible refine rl_asPtr (fun _ => ?_) | with_reducible refine rl_loadN (fun _ => ?_) | with_reducible refine rl_load1 (fun _ => ?_) | with_reducible refine rl_sizeT (fun _ => ?_) | with_reducible refine rl_destrL (fun _ => ?_) | with_reducible refine rl_destr (fun _ => ?_) | split | dsimp only)
set_option maxHeartbeats 8000000 in
theorem rl_oStore {T : Ty} {fr : Frame} {H : AH} {k k' : K} {t : TypeId} {a : Operand} {x : Operand} (hk : ∀ a0 a1, Rl S (k a0 a1) (k' a0 a1)) : Rl S (oStore T fr H k t a x) (oStore T fr H k' t a x) := by
  unfold oStore
  repeat' (first | exact hk _ _ | exact Rl.none | with_reducible refine Rl.cond ?_ ?_ | with_reducible refine Rl.bind fun _ => ?_ | with_reducible refine Rl.bnd fun _ => ?_ | with_reducible refine rl_asPtr (fun _ => ?_) | with_reducible refine rl_storeN (fun _ => ?_) | with_reducible refine rl_sizeT (fun _ => ?_) | split | dsimp only)
set_option maxHeartbeats 8000000 in
theorem rl_oBuildSlice {T : Ty} {fr : Frame} {H : AH} {k k' : K} {t : TypeId} {n : Nat} {ps : Array (Nat × Operand)} (hk : ∀ a0 a1, Rl S (k a0 a1) (k' a0 a1)) : Rl S (oBuildSlice T fr H k t n ps) (oBuildSlice T fr H k' t n ps) := by
  unfold oBuildSlice
  repeat' (first | exact hk _ _ | exact Rl.none | with_reducible refine Rl.cond ?_ ?_ | with_reducible refine Rl.bind fun _ => ?_ | with_reducible refine Rl.bnd fun _ => ?_ | with_reducible refine rl_opBuildSlice (fun _ _ => ?_) | split | dsimp only)
set_option maxHeartbeats 8000000 in
theorem rl_oMakeSlice {T : Ty} {fr : Frame} {H : AH} {k k' : K} {t : TypeId} {l : Operand} {c : Operand} (hk : ∀ a0 a1, Rl S (k a0 a1) (k' a0 a1)) : Rl S (oMakeSlice T fr H k t l c) (oMakeSlice T fr H k' t l c) := by
  unfold oMakeSlice
  repeat' (first | exact hk _ _ | exact Rl.none | with_reducible refine Rl.cond ?_ ?_ | with_reducible refine Rl.bind fun _ => ?_ | with_reducible refine Rl.bnd fun _ => ?_ | with_reducible refine rl_opMakeSlice (fun _ _ => ?_) | split | dsimp only)
set_option maxHeartbeats 8000000 in
theorem rl_oSlice {T : Ty} {fr : Frame} {H : AH} {k k' : K} {t : TypeId} {x : Operand} {lo : Option Operand} {hi : Option Operand} {mx : Option Operand} (hk : ∀ a0 a1, Rl S (k a0 a1) (k' a0 a1)) : Rl S (oSlice T fr H k t x lo hi mx) (oSlice T fr H k' t x lo hi mx) := by
  unfold oSlice
  repeat' (first | exact hk _ _ | exact Rl.none | with_reducible refine Rl.cond ?_ ?_ | with_reducible refine Rl.bind fun _ => ?_ | with_reducible refine Rl.bnd fun _ => ?_ | with_reducible refine rl_opSlice (fun _ => ?_) | split | dsimp only)
set_option maxHeartbeats 8000000 in
theorem rl_oFieldAddr {T : Ty} {fr : Frame} {H : AH} {k k' : K} {t : TypeId} {x : Operand} {f : Nat} (hk : ∀ a0 a1, Rl S (k a0 a1) (k' a0 a1)) : Rl S (oFieldAddr T fr H k t x f) (oFieldAddr T fr H k' t x f) := by
  unfold oFieldAddr
  repeat' (first | exact hk _ _ | exact Rl.none | with_reducible refine Rl.cond ?_ ?_ | with_reducible refine Rl.bind fun _ => ?_ | with_reducible refine Rl.bnd fun _ => ?_ | with_reducible refine rl_opFieldAddr (fun _ => ?_) | split | dsimp only)
set_option maxHeartbeats 8000000 in
theorem rl_oIndexAddr {T : Ty} {fr : Frame} {H : AH} {k k' : K} {t : TypeId} {x : Operand} {i : Operand} (hk : ∀ a0 a1, Rl S (k a0 a1) (k' a0 a1)) : Rl S (oIndexAddr T fr H k t x i) (oIndexAddr T fr H k' t x i) := by
  unfold oIndexAddr
  repeat' (first | exact hk _ _ | exact Rl.none | with_reducible refine Rl.cond ?_ ?_ | with_reducible refine Rl.bind fun _ => ?_ | with_reducible refine Rl.bnd fun _ => ?_ | with_reducible refine rl_opIndexAddr (fun _ => ?_) | split | dsimp only)
set_option maxHeartbeats 8000000 in
theorem rl_oCall {E : Env} {orc : Orc} {fr : Frame} {H : AH} {k k' : K} {c : Call} (hk : ∀ a0 a1, Rl S (k a0 a1) (k' a0 a1)) : Rl S (oCall E orc fr H k c) (oCall E orc fr H k' c) := by
  unfold oCall
  repeat' (first | exact hk _ _ | exact Rl.none | with_reducible refine Rl.cond ?_ ?_ | with_reducible refine Rl.bind fun _ => ?_ | with_reducible refine Rl.bnd fun _ => ?_ | with_reducible refine rl_opBuiltin (fun _ _ => ?_) | with_reducible refine rl_callF (fun _ _ => ?_) | split | dsimp only)
set_option maxHeartbeats 8000000 in
theorem rl_evOp {E : Env} {orc : Orc} {o : Oper} {fr : Frame} {H : AH} {k k' : K} (hk : ∀ a0 a1, Rl S (k a0 a1) (k' a0 a1)) : Rl S (evOp E orc o fr H k) (evOp E orc o fr H k') := by
  unfold evOp
  repeat' (first | exact hk _ _ | exact Rl.none | with_reducible refine Rl.cond ?_ ?_ | with_reducible refine Rl.bind fun _ => ?_ | with_reducible refine Rl.bnd fun _ => ?_ | with_reducible refine rl_oMove (fun _ _ => ?_) | with_reducible refine rl_oPick (fun _ _ => ?_) | with_reducible refine rl_oAlloc (fun _ _ => ?_) | with_reducible refine rl_oBox (fun _ _ => ?_) | with_reducible refine rl_oBuild (fun _ _ => ?_) | with_reducible refine rl_oNilCheck (fun _ _ => ?_) | with_reducible refine rl_oBin (fun _ _ => ?_) | with_reducible refine rl_oUn (fun _ _ => ?_) | with_reducible refine rl_oConvert (fun _ _ => ?_) | with_reducible refine rl_oMakeFunc (fun _ _ => ?_) | with_reducible refine rl_oMakeMap (fun _ _ => ?_) | with_reducible refine rl_oField (fun _ _ => ?_) | with_reducible refine rl_oIndex (fun _ _ => ?_) | with_reducible refine rl_oExtract (fun _ _ => ?_) | with_reducible refine rl_oLoad (fun _ _ => ?_) | with_reducible refine rl_oStore (fun _ _ => ?_) | with_reducible refine rl_oBuildSlice (fun _ _ => ?_) | with_reducible refine rl_oMakeSlice (fun _ _ => ?_) | with_reducible refine rl_oSlice (fun _ _ => ?_) | with_reducible refine rl_oFieldAddr (fun _ _ => ?_) | with_reducible refine rl_oIndexAddr (fun _ _ => ?_) | with_reducible refine rl_oCall (fun _ _ => ?_) | split | dsimp only)
set_option maxHeartbeats 8000000 in
theorem rl_evOpC {E : Env} {orc : Orc} {o : Oper} {fr : Frame} {H : AH} {k k' : K} (hk : ∀ a0 a1, Rl S (k a0 a1) (k' a0 a1)) : Rl S (evOpC E orc o fr H k) (evOpC E orc o fr H k') := by
  unfold evOpC
  repeat' (first | exact hk _ _ | exact Rl.none | with_reducible refine Rl.cond ?_ ?_ | with_reducible refine Rl.bind fun _ => ?_ | with_reducible refine Rl.bnd fun _ => ?_ | with_reducible refine rl_oLookupN (fun _ _ => ?_) | with_reducible refine rl_oUpdateN (fun _ _ => ?_) | with_reducible refine rl_evOp (fun _ _ => ?_) | split | dsimp only)
theorem rl_splitK {p : Pol} {op : BinOp} {y : Option Value} {k k' : K} (hk : ∀ a b, Rl S (k a b) (k' a b)) (v : Value) (H : AH) : Rl S (splitK p op y k v H) (splitK p op y k' v H) := by
  unfold splitK
  repeat' (first | exact hk _ _ | exact Rl.none | with_reducible refine Rl.cond ?_ ?_ | split)
set_option maxHeartbeats 8000000 in
theorem rl_evOpD {E : Env} {orc : Orc} {o : Oper} {fr : Frame} {H : AH} {k k' : K} (hs : SpecRl E) (hk : ∀ a0 a1, Rl S (k a0 a1) (k' a0 a1)) : Rl S (evOpD E orc o fr H k) (evOpD E orc o fr H k') := by
  unfold evOpD
  repeat' (first | exact hk _ _ | with_reducible refine rl_oBin (fun _ _ => ?_) | exact rl_splitK hk _ _ | exact Rl.none | with_reducible refine Rl.cond ?_ ?_ | with_reducible refine Rl.bind fun _ => ?_ | with_reducible refine Rl.bnd fun _ => ?_ | with_reducible refine rl_oNilCheck (fun _ _ => ?_) | with_reducible refine rl_loadD (fun _ => ?_) | with_reducible refine rl_storeD (fun _ => ?_) | with_reducible refine rl_indexD (fun _ => ?_) | with_reducible refine rl_fieldD (fun _ => ?_) | with_reducible refine rl_sliceD (fun _ => ?_) | with_reducible refine rl_buildSliceD (fun _ _ => ?_) | with_reducible refine rl_makeSliceD (fun _ _ => ?_) | with_reducible refine rl_oCallD hs (fun _ _ => ?_) | with_reducible refine rl_evOpC (fun _ _ => ?_) | refine rl_deepC (fun _ _ => ?_) (fun _ _ => ?_) (fun _ _ _ => ?_) (fun _ => ?_) ?_ | split | dsimp only)
set_option maxHeartbeats 8000000 in
theorem rl_matB {v : Value} {z : Nat} {H : AH} {k k' : Value → AH → Res} (hk : ∀ a0 a1, Rl S (k a0 a1) (k' a0 a1)) : Rl S (matB v z H k) (matB v z H k') := by
  unfold matB
  repeat' (first | exact hk _ _ | exact Rl.none | with_reducible refine Rl.cond ?_ ?_ | with_reducible refine Rl.bind fun _ => ?_ | with_reducible refine Rl.bnd fun _ => ?_ | refine rl_deepC (fun _ _ => ?_) (fun _ _ => ?_) (fun _ _ _ => ?_) (fun _ => ?_) ?_ | split | dsimp only)
theorem rl_evOpN {E : Env} (hd : E.pol.deep = true) (hs : SpecRl E) {orc : Orc} {o : Oper} {fr : Frame} {H : AH} {k k' : K} (hk : ∀ a b, Rl S (k a b) (k' a b)) : Rl S (evOpN E orc o fr H k) (evOpN E orc o fr H k') := by
  unfold evOpN
  rw [hd]
  exact rl_evOpD hs hk
theorem rl_guardR {ops : List Oper} {g : Option (Nat × Bool)} {fr : Frame} {x x' y y' : Frame → Res} (hx : ∀ a, Rl S (x a) (x' a)) (hy : ∀ a, Rl S (y a) (y' a)) : Rl S (guardR ops g fr x y) (guardR ops g fr x' y') := by
  unfold guardR
  repeat' (first | exact hx _ | exact hy _ | exact Rl.none | with_reducible refine Rl.cond ?_ ?_ | with_reducible refine Rl.bind fun _ => ?_ | split)
theorem rl_sureK {p : Pol} (hn : p.nrm = false) {op : Op} {fr : Frame} {x x' : Frame → Res} (hx : ∀ a, Rl S (x a) (x' a)) : Rl S (sureK p op fr x) (sureK p op fr x') := by
  unfold sureK
  rw [hn]
  exact hx _
theorem rl_evOps {E : Env} (hd : E.pol.deep = true) (hn : E.pol.nrm = false) (hs : SpecRl E) {orc : Orc} {ops l : List Oper} : ∀ {fr : Frame} {H : AH} {k k' : Frame → AH → Res}, (∀ a b, Rl S (k a b) (k' a b)) → Rl S (evOps E orc ops l fr H k) (evOps E orc ops l fr H k') := by
  induction l with
  | nil => intro fr H k k' hk; exact hk _ _
  | cons o l ih =>
    intro fr H k k' hk
    show Rl S (guardR ops o.guard fr (fun fr => sureK E.pol o.op fr fun fr => evOpN E orc o fr H fun v H => evOps E orc ops l (putF fr o.dst v) H k) (fun fr => evOps E orc ops l (putF fr o.dst undef) H k)) (guardR ops o.guard fr (fun fr => sureK E.pol o.op fr fun fr => evOpN E orc o fr H fun v H => evOps E orc ops l (putF fr o.dst v) H k') (fun fr => evOps E orc ops l (putF fr o.dst undef) H k'))
    refine rl_guardR (fun fr => ?_) (fun fr => ih hk)
    refine rl_sureK hn fun fr => ?_
    exact rl_evOpN hd hs fun v H => ih hk
theorem rl_evDraw {E : Env} (hd : E.pol.deep = true) (hn : E.pol.nrm = false) (hs : SpecRl E) {orc : Orc} {ops : List Oper} {b : Array Nat} {l : List Nat} : ∀ {memo : List (Nat × Nat)} {fr : Frame} {H : AH} {k k' : Frame → AH → Res}, (∀ a b, Rl S (k a b) (k' a b)) → Rl S (evDraw E orc ops b l memo fr H k) (evDraw E orc ops b l memo fr H k') := by
  induction l with
  | nil => intro memo fr H k k' hk; exact hk _ _
  | cons i l ih =>
    intro memo fr H k k' hk
    refine Rl.bind fun o => rl_guardR (fun fr => rl_sureK hn fun fr => ?_) (fun fr => ih hk)
    dsimp only
    split
    · exact rl_evOpN hd hs fun v H => ih hk
    · exact rl_evOpN hd hs fun v H => ih hk
    · exact rl_evOpN hd hs fun v H => ih hk
theorem rl_condR {fr : Frame} {c : Operand} {x x' y y' : Frame → Res} (hx : ∀ a, Rl S (x a) (x' a)) (hy : ∀ a, Rl S (y a) (y' a)) : Rl S (condR fr c x y) (condR fr c x' y') := by
  unfold condR condK
  repeat' (first | exact hx _ | exact hy _ | exact Rl.none | with_reducible refine Rl.cond ?_ ?_ | with_reducible refine Rl.bind fun _ => ?_ | with_reducible refine rl_asB (fun _ => ?_) | split)
theorem rl_evRegion {E : Env} (hd : E.pol.deep = true) (hn : E.pol.nrm = false) (hs : SpecRl E) {orc : Orc} {f : FuncId} {id : Nat} {ops : Array Oper} {draw : Bool} {fr : Frame} {H : AH} {k k' : KC} (hk : ∀ e a b, Rl S (k e a b) (k' e a b)) : Rl S (evRegion E orc f id ops draw fr H k) (evRegion E orc f id ops draw fr H k') := by
  unfold evRegion
  cases draw with
  | false => exact rl_evOps hd hn hs (hk _)
  | true =>
    unfold evDrawn evLit
    exact Rl.cond (rl_evDraw hd hn hs (hk _)) (Rl.cond (Rl.cond (rl_evOps hd hn hs fun _ _ => Rl.cond (hk _ _ _) Rl.none) Rl.none) Rl.none)
theorem rl_layG {fr : Frame} {H : AH} {k k' : Frame → AH → Res} (hk : ∀ a b, Rl S (k a b) (k' a b)) : Rl S (layG fr H k) (layG fr H k') := by
  unfold layG
  exact Rl.cond (Rl.cond (hk _ _) Rl.none) Rl.none
theorem rl_matF {l : List (Nat × Nat)} : ∀ {fr : Frame} {H : AH} {k k' : Frame → AH → Res}, (∀ a b, Rl S (k a b) (k' a b)) → Rl S (matF l fr H k) (matF l fr H k') := by
  induction l with
  | nil => intro fr H k k' hk; exact hk _ _
  | cons x l ih =>
    intro fr H k k' hk
    show Rl S (match getF fr x.1 with | some v => matB v x.2 H fun v H => matF l (setF fr x.1 (some v)) H k | none => matF l fr H k) (match getF fr x.1 with | some v => matB v x.2 H fun v H => matF l (setF fr x.1 (some v)) H k' | none => matF l fr H k')
    split
    · exact rl_matB fun v H => ih hk
    · exact ih hk
theorem rl_matC {l : List (Nat × Nat × Nat)} {fr : Frame} : ∀ {H : AH} {k k' : AH → Res}, (∀ a, Rl S (k a) (k' a)) → Rl S (matC l fr H k) (matC l fr H k') := by
  induction l with
  | nil => intro H k k' hk; exact hk _
  | cons x l ih =>
    intro H k k' hk
    unfold matC
    dsimp only
    repeat' (first | exact ih hk | exact Rl.none | with_reducible refine Rl.cond ?_ ?_ | with_reducible refine Rl.bind fun _ => ?_ | with_reducible refine rl_matB (fun _ _ => ?_) | split)
theorem rl_headG {M : Mats} {f id : Nat} {fr : Frame} {H : AH} {k k' : Frame → AH → Res} (hk : ∀ a b, Rl S (k a b) (k' a b)) : Rl S (headG M f id fr H k) (headG M f id fr H k') := by
  unfold headG
  exact rl_matF fun fr H => rl_matC fun H => rl_layG hk
def CRl (S : (Value × AH) → Res → Prop) (x : Frame → AH → KC → Res) : Prop := ∀ fr H k k', (∀ e a b, Rl S (k e a b) (k' e a b)) → Rl S (x fr H k) (x fr H k')
theorem rl_seqK {x : Frame → AH → KC → Res} (hx : CRl S x) {k k' : KC} (hk : ∀ e a b, Rl S (k e a b) (k' e a b)) : ∀ e a b, Rl S (seqK x k e a b) (seqK x k' e a b) := by
  intro e a b
  cases e with
  | normal => exact hx _ _ _ _ hk
  | exit i => exact hk _ _ _
  | ret => exact hk _ _ _
theorem rl_blockK {id : Nat} {k k' : KC} (hk : ∀ e a b, Rl S (k e a b) (k' e a b)) : ∀ e a b, Rl S (blockK id k e a b) (blockK id k' e a b) := by
  intro e a b
  cases e with
  | normal => exact hk _ _ _
  | exit i => exact Rl.cond (hk _ _ _) (hk _ _ _)
  | ret => exact hk _ _ _
theorem rl_clrK {ds : List Nat} {k k' : KC} (hk : ∀ e a b, Rl S (k e a b) (k' e a b)) : ∀ e a b, Rl S (clrK ds k e a b) (clrK ds k' e a b) := by
  intro e a b
  cases e <;> exact hk _ _ _
theorem rl_loopN {x : Frame → AH → KC → Res} (hx : CRl S x) : ∀ n, CRl S (loopN x n) := by
  intro n
  induction n with
  | zero => intro fr H k k' hk; exact Rl.none
  | succ n ih => intro fr H k k' hk; exact hx _ _ _ _ (rl_seqK ih hk)
theorem rl_loopG {x : Frame → AH → KC → Res} (hx : CRl S x) {M : Mats} {f id : Nat} : ∀ n, CRl S (loopG (headG M f id) x n) := by
  intro n
  induction n with
  | zero => intro fr H k k' hk; exact Rl.none
  | succ n ih =>
    intro fr H k k' hk
    exact hx _ _ _ _ (rl_seqK (x := fun fr H k => headG M f id fr H fun fr H => loopG (headG M f id) x n fr H k) (fun fr H k k' hk => rl_headG fun fr H => ih _ _ _ _ hk) hk)
theorem rl_evCode {E : Env} (hd : E.pol.deep = true) (hn : E.pol.nrm = false) (hs : SpecRl E) {orc : Orc} (m : Nat) (f : FuncId) : ∀ c, CRl S (evCode E orc (fun s => loopN s m) f c) := by
  intro c
  induction c with
  | skip => intro fr H k k' hk; exact hk _ _ _
  | region id ops draw => intro fr H k k' hk; exact rl_evRegion hd hn hs hk
  | seq a b iha ihb => intro fr H k k' hk; exact iha _ _ _ _ (rl_seqK ihb hk)
  | cond c a b iha ihb => intro fr H k k' hk; exact show Rl S (condR fr c (fun fr => evCode E orc (fun s => loopN s m) f a fr H k) (fun fr => evCode E orc (fun s => loopN s m) f b fr H k)) (condR fr c (fun fr => evCode E orc (fun s => loopN s m) f a fr H k') (fun fr => evCode E orc (fun s => loopN s m) f b fr H k')) from rl_condR (fun fr => iha _ _ _ _ hk) (fun fr => ihb _ _ _ _ hk)
  | block id a ih => intro fr H k k' hk; exact ih _ _ _ _ (rl_blockK hk)
  | loop a ih => intro fr H k k' hk; exact rl_loopN (x := fun fr H k => evCode E orc (fun s => loopN s m) f a fr H (clrK (headClear E.pol f a) k)) (fun fr H k k' hk => ih _ _ _ _ (rl_clrK hk)) m _ _ _ _ hk
  | exit id => intro fr H k k' hk; exact hk _ _ _
  | label l => intro fr H k k' hk; exact hk _ _ _
  | ret => intro fr H k k' hk; exact hk _ _ _
  | _ => intro fr H k k' hk; exact Rl.none
theorem rl_evCodeD {E : Env} (hd : E.pol.deep = true) (hn : E.pol.nrm = false) (hs : SpecRl E) {M : Mats} {orc : Orc} (m : Nat) (f : FuncId) : ∀ c, CRl S (evCodeD E M orc m f c) := by
  intro c
  induction c with
  | skip => intro fr H k k' hk; exact hk _ _ _
  | region id ops draw => intro fr H k k' hk; exact rl_evRegion hd hn hs hk
  | seq a b iha ihb => intro fr H k k' hk; exact iha _ _ _ _ (rl_seqK ihb hk)
  | cond c a b iha ihb => intro fr H k k' hk; exact show Rl S (condR fr c (fun fr => evCodeD E M orc m f a fr H k) (fun fr => evCodeD E M orc m f b fr H k)) (condR fr c (fun fr => evCodeD E M orc m f a fr H k') (fun fr => evCodeD E M orc m f b fr H k')) from rl_condR (fun fr => iha _ _ _ _ hk) (fun fr => ihb _ _ _ _ hk)
  | block id a ih => intro fr H k k' hk; exact ih _ _ _ _ (rl_blockK hk)
  | loop a ih => intro fr H k k' hk; exact rl_headG fun fr H => rl_loopG (x := fun fr H k => evCodeD E M orc m f a fr H (clrK (headClear E.pol f a) k)) (fun fr H k k' hk => ih _ _ _ _ (rl_clrK hk)) m _ _ _ _ hk
  | exit id => intro fr H k k' hk; exact hk _ _ _
  | label l => intro fr H k k' hk; exact hk _ _ _
  | ret => intro fr H k k' hk; exact hk _ _ _
  | _ => intro fr H k k' hk; exact Rl.none
theorem rl_resK {T : Ty} {fr : Frame} {H : AH} {rs : List ResultVar} : ∀ {k k' : List Value → Res}, (∀ a, Rl S (k a) (k' a)) → Rl S (resK T fr H rs k) (resK T fr H rs k') := by
  induction rs with
  | nil => intro k k' hk; exact hk _
  | cons r rs ih =>
    intro k k' hk
    unfold resK
    cases r with
    | tmp t => exact Rl.bind fun v => ih fun vs => hk _
    | cell t ty => exact Rl.bind fun a => rl_asPtr fun a => Rl.cond (rl_sizeT fun s => rl_loadN fun cs => ih fun vs => hk _) (rl_load1 fun v => Rl.cond (ih fun vs => hk _) Rl.none)
noncomputable def tupV (vs : List Value) : Value := match vs with | [v] => v | vs => .tuple ⟨vs⟩
noncomputable def endDK (E : Env) (fn : Func) (k : Value → Res) : KC
  | .exit _, _, _ => none
  | .normal, fr, H => resK E.T fr H fn.results.toList fun vs => keepVs E.T fn.resultTypes.toList vs H fun ds _ => k (tupV ds)
  | .ret, fr, H => resK E.T fr H fn.results.toList fun vs => keepVs E.T fn.resultTypes.toList vs H fun ds _ => k (tupV ds)
noncomputable def evBodyDK (E : Env) (M : Mats) (orc : Orc) (m : Nat) (f : FuncId) (as : List Value) (k : Value → Res) : Res :=
  (E.P.funcs[f]?).bind fun fn => fn.body.bind fun c => evCodeD E M orc m f c (initF fn.ntmps as) ⟨[], 0, []⟩ (endDK E fn k)
noncomputable def endMK (E : Env) (fn : Func) (k : K) : KC
  | .exit _, _, _ => none
  | .normal, fr, H => resK E.T fr H fn.results.toList fun vs => k (tupV vs) H
  | .ret, fr, H => resK E.T fr H fn.results.toList fun vs => k (tupV vs) H
noncomputable def evBodyMK (E : Env) (orc : Orc) (m : Nat) (f : FuncId) (as : List Value) (H : AH) (k : K) : Res :=
  (E.P.funcs[f]?).bind fun fn => fn.body.bind fun c => evCode E orc (fun s => loopN s m) f c (initF fn.ntmps as) H (endMK E fn k)
end
theorem evBodyDK_ok {E : Env} (hd : E.pol.deep = true) (hn : E.pol.nrm = false) (hs : SpecRl E) {M : Mats} {orc : Orc} {m : Nat} {f : FuncId} (ho : M.own f = false) {vs : List Value} {k : Value → Res} {r : Value × AH} (h : evBodyDK E M orc m f vs k = some r) :
    ∃ v, k v = some r ∧ evBodyD E M orc m f vs = some (v, ⟨[], 0, []⟩) := by
  unfold evBodyDK at h
  unfold evBodyD
  obtain ⟨fn, hfn, h⟩ := Option.bind_eq_some_iff.1 h
  obtain ⟨c, hc, h⟩ := Option.bind_eq_some_iff.1 h
  rw [hfn]
  simp only [Option.bind_some, hc]
  let S : (Value × AH) → Res → Prop := fun r x => ∃ v, k v = some r ∧ x = some (v, ⟨[], 0, []⟩)
  have key : ∀ fr H, Rl S (resK E.T fr H fn.results.toList fun vs => keepVs E.T fn.resultTypes.toList vs H fun ds _ => k (tupV ds)) (endR E M f fn fr H) := by
    intro fr H
    unfold endR
    refine rl_resK fun vs => ?_
    rw [ho, cond_false]
    unfold endK
    refine rl_keepVs fun ds H r hr => ⟨tupV ds, hr, ?_⟩
    cases ds with
    | nil => rfl
    | cons a l => cases l <;> rfl
  exact rl_evCodeD (S := S) hd hn hs m f c _ _ _ _ (fun e fr H => by
    cases e with
    | normal => exact key fr H
    | exit i => exact Rl.none
    | ret => exact key fr H) r h
theorem evBodyMK_ok {E : Env} (hd : E.pol.deep = true) (hn : E.pol.nrm = false) (hs : SpecRl E) {orc : Orc} {m : Nat} {f : FuncId} {vs : List Value} {H : AH} {k : K} {r : Value × AH} (h : evBodyMK E orc m f vs H k = some r) :
    ∃ v H', k v H' = some r ∧ evBody E orc (fun s => loopN s m) f vs H = some (v, H') := by
  unfold evBodyMK at h
  unfold evBody
  obtain ⟨fn, hfn, h⟩ := Option.bind_eq_some_iff.1 h
  obtain ⟨c, hc, h⟩ := Option.bind_eq_some_iff.1 h
  rw [hfn]
  simp only [Option.bind_some, hc]
  let S : (Value × AH) → Res → Prop := fun r x => ∃ v H', k v H' = some r ∧ x = some (v, H')
  have key : ∀ fr H, Rl S (resK E.T fr H fn.results.toList fun vs => k (tupV vs) H) (evEnd E fn .normal fr H) := by
    intro fr H
    show Rl S _ (resE E fr H fn.results.toList _)
    unfold resE
    rw [hn, cond_false]
    refine rl_resK fun vs r hr => ⟨tupV vs, H, hr, ?_⟩
    cases vs with
    | nil => rfl
    | cons a l => cases l <;> rfl
  exact rl_evCode (S := S) hd hn hs m f c _ _ _ _ (fun e fr H => by
    cases e with
    | normal => exact key fr H
    | exit i => exact Rl.none
    | ret => exact key fr H) r h
end Go.Proofs.Yteljeekapcenlaa.Ev
