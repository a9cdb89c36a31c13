/-
  Ev, part A: a deterministic evaluator of the program over an abstract memory: definitions only. No conditions.
-/
import Derived.Orders
namespace Go.Proofs.Yteljeekapcenlaa.Ev
open Go
inductive Blk where
  | cells (c : List Value)
  | map (es : List (Value × Value))
  | dead
  | bld (c : List Value)
  deriving Inhabited
structure AH where
  bs : List Blk
  floor : Nat
  lock : List Nat
  deriving Inhabited
noncomputable def getL {α : Type} (l : List α) : Nat → Option α :=
  List.rec (motive := fun _ => Nat → Option α) (fun _ => none) (fun x _ ih n => Nat.casesOn (motive := fun _ => Option α) n (some x) ih) l
namespace AH
noncomputable def len (H : AH) : Nat := H.bs.length
noncomputable def push (H : AH) (b : Blk) : AH := { H with bs := H.bs ++ [b] }
noncomputable def put (H : AH) (i : Nat) (b : Blk) : AH := { H with bs := H.bs.set i b }
noncomputable def wok (H : AH) (i : Nat) : Bool := Nat.ble H.floor i && !(H.lock.contains i)
noncomputable def row (H : AH) (i : Nat) : Option (List Value) :=
  match getL H.bs i with
  | some (.cells c) => some c
  | _ => none
noncomputable def mapAt (H : AH) (i : Nat) : Option (List (Value × Value)) :=
  match getL H.bs i with
  | some (.map es) => some es
  | _ => none
noncomputable def withLock (H : AH) (l : List Nat) : AH := { H with lock := l }
noncomputable def withFloor (H : AH) (n : Nat) : AH := { H with floor := n }
end AH
abbrev Res := Option (Value × AH)
abbrev Frame := List (Option Value)
abbrev K := Value → AH → Res
abbrev Orc := FuncId → List Value → AH → Res
structure Pol where
  mode : FuncId → Nat
  clear : FuncId → Nat → List Nat
  lit : TypeId → Bool := fun _ => false
  nrm : Bool := true
  deep : Bool := false
  spec : FuncId → Option (List Value → (Value → Res) → Res) := fun _ => none
  specM : FuncId → Option (List Value → AH → K → Res) := fun _ => none
  bits : Bool := false
noncomputable def plainN : Nat → Value → Bool
  | _, .bool _ | _, .int _ _ | _, .float _ _ | _, .complex _ _ _ | _, .string _ | _, .nilFunc | _, .nilIface => true
  | _, .pointer a => a.isNone
  | _, .slice a l c => a.isNone && Nat.beq l 0 && Nat.beq c 0
  | _, .map r => r.isNone
  | _, .chan r => r.isNone
  | n + 1, .func _ f c => f.toList.all (plainN n) && c.toList.all (plainN n)
  | n + 1, .iface _ v => plainN n v
  | n + 1, .agg cs => cs.toList.all (plainN n)
  | n + 1, .tuple vs => vs.toList.all (plainN n)
  | 0, _ => false
noncomputable def plain (v : Value) : Bool := plainN 6 v
noncomputable def solid : Value → Bool
  | .tuple _ => false
  | _ => true
noncomputable def oneCell : Value → Bool
  | .agg _ | .tuple _ => false
  | _ => true
inductive Kd where
  | bool | int (k : IntKind) | str | ptr | slice | map | any
  deriving Inhabited
structure TI where
  d : TypeDesc
  size : Nat
  bytes : Nat
  zero : List Value
  kd : List Kd
  agg : Bool
  eqs : Bool
abbrev Ty := List (Option TI)
noncomputable def getL0 {α : Type} (l : List (Option α)) : Nat → Option α :=
  List.rec (motive := fun _ => Nat → Option α) (fun _ => none) (fun x _ ih n => Nat.casesOn (motive := fun _ => Option α) n x ih) l
noncomputable def Ty.get (T : Ty) (t : TypeId) : Option TI := getL0 T t
noncomputable def Ty.und (T : Ty) (t : TypeId) : Option TypeDesc := match T.get t with | some i => some i.d | none => none
noncomputable def kindP (P : Program) (t : TypeId) : Kd :=
  match P.underlying t with
  | some .bool => .bool
  | some (.int k) => .int k
  | some .string => .str
  | some (.pointer _) => .ptr
  | some (.slice _) => .slice
  | some (.map _ _) => .map
  | _ => .any
noncomputable def kindsN (P : Program) : Nat → TypeId → List Kd
  | 0, _ => []
  | d + 1, t =>
    match P.underlying t with
    | some (.struct fs) => fs.toList.flatMap fun f => kindsN P d f.type
    | some (.array n e) => (List.replicate n (kindsN P d e)).flatten
    | _ => [kindP P t]
noncomputable def flatEqN (P : Program) : Nat → TypeId → Option Nat
  | 0, _ => none
  | d + 1, t =>
    match P.underlying t with
    | some .bool | some (.int _) | some .string => cond (decide ((P.info? t).map (·.size) = some 1)) (some 1) none
    | some (.struct fs) =>
      cond (P.stoodInHeld t) none
        (fs.toList.foldl (fun acc f => acc.bind fun n =>
          cond (f.name != "_" && Nat.beq f.offset n) ((flatEqN P d f.type).bind fun m => cond (decide ((P.info? f.type).map (·.size) = some m)) (some (n + m)) none) none) (some 0))
    | some (.array n e) => (flatEqN P d e).bind fun m => cond (decide ((P.info? e).map (·.size) = some m)) (some (n * m)) none
    | _ => none
noncomputable def aggP (P : Program) (t : TypeId) : Bool :=
  match P.underlying t with
  | some (.struct _) | some (.array _ _) => true
  | _ => false
noncomputable def tiOf (P : Program) (t : TypeId) : Option TI :=
  (P.info? t).bind fun i => (P.underlying t).bind fun d => i.zero.bind fun z =>
    cond (plain z && solid z && Nat.beq (match z with | .agg cs => cs.toList | v => [v]).length i.size && (match z with | .agg _ => aggP P t | _ => !aggP P t))
      (some ⟨d, i.size, i.bytes, (match z with | .agg cs => cs.toList | v => [v]), kindsN P 8 t, aggP P t, decide (flatEqN P 8 t = some i.size) && !P.eqGuardType P.depth t⟩) none
noncomputable def Fits (P : Program) (T : Ty) : Prop := ∀ t i, T.get t = some i → tiOf P t = some i
theorem fits_of {P : Program} {T : Ty} (n : Nat) (h : (List.range n).map (tiOf P) = T) : Fits P T := by
  intro t i hi
  subst h
  unfold Ty.get at hi
  have key : ∀ (l : List Nat) (t : Nat) i, getL0 (l.map (tiOf P)) t = some i → ∃ u, l[t]? = some u ∧ tiOf P u = some i := by
    intro l
    induction l with
    | nil => intro t i h; exact absurd h (by show none = some i → False; simp)
    | cons x xs ih =>
      intro t i h
      cases t with
      | zero => exact ⟨x, rfl, h⟩
      | succ t => exact ih t i h
  obtain ⟨u, hu, h⟩ := key _ _ _ hi
  obtain ⟨hlt, rfl⟩ := List.getElem?_eq_some_iff.1 hu
  simpa using h
noncomputable def kinds (T : Ty) (t : TypeId) : List Kd := match T.get t with | some i => i.kd | none => []
noncomputable def kindOf (T : Ty) (t : TypeId) : Kd := match kinds T t with | k :: _ => k | [] => .any
noncomputable def isAggT (T : Ty) (t : TypeId) : Bool := match T.get t with | some i => i.agg | none => false
noncomputable def Kd.destr : Kd → Value → (Value → Res) → Res
  | .bool, v, k => match v with | .bool b => k (.bool b) | _ => none
  | .int kd, v, k => match v with | .int kd' n => cond (decide (kd' = kd)) (k (.int kd n)) none | _ => none
  | .str, v, k => match v with | .string s => k (.string s) | _ => none
  | .ptr, v, k => match v with | .pointer a => k (.pointer a) | _ => none
  | .slice, v, k => match v with | .slice a l c => k (.slice a l c) | _ => none
  | .map, v, k => match v with | .map r => k (.map r) | _ => none
  | .any, v, k => cond (oneCell v) (k v) none
noncomputable def destrL (ks : List Kd) : List Value → (List Value → Res) → Res :=
  List.rec (motive := fun _ => List Value → (List Value → Res) → Res)
    (fun vs k => List.casesOn vs (k []) (fun _ _ => none))
    (fun kd _ ih vs k => List.casesOn vs none (fun v vs => kd.destr v fun v => ih vs fun vs => k (v :: vs))) ks
noncomputable def destrV (T : Ty) (t : TypeId) (v : Value) (k : Value → Res) : Res :=
  cond (isAggT T t)
    (match v with
     | .agg cs => destrL (kinds T t) cs.toList fun l => k (.agg l.toArray)
     | _ => none)
    ((kindOf T t).destr v k)
noncomputable def destrT (T : Ty) (ts : List TypeId) : List Value → (List Value → Res) → Res :=
  List.rec (motive := fun _ => List Value → (List Value → Res) → Res)
    (fun vs k => List.casesOn vs (k []) (fun _ _ => none))
    (fun t _ ih vs k => List.casesOn vs none (fun v vs => destrV T t v fun v => ih vs fun vs => k (v :: vs))) ts
noncomputable def destrRes (T : Ty) (ts : List TypeId) (v : Value) (k : Value → Res) : Res :=
  match ts with
  | [t] => destrV T t v k
  | _ => match v with
    | .tuple vs => destrT T ts vs.toList fun l => k (.tuple l.toArray)
    | _ => none
noncomputable def Kd.flat : Kd → Bool
  | .bool | .int _ | .str => true
  | _ => false
noncomputable def flatT (T : Ty) (t : TypeId) : Bool := !(kinds T t).isEmpty && (kinds T t).all Kd.flat
noncomputable def flatTs (T : Ty) (ts : List TypeId) : Bool := ts.all (flatT T)
noncomputable def getF (fr : Frame) : Nat → Option Value :=
  List.rec (motive := fun _ => Nat → Option Value) (fun _ => none)
    (fun x _ ih n => Nat.casesOn (motive := fun _ => Option Value) n x (fun m => ih m)) fr
noncomputable def setF (fr : Frame) : Nat → Option Value → Frame :=
  List.rec (motive := fun _ => Nat → Option Value → Frame) (fun _ _ => [])
    (fun x xs ih n v => Nat.casesOn (motive := fun _ => Frame) n (v :: xs) (fun m => x :: ih m v)) fr
noncomputable def arg (fr : Frame) (x : Operand) : Option Value :=
  match x with
  | .tmp t => getF fr t
  | .const v => cond (plain v) (some v) none
  | .global _ => none
  | .func f => some (.func (.func f) #[] #[])
noncomputable def args (fr : Frame) (xs : List Operand) : Option (List Value) :=
  List.rec (motive := fun _ => Option (List Value)) (some []) (fun x _ ih => (arg fr x).bind fun v => ih.bind fun vs => some (v :: vs)) xs
noncomputable def parts (fr : Frame) (xs : List (Nat × Operand)) : Option (List (Nat × Value)) :=
  List.rec (motive := fun _ => Option (List (Nat × Value))) (some []) (fun x _ ih => (arg fr x.2).bind fun v => ih.bind fun vs => some ((x.1, v) :: vs)) xs
noncomputable def putF (fr : Frame) (d : Option Tmp) (v : Value) : Frame :=
  match d with
  | some d => setF fr d (some v)
  | none => fr
noncomputable def clearF (fr : Frame) (ds : List Nat) : Frame :=
  List.rec (motive := fun _ => Frame) fr (fun d _ ih => setF ih d none) ds
noncomputable def initF (n : Nat) (as : List Value) : Frame := as.map some ++ List.replicate (n - as.length) none
noncomputable def addA (a : Addr) (n : Nat) : Addr := ⟨a.block, a.off + n, none⟩
noncomputable def dropL {α : Type} (l : List α) : Nat → List α :=
  List.rec (motive := fun _ => Nat → List α) (fun _ => []) (fun x xs ih n => Nat.casesOn (motive := fun _ => List α) n (x :: xs) ih) l
noncomputable def takeL {α : Type} (l : List α) : Nat → Option (List α) :=
  List.rec (motive := fun _ => Nat → Option (List α)) (fun n => Nat.casesOn (motive := fun _ => Option (List α)) n (some []) (fun _ => none))
    (fun x _ ih n => Nat.casesOn (motive := fun _ => Option (List α)) n (some []) (fun m => (ih m).bind fun l => some (x :: l))) l
noncomputable def loadN (H : AH) (a : Addr) (n : Nat) (k : List Value → Res) : Res :=
  (H.row a.block).bind fun c => (takeL (dropL c a.off) n).bind k
noncomputable def load1 (H : AH) (a : Addr) (k : Value → Res) : Res :=
  (H.row a.block).bind fun c => (getL c a.off).bind k
noncomputable def setN (c : List Value) (vs : List Value) : Nat → Option (List Value) :=
  List.rec (motive := fun _ => List Value → Nat → Option (List Value))
    (fun vs o => List.casesOn vs (Nat.casesOn (motive := fun _ => Option (List Value)) o (some []) (fun _ => none)) (fun _ _ => none))
    (fun x xs ih vs o => Nat.casesOn (motive := fun _ => Option (List Value)) o
      (List.casesOn vs (some (x :: xs)) (fun v vs => (ih vs 0).bind fun l => some (v :: l)))
      (fun o => (ih vs o).bind fun l => some (x :: l))) c vs
noncomputable def storeN (H : AH) (a : Addr) (vs : List Value) (k : AH → Res) : Res :=
  (H.row a.block).bind fun c =>
    cond (H.wok a.block && vs.all oneCell) ((setN c vs a.off).bind fun c => k (H.put a.block (.cells c))) none
noncomputable def cellsOf (v : Value) : List Value :=
  match v with
  | .agg cs => cs.toList
  | v => [v]
noncomputable def asB (v : Value) (k : Bool → Res) : Res := match v with | .bool b => k b | _ => none
noncomputable def asPtr (v : Value) (k : Addr → Res) : Res :=
  match v with
  | .pointer a => (match a with | some a => k a | none => none)
  | _ => none
noncomputable def asI (v : Value) (k : IntKind → Int → Res) : Res := match v with | .int kd n => k kd n | _ => none
noncomputable def bitsOp (op : BinOp) (k : IntKind) (x y : Int) : Int :=
  let a := BitVec.ofInt k.bits x
  let b := BitVec.ofInt k.bits y
  match op with
  | .and => k.wrap (a &&& b).toNat
  | .or => k.wrap (a ||| b).toNat
  | .xor => k.wrap (a ^^^ b).toNat
  | _ => k.wrap (a &&& ~~~b).toNat
noncomputable def ltI (x y : Int) : Bool :=
  match x, y with
  | .ofNat a, .ofNat b => Nat.blt a b
  | .negSucc _, .ofNat _ => true
  | .ofNat _, .negSucc _ => false
  | .negSucc a, .negSucc b => Nat.blt b a
noncomputable def leI (x y : Int) : Bool :=
  match x, y with
  | .ofNat a, .ofNat b => Nat.ble a b
  | .negSucc _, .ofNat _ => true
  | .ofNat _, .negSucc _ => false
  | .negSucc a, .negSucc b => Nat.ble b a
theorem ltI_eq (x y : Int) : ltI x y = decide (x < y) := by
  cases x <;> cases y <;> simp only [ltI] <;> rw [Bool.eq_iff_iff] <;> simp [Nat.blt_eq] <;> omega
theorem leI_eq (x y : Int) : leI x y = decide (x ≤ y) := by
  cases x <;> cases y <;> simp only [leI] <;> rw [Bool.eq_iff_iff] <;> simp <;> omega
noncomputable def binInt (op : BinOp) (k : IntKind) (x y : Int) (c : Value → Res) : Res :=
  match op with
  | .add => c (.int k (k.wrap (x + y)))
  | .sub => c (.int k (k.wrap (x - y)))
  | .mul => c (.int k (k.wrap (x * y)))
  | .quo => cond (decide (y = 0)) none (c (.int k (k.wrap (x.tdiv y))))
  | .rem => cond (decide (y = 0)) none (c (.int k (x.tmod y)))
  | .and => c (.int k (bitsOp .and k x y))
  | .or => c (.int k (bitsOp .or k x y))
  | .xor => c (.int k (bitsOp .xor k x y))
  | .andNot => c (.int k (bitsOp .andNot k x y))
  | .eql => c (.bool (x == y))
  | .neq => c (.bool (x != y))
  | .lss => c (.bool (ltI x y))
  | .leq => c (.bool (leI x y))
  | .gtr => c (.bool (ltI y x))
  | .geq => c (.bool (leI y x))
  | _ => none
noncomputable def shiftInt (op : BinOp) (k : IntKind) (x y : Int) (c : Value → Res) : Res :=
  cond (decide (y < 0)) none
    (match op with
     | .shl => c (.int k (k.wrap (x * 2 ^ min y.toNat k.bits)))
     | .shr => c (.int k (x.fdiv (2 ^ min y.toNat k.bits)))
     | _ => none)
noncomputable def binStr (op : BinOp) (x y : ByteArray) (c : Value → Res) : Res :=
  match op with
  | .add => cond (decide (((x.size + y.size : Nat) : Int) ≤ IntKind.i64.max)) (c (.string (x ++ y))) none
  | .eql => c (.bool (x.toList == y.toList))
  | .neq => c (.bool (!(x.toList == y.toList)))
  | .lss => c (.bool (Op.bytesLess x.toList y.toList))
  | .gtr => c (.bool (!(Op.bytesLess x.toList y.toList || x.toList == y.toList)))
  | .leq => c (.bool (Op.bytesLess x.toList y.toList || x.toList == y.toList))
  | .geq => c (.bool (!Op.bytesLess x.toList y.toList))
  | _ => none
noncomputable def eqCell (kd : Kd) (x y : Value) (c : Bool → Res) : Res :=
  match kd with
  | .bool => (match x with | .bool a => (match y with | .bool b => c (a == b) | _ => none) | _ => none)
  | .int k => (match x with | .int ka a => (match y with | .int kb b => cond (decide (ka = k) && decide (kb = k)) (c (a == b)) none | _ => none) | _ => none)
  | .str => (match x with | .string a => (match y with | .string b => c (a == b) | _ => none) | _ => none)
  | _ => none
noncomputable def eqCells (ks : List Kd) : List Value → List Value → (Bool → Res) → Res :=
  List.rec (motive := fun _ => List Value → List Value → (Bool → Res) → Res)
    (fun xs ys c => List.casesOn xs (List.casesOn ys (c true) (fun _ _ => none)) (fun _ _ => none))
    (fun kd _ ih xs ys c => List.casesOn xs none (fun x xs => List.casesOn ys none (fun y ys => eqCell kd x y fun a => ih xs ys fun b => c (a && b)))) ks
noncomputable def flatEq (T : Ty) (t : TypeId) (n : Nat) : Bool := match T.get t with | some i => i.eqs && Nat.beq i.size n | none => false
noncomputable def eqV (T : Ty) (t : TypeId) (x y : Value) (c : Bool → Res) : Res :=
  match x with
  | .bool a => (match y with
    | .bool b => cond (match T.und t with | some .bool => true | _ => false) (c (a == b)) none
    | _ => none)
  | .agg xs => (match y with
    | .agg ys => cond (flatEq T t xs.toList.length && isAggT T t) (eqCells (kinds T t) xs.toList ys.toList c) none
    | _ => none)
  | .pointer a => (match y with
    | .pointer b => cond ((match T.und t with | some (.pointer _) => true | _ => false) && (a.isNone || b.isNone)) (c (a.isNone && b.isNone)) none
    | _ => none)
  | .slice a _ _ => (match y with
    | .slice b _ _ => cond ((match T.und t with | some (.slice _) => true | _ => false) && (a.isNone || b.isNone)) (c (a.isNone && b.isNone)) none
    | _ => none)
  | .map a => (match y with
    | .map b => cond ((match T.und t with | some (.map _ _) => true | _ => false) && (a.isNone || b.isNone)) (c (a.isNone && b.isNone)) none
    | _ => none)
  | _ => none
noncomputable def opEq (T : Ty) (op : BinOp) (t : TypeId) (x y : Value) (c : Value → Res) : Res :=
  match op with
  | .eql => eqV T t x y fun b => c (.bool b)
  | .neq => eqV T t x y fun b => c (.bool (!b))
  | _ => none
noncomputable def isShift : BinOp → Bool
  | .shl | .shr => true
  | _ => false
noncomputable def opBin (T : Ty) (op : BinOp) (t : TypeId) (x y : Value) (c : Value → Res) : Res :=
  match x with
  | .int k a => (match y with
    | .int k' b => cond (isShift op) (shiftInt op k a b c) (cond (decide (k = k')) (binInt op k a b c) none)
    | _ => none)
  | .string a => (match y with
    | .string b => binStr op a b c
    | _ => none)
  | x => opEq T op t x y c
noncomputable def opUn (op : UnOp) (x : Value) (c : Value → Res) : Res :=
  match x with
  | .int k n => (match op with
    | .neg => c (.int k (k.wrap (0 - n)))
    | .xor => c (.int k (bitsOp .xor k (if k.signed then -1 else k.max) n))
    | _ => none)
  | .bool b => (match op with
    | .not => c (.bool (!b))
    | _ => none)
  | _ => none
noncomputable def boundK (fr : Frame) (x : Option Operand) (dflt : Nat) (most : Nat) (k : Nat → Res) : Res :=
  match x with
  | none => k dflt
  | some x => (arg fr x).bind fun v => asI v fun _ i => cond (decide (0 ≤ i) && decide (i ≤ most)) (k i.toNat) none
noncomputable def boundsK (fr : Frame) (len cap : Nat) (lo hi mx : Option Operand) (k : Nat → Nat → Nat → Res) : Res :=
  boundK fr mx cap cap fun m =>
    (match hi, mx with
     | some _, some _ => boundK fr hi len m
     | some _, none => boundK fr hi len cap
     | none, none => fun k => k len
     | none, some _ => fun _ => none) fun h =>
    boundK fr lo 0 h fun l => k l h m
noncomputable def zeroOf (T : Ty) (t : TypeId) (k : List Value → Res) : Res := (T.get t).bind fun i => k i.zero
noncomputable def sizeT (T : Ty) (t : TypeId) (k : Nat → Res) : Res := (T.get t).bind fun i => k i.size
noncomputable def sliceHead (a : Addr) (mx : Option Operand) (size l h m : Nat) : Value :=
  match a.spot with
  | none => .slice (some ⟨a.block, a.off + cond (Nat.beq m l) 0 (l * size), none⟩) (h - l) (m - l)
  | some sz => match mx with
    | some _ => cond (Nat.beq sz 0) (.slice (some ⟨a.block, 0, some 0⟩) 0 0) (.slice (some ⟨a.block, a.off + cond (Nat.beq m l) 0 (l * size), none⟩) (h - l) (m - l))
    | none => cond (Nat.beq m l) (.slice (some ⟨a.block, 0, some 0⟩) 0 0) (.slice (some ⟨a.block, a.off + l * size, some sz⟩) (h - l) (m - l))
noncomputable def opSlice (T : Ty) (fr : Frame) (t : TypeId) (x : Value) (lo hi mx : Option Operand) (k : Value → Res) : Res :=
  match T.und t with
  | some .string => (match x with
    | .string s => (match mx with
      | none => boundsK fr s.size s.size lo hi none fun l h _ => k (.string (s.extract l h))
      | some _ => none)
    | _ => none)
  | some (.slice e) => (match x with
    | .slice a len cap => sizeT T e fun size => cond (Nat.ble len cap)
      (match a with
      | some a => boundsK fr len cap lo hi mx fun l h m => k (sliceHead a mx size l h m)
      | none => cond (Nat.beq cap 0) (boundsK fr len cap lo hi mx fun _ _ _ => k (.slice none 0 0)) none) none
    | _ => none)
  | some (.array n e) => asPtr x fun a => sizeT T e fun size => boundsK fr n n lo hi mx fun l h m =>
        k (.slice (some ⟨a.block, a.off + cond (Nat.beq m l) 0 (l * size), none⟩) (h - l) (m - l))
  | _ => none
noncomputable def zeros (z : List Value) (n : Nat) : List Value :=
  Nat.rec (motive := fun _ => List Value) [] (fun _ ih => z ++ ih) n
noncomputable def opMakeSlice (T : Ty) (t : TypeId) (l c : Value) (H : AH) (k : K) : Res :=
  match T.und t with
  | some (.slice e) => asI l fun _ l => asI c fun _ c => (T.get e).bind fun i =>
    cond (decide (0 ≤ l) && decide (l ≤ c) && decide (c ≤ 2 ^ 40) && decide (i.bytes * c ≤ 2 ^ 46))
      (zeroOf T e fun z => cond (decide (i.size = z.length) && decide (0 < i.size)) (k (.slice (some ⟨H.len, 0, none⟩) l.toNat c.toNat) (H.push (.cells (zeros z c.toNat)))) none) none
  | _ => none
noncomputable def fieldsOf (T : Ty) (t : TypeId) : List Field :=
  match T.und t with
  | some (.struct fs) => fs.toList
  | _ => []
noncomputable def opFieldAddr (T : Ty) (t : TypeId) (x : Value) (f : Nat) (k : Value → Res) : Res :=
  match x with
  | .pointer (some a) => (getL (fieldsOf T t) f).bind fun fd => sizeT T fd.type fun s =>
      cond (decide (s = 0)) none (k (.pointer (some ⟨a.block, a.off + fd.offset, none⟩)))
  | _ => none
noncomputable def pickL (l : List Value) (i : Nat) (k : Value → Res) : Nat → Res :=
  List.rec (motive := fun _ => Nat → Res) (fun _ => none) (fun x _ ih j => cond (Nat.beq i j) (k x) (ih (j + 1))) l
noncomputable def partK (T : Ty) (t : TypeId) (cs : List Value) (off : Nat) (k : Value → Res) : Res :=
  cond (isAggT T t) (sizeT T t fun s => (takeL (dropL cs off) s).bind fun l => k (.agg l.toArray)) (pickL cs off k 0)
noncomputable def opField (T : Ty) (t : TypeId) (x : Value) (f : Nat) (k : Value → Res) : Res :=
  match x with
  | .agg cs => (getL (fieldsOf T t) f).bind fun fd => cond (T.get fd.type).isSome (partK T fd.type cs.toList fd.offset k) none
  | _ => none
noncomputable def opIndexAddr (T : Ty) (t : TypeId) (x ix : Value) (k : Value → Res) : Res :=
  asI ix fun _ i =>
  match T.und t with
  | some (.slice e) => match x with
    | .slice (some a) len _ => sizeT T e fun s => cond (decide (0 ≤ i) && decide (i < len)) (k (.pointer (some ⟨a.block, a.off + i.toNat * s, none⟩))) none
    | _ => none
  | some (.array n e) => match x with
    | .pointer (some a) => sizeT T e fun s => cond (decide (0 ≤ i) && decide (i < n)) (k (.pointer (some ⟨a.block, a.off + i.toNat * s, none⟩))) none
    | _ => none
  | _ => none
noncomputable def opIndex (T : Ty) (t : TypeId) (x ix : Value) (k : Value → Res) : Res :=
  asI ix fun _ i =>
  match T.und t with
  | some (.array n e) => match x with
    | .agg cs => sizeT T e fun s => cond (decide (0 ≤ i) && decide (i < n)) (partK T e cs.toList (i.toNat * s) k) none
    | _ => none
  | some .string => match x with
    | .string s => cond (decide (0 ≤ i)) ((s[i.toNat]?).bind fun b => k (.int .u8 b.toNat)) none
    | _ => none
  | _ => none
noncomputable def placesOf (T : Ty) (t : TypeId) : Option (Nat → Option (Nat × Nat)) :=
  match T.und t with
  | some (.struct fs) => cond (fs.toList.all fun f => (T.get f.type).isSome) (some fun i => (getL fs.toList i).bind fun f => (T.get f.type).bind fun x => some (f.offset, x.size)) none
  | some (.array _ e) => (T.get e).bind fun x => some fun i => some (i * x.size, x.size)
  | _ => none
noncomputable def fillL (place : Nat → Option (Nat × Nat)) (cells : List Value) (ps : List (Nat × Value)) : Option (List Value) :=
  List.rec (motive := fun _ => List Value → Option (List Value)) (fun cells => some cells)
    (fun x _ ih cells => (place x.1).bind fun p =>
      cond (solid x.2 && Nat.beq (cellsOf x.2).length p.2) ((setN cells (cellsOf x.2) p.1).bind ih) none) ps cells
noncomputable def opBuild (T : Ty) (t : TypeId) (ps : List (Nat × Value)) (k : Value → Res) : Res :=
  zeroOf T t fun z => (placesOf T t).bind fun pl => (fillL pl z ps).bind fun c => k (.agg c.toArray)
noncomputable def opBuildSlice (T : Ty) (t : TypeId) (n : Nat) (ps : List (Nat × Value)) (H : AH) (k : K) : Res :=
  match T.und t with
  | some (.slice e) => sizeT T e fun s => cond (decide (n * s ≤ 2 ^ 24) && decide (0 < s)) (zeroOf T e fun z =>
      cond (decide (z.length = s)) ((fillL (fun i => some (i * s, s)) (zeros z n) ps).bind fun c => k (.slice (some ⟨H.len, 0, none⟩) n n) (H.push (.cells c))) none) none
  | _ => none
noncomputable def bytesOf (cs : List Value) : Option ByteArray :=
  cs.foldl (fun (acc : Option ByteArray) c => acc.bind fun s => match c with | .int k n => (match k with | .u8 => some (s.push (UInt8.ofNat n.toNat)) | _ => none) | _ => none) (some ByteArray.empty)
noncomputable def isBytes (T : Ty) (t : TypeId) : Bool :=
  match T.und t with
  | some (.slice e) => (match T.und e with | some (.int k) => (match k with | .u8 => true | _ => false) | _ => false)
  | _ => false
noncomputable def opConvert (T : Ty) (src dst : TypeId) (x : Value) (H : AH) (k : K) : Res :=
  match T.und dst with
  | some (.int kd) => (match x with | .int _ n => cond (T.get src).isSome (k (.int kd (kd.wrap n)) H) none | _ => none)
  | some .string => (match x with
    | .string s => cond (T.get src).isSome (k (.string s) H) none
    | .slice a l _ => cond (isBytes T src) (match a with
        | none => k (.string .empty) H
        | some a => cond (Nat.beq l 0) (k (.string .empty) H) (loadN H a l fun cs => (bytesOf cs).bind fun s => k (.string s) H)) none
    | _ => none)
  | _ => none
noncomputable def keyOk (T : Ty) (t : TypeId) (key : Value) : Bool :=
  solid key && flatEq T t (cellsOf key).length && (match key with | .agg _ => isAggT T t | _ => !isAggT T t)
noncomputable def Kd.holds : Kd → Value → Bool
  | .bool, v => match v with | .bool _ => true | _ => false
  | .int k, v => match v with | .int k' _ => decide (k' = k) | _ => false
  | _, _ => false
noncomputable def okCells (ks : List Kd) : List Value → Bool :=
  List.rec (motive := fun _ => List Value → Bool) (fun vs => List.casesOn vs true (fun _ _ => false)) (fun k _ ih vs => List.casesOn vs false (fun v vs => k.holds v && ih vs)) ks
noncomputable def keyFit (T : Ty) (t : TypeId) (key : Value) : Bool := keyOk T t key && okCells (kinds T t) (cellsOf key)
noncomputable def findK (ks : List Kd) (key : Value) (es : List (Value × Value)) : (Option Value → Res) → Res :=
  List.rec (motive := fun _ => (Option Value → Res) → Res) (fun k => k none)
    (fun e _ ih k => eqCells ks (cellsOf key) (cellsOf e.1) fun b => cond b (k (some e.2)) (ih k)) es
noncomputable def entriesK (T : Ty) (t : TypeId) (H : AH) (x key : Value) (k : Nat → List (Value × Value) → Res) : Res :=
  match x with
  | .map r => (match r with
    | some r => (H.mapAt r).bind fun es => cond (keyFit T t key && es.all (fun e => keyFit T t e.1)) (k r es) none
    | none => none)
  | _ => none
noncomputable def opLookup (T : Ty) (t : TypeId) (x key : Value) (commaOk : Bool) (H : AH) (k : Value → Res) : Res :=
  match T.und t with
  | some (.map kt e) => entriesK T kt H x key fun _ es => findK (kinds T kt) key es fun
        | some v => k (cond commaOk (.tuple #[v, .bool true]) v)
        | none => zeroOf T e fun z => cond (isAggT T e) (k (cond commaOk (.tuple #[.agg z.toArray, .bool false]) (.agg z.toArray)))
            (k (cond commaOk (.tuple #[z.headD undef, .bool false]) (z.headD undef)))
  | _ => none
noncomputable def updK (ks : List Kd) (key v : Value) (es : List (Value × Value)) : (List (Value × Value) → Res) → Res :=
  List.rec (motive := fun _ => (List (Value × Value) → Res) → Res) (fun k => k [(key, v)])
    (fun e es ih k => eqCells ks (cellsOf key) (cellsOf e.1) fun b => cond b (k ((e.1, v) :: es)) (ih fun l => k (e :: l))) es
noncomputable def opUpdate (T : Ty) (t : TypeId) (m key v : Value) (H : AH) (k : AH → Res) : Res :=
  match T.und t with
  | some (.map kt _) => cond (solid v) (entriesK T kt H m key fun r es => cond (H.wok r) (updK (kinds T kt) key v es fun es => k (H.put r (.map es))) none) none
  | _ => none
noncomputable def firstK (H : AH) (s n : Nat) (x : Value) (k : List Value → Res) : Res :=
  match x with
  | .slice oa l _ => cond (Nat.beq n 0) (k []) (cond (Nat.ble n l) (match oa with | some a => loadN H a (n * s) k | none => none) none)
  | .string b => cond (Nat.beq n b.size) (k (b.toList.map fun c => .int .u8 c.toNat)) none
  | _ => none
noncomputable def lenK (x : Value) (k : Nat → Res) : Res :=
  match x with
  | .slice _ n _ => k n
  | .string s => k s.size
  | _ => none
noncomputable def appendTo (i : TI) (a : Addr) (len cap n : Nat) (new : List Value) (H : AH) (k : K) : Res :=
  cond (Nat.ble (len + n) cap)
    (cond (Nat.beq n 0) (k (.slice (some a) (len + n) cap) H) (storeN H ⟨a.block, a.off + len * i.size, none⟩ new fun H => k (.slice (some a) (len + n) cap) H))
    (cond (decide ((len + n) * i.bytes ≤ 2 ^ 47) && decide (len + n ≤ 2 ^ 47))
      (loadN H ⟨a.block, a.off, none⟩ (len * i.size) fun old =>
       match a.spot with
       | none => k (.slice (some ⟨H.len, 0, some i.size⟩) (len + n) (len + n)) (H.push (.cells (old ++ new)))
       | some sz => (H.row a.block).bind fun c => cond (Nat.beq sz i.size && Nat.beq (a.off + cap * i.size) c.length && H.wok a.block)
           (k (.slice (some ⟨H.len, 0, some i.size⟩) (len + n) (len + n)) ((H.put a.block .dead).push (.cells (old ++ new)))) none) none)
noncomputable def appendNil (i : TI) (n : Nat) (new : List Value) (H : AH) (k : K) : Res :=
  cond (Nat.beq n 0) (k (.slice none 0 0) H)
    (cond (decide (n * i.bytes ≤ 2 ^ 47) && decide (n ≤ 2 ^ 47)) (k (.slice (some ⟨H.len, 0, some i.size⟩) n n) (H.push (.cells new))) none)
noncomputable def opAppend (T : Ty) (ts : List TypeId) (vs : List Value) (H : AH) (k : K) : Res :=
  match ts with
  | t :: us => (match us with
    | u :: _ => (match vs with
      | s :: xs => (match xs with
        | x :: _ => (match T.und t with
          | some (.slice e) => cond (match T.und u with | some (.slice _) | some .string => true | _ => false) ((T.get e).bind fun i => match s with
            | .slice base len cap => lenK x fun n => firstK H i.size n x fun new =>
              cond (Nat.blt 0 i.size && Nat.beq i.zero.length i.size && new.all oneCell && Nat.beq new.length (n * i.size)) (match base with
                | some a => appendTo i a len cap n new H k
                | none => cond (Nat.beq len 0 && Nat.beq cap 0) (appendNil i n new H k) none) none
            | _ => none) none
          | _ => none)
        | _ => none)
      | _ => none)
    | _ => none)
  | _ => none
abbrev dS (sz : Nat) (cs : List Value) : Value := .iface sz (.agg ⟨.chan (some 0) :: cs⟩)
abbrev dP (off : Nat) (cs : List Value) : Value := .iface off (.agg ⟨.chan (some 1) :: cs⟩)
abbrev dB (sz b n : Nat) : Value := .iface sz (.agg ⟨[.chan (some 2), .chan (some b), .chan (some n)]⟩)
abbrev dE (sz : Nat) : Value := .iface sz (.agg ⟨[.chan (some 3)]⟩)
noncomputable def deepC {α : Type} (v : Value) (s p : Nat → List Value → α) (b : Nat → Nat → Nat → α) (e : Nat → α) (z : α) : α :=
  match v with
  | .iface t u => (match u with
    | .agg a => (match a.toList with
      | m :: cs => (match m with
        | .chan o => (match o with
          | some q => (match q with
            | 0 => s t cs
            | 1 => p t cs
            | 2 => (match cs with
              | x :: xs => (match x with
                | .chan ob => (match ob with
                  | some bb => (match xs with
                    | y :: ys => (match y with
                      | .chan on => (match on with
                        | some n => (match ys with
                          | [] => b t bb n
                          | _ => z)
                        | none => z)
                      | _ => z)
                    | [] => z)
                  | none => z)
                | _ => z)
              | [] => z)
            | 3 => (match cs with
              | [] => e t
              | _ => z)
            | _ => z)
          | none => z)
        | _ => z)
      | [] => z)
    | _ => z)
  | _ => z
noncomputable def cellOk (v : Value) : Bool :=
  match v with
  | .bool _ => true
  | .int _ _ => true
  | .string _ => true
  | v => deepC v (fun _ _ => true) (fun _ _ => false) (fun _ _ _ => false) (fun _ => false) false
noncomputable def nthC (l : List Value) (i : Nat) : Value := match getL l i with | some v => v | none => undef
noncomputable def uL (v : Value) : List Value := match v with | .iface _ u => (match u with | .agg a => (match a.toList with | _ :: cs => cs | [] => []) | _ => []) | _ => []
noncomputable def dlen (sz : Nat) (cs : List Value) : Nat := cs.length / sz
noncomputable def dtk (sz n : Nat) (cs : List Value) : List Value := cs.take (n * sz)
noncomputable def ddr (sz n : Nat) (cs : List Value) : List Value := match n with | 0 => cs | n + 1 => cs.drop ((n + 1) * sz)
noncomputable def sizeN (T : Ty) (t : TypeId) : Nat := match T.get t with | some i => i.size | none => 0
noncomputable def kz (T : Ty) (n : Nat) : TypeId → List (Kd × Nat) :=
  Nat.rec (motive := fun _ => TypeId → List (Kd × Nat)) (fun _ => []) (fun _ ih t =>
    match T.und t with
    | some (.struct fs) => fs.toList.flatMap fun f => ih f.type
    | some (.array m e) => (List.replicate m (ih e)).flatten
    | some (.slice e) => [(.slice, sizeN T e)]
    | _ => (kinds T t).map fun k => (k, 0)) n
noncomputable def okZ (k : Kd × Nat) (v : Value) : Bool :=
  match k.1 with
  | .bool => match v with | .bool _ => true | _ => false
  | .int k => match v with | .int k' _ => decide (k' = k) | _ => false
  | .str => match v with | .string _ => true | _ => false
  | .slice => deepC v (fun t _ => Nat.beq t k.2) (fun _ _ => false) (fun _ _ _ => false) (fun _ => false) false
  | _ => false
noncomputable def okD (ks : List (Kd × Nat)) (cs : List Value) : Nat → Bool :=
  List.rec (motive := fun _ => Nat → Bool) (fun _ => true) (fun k _ ih o => cond (okZ k (nthC cs o)) (ih (o + 1)) false) ks
end Go.Proofs.Yteljeekapcenlaa.Ev
