/-
  Ev, part B: the evaluator: operations, regions, code, functions. Definitions only. No conditions.
-/
import Derived.Test.YteljeekapcenlaaEvA
namespace Go.Proofs.Yteljeekapcenlaa.Ev
open Go
structure Env where
  P : Program
  T : Ty
  pol : Pol
noncomputable def callF (E : Env) (orc : Orc) (f : FuncId) (as : List Value) (H : AH) (k : K) : Res :=
  (E.P.funcs[f]?).bind fun fn =>
  cond fn.body.isSome
    (match E.pol.mode f with
     | 2 => cond (flatTs E.T fn.resultTypes.toList && as.all plain)
        ((orc f as ⟨[], 0, []⟩).bind fun r => destrRes E.T fn.resultTypes.toList r.1 fun v => k v H) none
     | 1 => cond (flatTs E.T fn.resultTypes.toList)
        ((orc f as ⟨H.bs, H.len, []⟩).bind fun r => destrRes E.T fn.resultTypes.toList r.1 fun v => k v H) none
     | _ => (orc f as H).bind fun r => destrRes E.T fn.resultTypes.toList r.1 fun v => k v ⟨r.2.bs, H.floor, H.lock⟩) none
noncomputable def opClear (T : Ty) (ts : List TypeId) (vs : List Value) (H : AH) (k : K) : Res :=
  match ts with
  | t :: _ => (match vs with
    | x :: _ => (match T.und t with
      | some (.slice e) => (match x with
        | .slice base n _ => cond (Nat.beq n 0) (k undef H) (match base with
          | some a => zeroOf T e fun z => cond (decide (0 < z.length)) (storeN H ⟨a.block, a.off, none⟩ (zeros z n) fun H => k undef H) none
          | none => none)
        | _ => none)
      | _ => none)
    | _ => none)
  | _ => none
noncomputable def opLen (T : Ty) (ts : List TypeId) (as : List Value) (H : AH) (k : Value → Res) : Res :=
  match ts with
  | t :: _ => (match as with
    | x :: _ => (match T.und t with
      | some .string => (match x with | .string s => k (.int .i64 s.size) | _ => none)
      | some (.slice _) => (match x with | .slice _ n _ => k (.int .i64 n) | _ => none)
      | some (.array n _) => k (.int .i64 n)
      | _ => none)
    | _ => none)
  | _ => none
noncomputable def opMinMax (isMax : Bool) (vs : List Value) (k : Value → Res) : Res :=
  match vs with
  | x :: rest => asI x fun kd a => (match rest with
    | [] => k (.int kd a)
    | y :: rest => (match rest with
      | [] => asI y fun kd' b => cond (decide (kd = kd')) (k (.int kd (cond isMax (max a b) (min a b)))) none
      | _ => none))
  | _ => none
noncomputable def opBuiltin (T : Ty) (b : Builtin) (ts : List TypeId) (as : List Value) (H : AH) (k : K) : Res :=
  match b with
  | .append => opAppend T ts as H k
  | .clear => opClear T ts as H k
  | .len => opLen T ts as H fun v => k v H
  | .min => opMinMax false as fun v => k v H
  | .max => opMinMax true as fun v => k v H
  | _ => none
noncomputable def oMove (fr : Frame) (H : AH) (k : K) (x : Operand) : Res := (arg fr x).bind fun v => k v H
noncomputable def oPick (fr : Frame) (H : AH) (k : K) (c a b : Operand) : Res :=
  (arg fr c).bind fun v => asB v fun t => cond t ((arg fr a).bind fun v => k v H) ((arg fr b).bind fun v => k v H)
noncomputable def oAlloc (T : Ty) (H : AH) (k : K) (e : TypeId) : Res :=
  zeroOf T e fun z => k (.pointer (some ⟨H.len, 0, none⟩)) (H.push (.cells z))
noncomputable def oBox (fr : Frame) (H : AH) (k : K) (x : Operand) : Res :=
  (arg fr x).bind fun v => cond (solid v) (k (.pointer (some ⟨H.len, 0, none⟩)) (H.push (.cells (cellsOf v)))) none
noncomputable def oBuild (T : Ty) (fr : Frame) (H : AH) (k : K) (t : TypeId) (ps : Array (Nat × Operand)) : Res :=
  (parts fr ps.toList).bind fun ps => opBuild T t ps fun v => k v H
noncomputable def oBuildSlice (T : Ty) (fr : Frame) (H : AH) (k : K) (t : TypeId) (n : Nat) (ps : Array (Nat × Operand)) : Res :=
  (parts fr ps.toList).bind fun ps => opBuildSlice T t n ps H k
noncomputable def oLoad (T : Ty) (fr : Frame) (H : AH) (k : K) (t : TypeId) (x : Operand) : Res :=
  (arg fr x).bind fun a => asPtr a fun a =>
    cond (isAggT T t) (sizeT T t fun s => loadN H a s fun cs => destrL (kinds T t) cs fun l => k (.agg l.toArray) H)
      (load1 H a fun v => (kindOf T t).destr v fun v => cond (T.get t).isSome (k v H) none)
noncomputable def oStore (T : Ty) (fr : Frame) (H : AH) (k : K) (t : TypeId) (a x : Operand) : Res :=
  (arg fr a).bind fun a => (arg fr x).bind fun v => asPtr a fun a =>
    sizeT T t fun s => cond (Nat.beq (cellsOf v).length s && solid v) (storeN H a (cellsOf v) fun H => k undef H) none
noncomputable def oNilCheck (fr : Frame) (H : AH) (k : K) (x : Operand) : Res :=
  (arg fr x).bind fun v => match v with
    | .pointer a => (match a with | some a => k (.pointer (some a)) H | none => none)
    | .func fn a b => (match fn with | .func f => k (.func (.func f) a b) H | _ => none)
    | _ => none
noncomputable def oBin (T : Ty) (fr : Frame) (H : AH) (k : K) (op : BinOp) (t : TypeId) (x y : Operand) : Res :=
  (arg fr x).bind fun x => (arg fr y).bind fun y => opBin T op t x y fun v => k v H
noncomputable def oUn (fr : Frame) (H : AH) (k : K) (op : UnOp) (x : Operand) : Res := (arg fr x).bind fun x => opUn op x fun v => k v H
noncomputable def oConvert (T : Ty) (fr : Frame) (H : AH) (k : K) (s d : TypeId) (x : Operand) : Res := (arg fr x).bind fun x => opConvert T s d x H k
noncomputable def oMakeFunc (fr : Frame) (H : AH) (k : K) (fn : Fn) (first captured : Array Operand) : Res :=
  (args fr first.toList).bind fun f => (args fr captured.toList).bind fun c =>
      cond (f.all solid && c.all solid) (k (.func fn f.toArray c.toArray) H) none
noncomputable def oMakeMap (H : AH) (k : K) (r : Option Operand) : Res :=
  match r with
  | none => k (.map (some H.len)) (H.push (.map []))
  | some _ => none
noncomputable def oMakeSlice (T : Ty) (fr : Frame) (H : AH) (k : K) (t : TypeId) (l c : Operand) : Res :=
  (arg fr l).bind fun l => (arg fr c).bind fun c => opMakeSlice T t l c H k
noncomputable def oSlice (T : Ty) (fr : Frame) (H : AH) (k : K) (t : TypeId) (x : Operand) (lo hi mx : Option Operand) : Res :=
  (arg fr x).bind fun x => opSlice T fr t x lo hi mx fun v => k v H
noncomputable def oFieldAddr (T : Ty) (fr : Frame) (H : AH) (k : K) (t : TypeId) (x : Operand) (f : Nat) : Res :=
  (arg fr x).bind fun x => opFieldAddr T t x f fun v => k v H
noncomputable def oField (T : Ty) (fr : Frame) (H : AH) (k : K) (t : TypeId) (x : Operand) (f : Nat) : Res :=
  (arg fr x).bind fun x => opField T t x f fun v => k v H
noncomputable def oIndexAddr (T : Ty) (fr : Frame) (H : AH) (k : K) (t : TypeId) (x i : Operand) : Res :=
  (arg fr x).bind fun x => (arg fr i).bind fun i => opIndexAddr T t x i fun v => k v H
noncomputable def oIndex (T : Ty) (fr : Frame) (H : AH) (k : K) (t : TypeId) (x i : Operand) : Res :=
  (arg fr x).bind fun x => (arg fr i).bind fun i => opIndex T t x i fun v => k v H
noncomputable def oExtract (fr : Frame) (H : AH) (k : K) (x : Operand) (i : Nat) : Res :=
  (arg fr x).bind fun x => match x with
    | .tuple vs => (vs.toList[i]?).bind fun v => k v H
    | _ => none
noncomputable def oCall (E : Env) (orc : Orc) (fr : Frame) (H : AH) (k : K) (c : Call) : Res :=
  match c.callee with
  | .value f => (arg fr f).bind fun f => (args fr c.args.toList).bind fun vs => match f with
    | .func fn first captured => (match fn with
      | .func g => callF E orc g (first.toList ++ vs ++ captured.toList) H k
      | _ => none)
    | _ => none
  | .builtin b => (args fr c.args.toList).bind fun vs => opBuiltin E.T b c.argTypes.toList vs H k
  | _ => none
noncomputable def evOp (E : Env) (orc : Orc) (o : Oper) (fr : Frame) (H : AH) (k : K) : Res :=
  match o.op with
  | .move x => oMove fr H k x
  | .assign x => oMove fr H k x
  | .pick c a b => oPick fr H k c a b
  | .alloc e => oAlloc E.T H k e
  | .box _ x => oBox fr H k x
  | .build t ps => oBuild E.T fr H k t ps
  | .buildSlice t n ps => oBuildSlice E.T fr H k t n ps
  | .load t x => oLoad E.T fr H k t x
  | .store t a x => oStore E.T fr H k t a x
  | .nilCheck x => oNilCheck fr H k x
  | .binOp op t x y _ => oBin E.T fr H k op t x y
  | .unOp op _ x => oUn fr H k op x
  | .convert s d x => oConvert E.T fr H k s d x
  | .makeFunc fn first captured => oMakeFunc fr H k fn first captured
  | .makeMap _ r => oMakeMap H k r
  | .makeSlice t l c => oMakeSlice E.T fr H k t l c
  | .slice t x lo hi mx => oSlice E.T fr H k t x lo hi mx
  | .fieldAddr t x f => oFieldAddr E.T fr H k t x f
  | .field t x f => oField E.T fr H k t x f
  | .indexAddr t x i => oIndexAddr E.T fr H k t x i
  | .index t x i => oIndex E.T fr H k t x i
  | .extract x i => oExtract fr H k x i
  | .call c => oCall E orc fr H k c
  | _ => none
noncomputable def bnd {α β : Type} (x : Option α) (f : α → Option β) : Option β := match x with | some a => f a | none => none
noncomputable def uI (v : Value) : Int := match v with | .int _ n => n | _ => 0
noncomputable def uB (v : Value) : Bool := match v with | .bool b => b | _ => false
noncomputable def uS (v : Value) : ByteArray := match v with | .string s => s | _ => .empty
noncomputable def uP (v : Value) : Option Addr := match v with | .pointer a => a | _ => none
noncomputable def uSa (v : Value) : Option Addr := match v with | .slice a _ _ => a | _ => none
noncomputable def uSl (v : Value) : Nat := match v with | .slice _ l _ => l | _ => 0
noncomputable def uSc (v : Value) : Nat := match v with | .slice _ _ c => c | _ => 0
noncomputable def uM (v : Value) : Option Nat := match v with | .map r => r | _ => none
noncomputable def cellsA (v : Value) : List Value := match v with | .agg cs => cs.toList | _ => []
noncomputable def tupL (v : Value) : List Value := match v with | .tuple cs => cs.toList | _ => []
noncomputable def nthD (l : List Value) (i : Nat) : Value := match getL l i with | some v => v | none => undef
noncomputable def cA (v : Value) (i : Nat) : Value := nthD (cellsA v) i
noncomputable def tA (v : Value) (i : Nat) : Value := nthD (tupL v) i
noncomputable def Kd.norm (k : Kd) (v : Value) : Value :=
  match k with
  | .bool => .bool (uB v)
  | .int k => .int k (uI v)
  | .str => .string (uS v)
  | .ptr => .pointer (uP v)
  | .slice => .slice (uSa v) (uSl v) (uSc v)
  | .map => .map (uM v)
  | .any => v
noncomputable def Kd.ok (k : Kd) (v : Value) : Bool :=
  match k with
  | .bool => match v with | .bool _ => true | _ => false
  | .int k => match v with | .int k' _ => decide (k' = k) | _ => false
  | .str => match v with | .string _ => true | _ => false
  | .ptr => match v with | .pointer _ => true | _ => false
  | .slice => match v with | .slice _ _ _ => true | _ => false
  | .map => match v with | .map _ => true | _ => false
  | .any => true
noncomputable def okL (ks : List Kd) : List Value → Bool :=
  List.rec (motive := fun _ => List Value → Bool) (fun vs => List.casesOn vs true (fun _ _ => false)) (fun k _ ih vs => List.casesOn vs false (fun v vs => cond (k.ok v) (ih vs) false)) ks
noncomputable def normL (v : Value) (ks : List Kd) : Nat → List Value :=
  List.rec (motive := fun _ => Nat → List Value) (fun _ => []) (fun k _ ih i => k.norm (cA v i) :: ih (i + 1)) ks
noncomputable def hdK (ks : List Kd) : Kd := match ks with | k :: _ => k | [] => .any
noncomputable def nrmI (i : TI) (v : Value) : Value := cond i.agg (.agg ⟨normL v i.kd 0⟩) ((hdK i.kd).norm v)
noncomputable def okI (i : TI) (v : Value) : Bool := cond i.agg (match v with | .agg cs => okL i.kd cs.toList | _ => false) ((hdK i.kd).ok v)
noncomputable def nrmV (T : Ty) (t : TypeId) (v : Value) : Value := match T.get t with | some i => nrmI i v | none => v
noncomputable def okV (T : Ty) (t : TypeId) (v : Value) : Bool := match T.get t with | some i => okI i v | none => true
noncomputable def nrmTs (T : Ty) (v : Value) (ts : List TypeId) : Nat → List Value :=
  List.rec (motive := fun _ => Nat → List Value) (fun _ => []) (fun t _ ih i => nrmV T t (tA v i) :: ih (i + 1)) ts
noncomputable def okTs (T : Ty) (ts : List TypeId) : List Value → Bool :=
  List.rec (motive := fun _ => List Value → Bool) (fun vs => List.casesOn vs true (fun _ _ => false)) (fun t _ ih vs => List.casesOn vs false (fun v vs => cond (okV T t v) (ih vs) false)) ts
noncomputable def tupT (P : Program) (t : TypeId) : Option (List TypeId) := match P.underlying t with | some (.tuple es) => some es.toList | _ => none
noncomputable def nrmR (E : Env) (t : TypeId) (v : Value) : Value := match E.T.get t with
  | some i => nrmI i v
  | none => match tupT E.P t with | some ts => .tuple ⟨nrmTs E.T v ts 0⟩ | none => v
noncomputable def okR (E : Env) (t : TypeId) (v : Value) : Bool := match E.T.get t with
  | some i => okI i v
  | none => match tupT E.P t with | some ts => (match v with | .tuple vs => okTs E.T ts vs.toList | _ => false) | none => true
noncomputable def fit (E : Env) (t : TypeId) (x : Res) : Res := x.bind fun r => cond (okR E t r.1) (some r) none
noncomputable def fitV (E : Env) (t : TypeId) (x : Res) : Option Value := x.bind fun r => cond (okR E t r.1) (some r.1) none
noncomputable def pureK : K := fun v H => some (v, H)
noncomputable def ldP (T : Ty) (t : TypeId) (a : Addr) (H : AH) : Res :=
  cond (isAggT T t) (sizeT T t fun s => loadN H a s fun cs => destrL (kinds T t) cs fun l => pureK (.agg l.toArray) H)
      (load1 H a fun v => (kindOf T t).destr v fun v => cond (T.get t).isSome (pureK v H) none)
noncomputable def ldX (E : Env) (ot t : TypeId) (a : Addr) (H : AH) : Option Value := fitV E ot (ldP E.T t a H)
noncomputable def stX (t : TypeId) (T : Ty) (a : Addr) (v : Value) (H : AH) : Option AH := (sizeT T t fun s => cond (Nat.beq (cellsOf v).length s && solid v) (storeN H a (cellsOf v) fun H => pureK undef H) none).bind fun r => some r.2
noncomputable def btX (E : Env) (b : Builtin) (ts : List TypeId) (vs : List Value) (H : AH) : Res := opBuiltin E.T b ts vs H pureK
noncomputable def cOp (x : Option Value) : Option Operand := match x with | some v => some (.const v) | none => none
noncomputable def optA (fr : Frame) (x : Option Operand) (k : Option Value → Res) : Res :=
  match x with
  | none => k none
  | some x => (arg fr x).bind fun v => cond (plain v) (k (some v)) none
noncomputable def slX (E : Env) (ot t : TypeId) (x : Value) (lo hi mx : Option Value) : Option Value := fitV E ot (opSlice E.T [] t x (cOp lo) (cOp hi) (cOp mx) fun v => pureK v ⟨[], 0, []⟩)
noncomputable def cvX (E : Env) (ot s d : TypeId) (x : Value) (H : AH) : Option Value := fitV E ot (opConvert E.T s d x H pureK)
noncomputable def appX (E : Env) (ot : TypeId) (ts : List TypeId) (vs : List Value) (H : AH) : Res := fit E ot (opAppend E.T ts vs H pureK)
noncomputable def callX (E : Env) (orc : Orc) (ot : TypeId) (g : FuncId) (vs : List Value) (H : AH) : Res := fit E ot (callF E orc g vs H pureK)
noncomputable def callV (E : Env) (orc : Orc) (ot : TypeId) (g : FuncId) (vs : List Value) (H : AH) : Option Value := fitV E ot (callF E orc g vs H pureK)
noncomputable def oCallN (E : Env) (orc : Orc) (ot : TypeId) (fr : Frame) (H : AH) (k : K) (c : Call) : Res :=
  match c.callee with
  | .value f => (arg fr f).bind fun f => (args fr c.args.toList).bind fun vs => match f with
    | .func fn first captured => (match fn with
      | .func g => (match E.pol.mode g with
        | 2 => bnd (callV E orc ot g (first.toList ++ vs ++ captured.toList) H) fun v => k (nrmR E ot v) H
        | 1 => bnd (callV E orc ot g (first.toList ++ vs ++ captured.toList) H) fun v => k (nrmR E ot v) H
        | _ => bnd (callX E orc ot g (first.toList ++ vs ++ captured.toList) H) fun r => k (nrmR E ot r.1) r.2)
      | _ => none)
    | _ => none
  | .builtin b => (args fr c.args.toList).bind fun vs => (match b with
    | .clear => bnd (btX E .clear c.argTypes.toList vs H) fun r => k r.1 r.2
    | .append => bnd (appX E ot c.argTypes.toList vs H) fun r => k (nrmR E ot r.1) r.2
    | b => opBuiltin E.T b c.argTypes.toList vs H k)
  | _ => none
noncomputable def lkX (E : Env) (ot t : TypeId) (x key : Value) (ok : Bool) (H : AH) : Option Value := fitV E ot (opLookup E.T t x key ok H fun v => pureK v H)
noncomputable def muX (E : Env) (t : TypeId) (m key v : Value) (H : AH) : Option AH := (opUpdate E.T t m key v H fun H => pureK undef H).bind fun r => some r.2
noncomputable def oLookupN (E : Env) (ot : TypeId) (fr : Frame) (H : AH) (k : K) (t : TypeId) (x i : Operand) (ok : Bool) : Res :=
  (arg fr x).bind fun x => (arg fr i).bind fun i => cond (E.pol.lit t) (opLookup E.T t x i ok H fun v => k v H) (bnd (lkX E ot t x i ok H) fun v => k (nrmR E ot v) H)
noncomputable def oUpdateN (E : Env) (fr : Frame) (H : AH) (k : K) (t : TypeId) (m i x : Operand) : Res :=
  (arg fr m).bind fun m => (arg fr i).bind fun i => (arg fr x).bind fun x => cond (E.pol.lit t) (opUpdate E.T t m i x H fun H => k undef H) (bnd (muX E t m i x H) fun H => k undef H)
noncomputable def evOpT (E : Env) (orc : Orc) (o : Oper) (fr : Frame) (H : AH) (k : K) : Res :=
  match o.op with
  | .load t x => (arg fr x).bind fun a => asPtr a fun a => bnd (ldX E o.type t a H) fun v => k (nrmR E o.type v) H
  | .store t a x => (arg fr a).bind fun a => (arg fr x).bind fun v => asPtr a fun a => bnd (stX t E.T a v H) fun H => k undef H
  | .slice t x lo hi mx => (arg fr x).bind fun x => optA fr lo fun lo => optA fr hi fun hi => optA fr mx fun mx => bnd (slX E o.type t x lo hi mx) fun v => k (nrmR E o.type v) H
  | .convert s d x => (arg fr x).bind fun x => (match x with
    | .slice a l c => bnd (cvX E o.type s d (.slice a l c) H) fun v => k (nrmR E o.type v) H
    | x => opConvert E.T s d x H k)
  | .call c => oCallN E orc o.type fr H k c
  | .lookup t x i ok => oLookupN E o.type fr H k t x i ok
  | .insert t m i x => oUpdateN E fr H k t m i x
  | .mapUpdate t m i x => oUpdateN E fr H k t m i x
  | _ => evOp E orc o fr H k
noncomputable def nmZ (k : Kd × Nat) (v : Value) : Value :=
  match k.1 with
  | .slice => dS k.2 (uL v)
  | kd => kd.norm v
noncomputable def nmD (ks : List (Kd × Nat)) (cs : List Value) : Nat → List Value :=
  List.rec (motive := fun _ => Nat → List Value) (fun _ => []) (fun k _ ih o => nmZ k (nthC cs o) :: ih (o + 1)) ks
noncomputable def readD (T : Ty) (t : TypeId) (cs : List Value) (off : Nat) (k : Value → Res) : Res :=
  (T.get t).bind fun i => cond (Nat.beq (kz T 8 t).length i.size && okD (kz T 8 t) cs off)
    (cond i.agg (k (.agg ⟨nmD (kz T 8 t) cs off⟩)) (match nmD (kz T 8 t) cs off with | v :: _ => k v | [] => none)) none
noncomputable def AH.bldAt (H : AH) (b : Nat) (k : List Value → Res) (z : Res) : Res :=
  match getL H.bs b with
  | some x => (match x with | .bld cs => k cs | _ => z)
  | none => z
noncomputable def loadD (T : Ty) (t : TypeId) (x : Value) (H : AH) (k : Value → Res) : Res :=
  match x with
  | .pointer (some a) => H.bldAt a.block (fun cs => readD T t cs a.off k)
      (cond (isAggT T t) (sizeT T t fun s => loadN H a s fun cs => k (.agg ⟨cs⟩)) (load1 H a fun v => cond (T.get t).isSome (k v) none))
  | x => deepC x (fun _ _ => none) (fun off cs => readD T t cs off k) (fun _ _ _ => none) (fun _ => none) none
noncomputable def isBuilt (H : AH) (b : Nat) : Bool :=
  match getL H.bs b with
  | some x => (match x with | .bld _ => true | .cells _ => true | _ => false)
  | none => false
noncomputable def getCells (H : AH) (b : Nat) (k : List Value → Res) : Res :=
  match getL H.bs b with
  | some x => (match x with
    | .bld cs => k cs
    | .cells c => cond (c.all cellOk) (k c) none
    | _ => none)
  | none => none
noncomputable def keep1 (z : Nat) (v : Value) (H : AH) (k : Value → AH → Res) : Res :=
  match v with
  | .slice a l c => cond (a.isNone && Nat.beq l 0 && Nat.beq c 0 && Nat.blt 0 z) (k (dS z []) H) none
  | v => deepC v
    (fun t cs => cond (Nat.beq t z) (k (dS t cs) H) none)
    (fun _ _ => none)
    (fun t b n => cond (Nat.beq t z && H.wok b) (getCells H b fun cs => cond (Nat.beq (n * t) cs.length) (k (dS t cs) (H.put b .dead)) none) none)
    (fun t => cond (Nat.beq t z) (k (dS t []) H) none) none
noncomputable def keepC (kd : Kd × Nat) (v : Value) (H : AH) (k : Value → AH → Res) : Res :=
  match kd.1 with
  | .slice => keep1 kd.2 v H k
  | _ => cond (okZ kd v) (k v H) none
noncomputable def keepD (ks : List (Kd × Nat)) : List Value → AH → (List Value → AH → Res) → Res :=
  List.rec (motive := fun _ => List Value → AH → (List Value → AH → Res) → Res)
    (fun vs H k => List.casesOn vs (k [] H) (fun _ _ => none))
    (fun kd _ ih vs H k => List.casesOn vs none (fun v vs => keepC kd v H fun d H => ih vs H fun l H => k (d :: l) H)) ks
noncomputable def storeD (T : Ty) (t : TypeId) (x v : Value) (H : AH) (k : AH → Res) : Res :=
  asPtr x fun a => H.bldAt a.block
    (fun cs => (T.get t).bind fun i => cond (Nat.beq (cellsOf v).length i.size && solid v && Nat.beq (kz T 8 t).length i.size && okD (kz T 8 t) (cellsOf v) 0 && Nat.ble (a.off + i.size) cs.length && H.wok a.block)
      (k (H.put a.block (.bld (cs.take a.off ++ cellsOf v ++ cs.drop (a.off + i.size))))) none)
    (sizeT T t fun s => cond (Nat.beq (cellsOf v).length s && solid v) (storeN H a (cellsOf v) k) none)
noncomputable def allD (T : Ty) (e : TypeId) (s b n : Nat) (H : AH) (k : List Value → AH → Res) : Res :=
  match getL H.bs b with
  | some x => (match x with
    | .bld cs => cond (Nat.beq (n * s) cs.length) (k cs H) none
    | .cells c => cond (Nat.beq (n * s) c.length) (keepD (List.replicate n (kz T 8 e)).flatten c H k) none
    | _ => none)
  | none => none
noncomputable def srcD (T : Ty) (e : TypeId) (s : Nat) (x : Value) (H : AH) (k : List Value → Nat → AH → Res) : Res :=
  match x with
  | .slice a l c => cond (a.isNone && Nat.beq l 0 && Nat.beq c 0) (k [] 0 H) none
  | x => deepC x (fun t cs => cond (Nat.beq t s) (k cs (dlen s cs) H) none) (fun _ _ => none)
    (fun t b n => cond (Nat.beq t s) (allD T e s b n H fun cs H => k cs n H) none) (fun t => cond (Nat.beq t s) (k [] 0 H) none) none
noncomputable def baseD (T : Ty) (e : TypeId) (s : Nat) (x : Value) (H : AH) (k : List Value → Nat → AH → Res) : Res :=
  match x with
  | .slice a l c => cond (a.isNone && Nat.beq l 0 && Nat.beq c 0) (k [] 0 H) none
  | x => deepC x (fun _ _ => none) (fun _ _ => none)
    (fun t b n => cond (Nat.beq t s) (allD T e s b n H fun cs H => cond (H.wok b && isBuilt H b) (k cs n (H.put b .dead)) none) none) (fun t => cond (Nat.beq t s) (k [] 0 H) none) none
noncomputable def appendD (T : Ty) (ts : List TypeId) (vs : List Value) (H : AH) (k : K) : Res :=
  match ts with
  | t :: us => (match us with
    | u :: _ => (match vs with
      | x :: xs => (match xs with
        | y :: _ => (match T.und t with
          | some (.slice e) => cond (match T.und u with | some (.slice _) => true | _ => false) ((T.get e).bind fun i => cond (Nat.blt 0 i.size && Nat.beq i.zero.length i.size) (srcD T e i.size y H fun new m H => baseD T e i.size x H fun old n H =>
              cond (decide ((n + m) * i.bytes ≤ 2 ^ 47) && decide (n + m ≤ 2 ^ 47)) (k (dB i.size H.len (n + m)) (H.push (.bld (old ++ new)))) none) none) none
          | _ => none)
        | _ => none)
      | _ => none)
    | _ => none)
  | _ => none
noncomputable def lenD (T : Ty) (ts : List TypeId) (as : List Value) (H : AH) (k : Value → Res) (z : Res) : Res :=
  match as with
  | x :: _ => (match ts with
    | t :: _ => (match T.und t with
      | some (.slice _) => deepC x (fun t cs => cond (Nat.blt 0 t) (k (.int .i64 (dlen t cs))) none) (fun _ _ => none) (fun _ _ n => k (.int .i64 n)) (fun _ => k (.int .i64 0)) z
      | _ => z)
    | _ => none)
  | _ => z
noncomputable def indexD (T : Ty) (t : TypeId) (x ix : Value) (k : Value → Res) : Res :=
  deepC x
    (fun z cs => asI ix fun _ i => (match T.und t with
      | some (.slice e) => sizeT T e fun s => cond (Nat.beq s z && (decide (0 ≤ i) && decide (i < dlen z cs))) (k (dP (i.toNat * s) cs)) none
      | _ => none))
    (fun off cs => asI ix fun _ i => (match T.und t with
      | some (.array n e) => sizeT T e fun s => cond (decide (0 ≤ i) && decide (i < n)) (k (dP (off + i.toNat * s) cs)) none
      | _ => none))
    (fun z b n => asI ix fun _ i => (match T.und t with
      | some (.slice e) => sizeT T e fun s => cond (Nat.beq s z && (decide (0 ≤ i) && decide (i < n))) (k (.pointer (some ⟨b, i.toNat * s, none⟩))) none
      | _ => none))
    (fun _ => none) (opIndexAddr T t x ix k)
noncomputable def fieldD (T : Ty) (t : TypeId) (x : Value) (f : Nat) (k : Value → Res) : Res :=
  deepC x (fun _ _ => none)
    (fun off cs => (getL (fieldsOf T t) f).bind fun fd => sizeT T fd.type fun s => cond (decide (s = 0)) none (k (dP (off + fd.offset) cs)))
    (fun _ _ _ => none) (fun _ => none) (opFieldAddr T t x f k)
noncomputable def sliceD (T : Ty) (fr : Frame) (t : TypeId) (x : Value) (lo hi mx : Option Operand) (k : Value → Res) : Res :=
  deepC x
    (fun z cs => (match T.und t with
      | some (.slice e) => sizeT T e fun s => cond (Nat.beq s z && Nat.blt 0 s) (boundsK fr (dlen z cs) (dlen z cs) lo hi mx fun l h m =>
          match mx with
          | some _ => cond (Nat.beq m l) (k (dE z)) none
          | none => k (dS z (ddr z l (dtk z h cs)))) none
      | _ => none))
    (fun _ _ => none) (fun _ _ _ => none) (fun _ => none) (opSlice T fr t x lo hi mx k)
noncomputable def buildSliceD (T : Ty) (t : TypeId) (n : Nat) (ps : List (Nat × Value)) (H : AH) (k : K) : Res :=
  match T.und t with
  | some (.slice e) => sizeT T e fun s => cond (decide (n * s ≤ 2 ^ 24) && decide (0 < s)) (zeroOf T e fun z =>
      cond (decide (z.length = s)) ((fillL (fun i => some (i * s, s)) (zeros z n) ps).bind fun c => k (dB s H.len n) (H.push (cond (c.all cellOk) (.bld c) (.cells c)))) none) none
  | _ => none
noncomputable def makeSliceD (T : Ty) (t : TypeId) (l c : Value) (H : AH) (k : K) : Res :=
  match T.und t with
  | some (.slice e) => asI l fun _ l => asI c fun _ c => (T.get e).bind fun i =>
    cond (decide (0 ≤ l) && decide (l = c) && decide (c ≤ 2 ^ 40) && decide (i.bytes * c ≤ 2 ^ 46))
      (zeroOf T e fun z => cond (decide (i.size = z.length) && decide (0 < i.size) && z.all cellOk) (k (dB i.size H.len l.toNat) (H.push (.bld (zeros z l.toNat)))) none) none
  | _ => none
noncomputable def evOpC (E : Env) (orc : Orc) (o : Oper) (fr : Frame) (H : AH) (k : K) : Res :=
  match o.op with
  | .lookup t x i ok => oLookupN E o.type fr H k t x i ok
  | .insert t m i x => oUpdateN E fr H k t m i x
  | .mapUpdate t m i x => oUpdateN E fr H k t m i x
  | _ => evOp E orc o fr H k
noncomputable def packS (z : Nat) (v : Value) (H : AH) (k : Value → Res) : Res :=
  match v with
  | .slice a l c => cond (a.isNone && Nat.beq l 0 && Nat.beq c 0 && Nat.blt 0 z) (k (dS z [])) none
  | v => deepC v (fun t cs => cond (Nat.beq t z) (k (dS t cs)) none) (fun _ _ => none)
      (fun t b n => cond (Nat.beq t z) (getCells H b fun cs => cond (Nat.beq (n * t) cs.length) (k (dS t cs)) none) none)
      (fun t => cond (Nat.beq t z) (k (dS t [])) none) none
noncomputable def packC (kd : Kd × Nat) (v : Value) (H : AH) (k : Value → Res) : Res :=
  match kd.1 with
  | .slice => packS kd.2 v H k
  | _ => cond (okZ kd v) (k v) none
noncomputable def packL (ks : List (Kd × Nat)) : List Value → AH → (List Value → Res) → Res :=
  List.rec (motive := fun _ => List Value → AH → (List Value → Res) → Res)
    (fun vs _ k => List.casesOn vs (k []) (fun _ _ => none))
    (fun kd _ ih vs H k => List.casesOn vs none (fun v vs => packC kd v H fun d => ih vs H fun l => k (d :: l))) ks
noncomputable def packA (v : Value) (H : AH) (k : Value → Res) : Res :=
  match v with
  | .bool b => k (.bool b)
  | .int i n => k (.int i n)
  | .string s => k (.string s)
  | v => deepC v (fun t cs => k (dS t cs)) (fun _ _ => none)
      (fun t b n => getCells H b fun cs => cond (Nat.beq (n * t) cs.length) (k (dS t cs)) none)
      (fun t => k (dS t [])) none
noncomputable def packAs (vs : List Value) : AH → (List Value → Res) → Res :=
  List.rec (motive := fun _ => AH → (List Value → Res) → Res) (fun _ k => k []) (fun v _ ih H k => packA v H fun d => ih H fun l => k (d :: l)) vs
noncomputable def packP (v : Value) (H : AH) (k : Value → Res) : Res :=
  match v with
  | .pointer (some a) => (match getL H.bs a.block with
    | some x => (match x with
      | .cells c => packAs c H fun l => k (dP a.off l)
      | .bld c => k (dP a.off c)
      | _ => none)
    | none => none)
  | v => deepC v (fun t cs => k (dS t cs)) (fun off cs => k (dP off cs)) (fun _ _ _ => none) (fun _ => none) (packA v H k)
noncomputable def packPs (vs : List Value) : AH → (List Value → Res) → Res :=
  List.rec (motive := fun _ => AH → (List Value → Res) → Res) (fun _ k => k []) (fun v _ ih H k => packP v H fun d => ih H fun l => k (d :: l)) vs
noncomputable def packV (T : Ty) (t : TypeId) (v : Value) (H : AH) (k : Value → Res) : Res :=
  match v with
  | .pointer a => packP (.pointer a) H k
  | .func fn f c => (match fn with
    | .func g => packPs f.toList H fun f => packPs c.toList H fun c => k (.func (.func g) ⟨f⟩ ⟨c⟩)
    | _ => none)
  | .agg cs => packL (kz T 8 t) cs.toList H fun l => k (.agg ⟨l⟩)
  | v => (match kz T 8 t with
    | kd :: ks => (match ks with
      | [] => packC kd v H k
      | _ => none)
    | [] => none)
noncomputable def packVs (T : Ty) (ts : List TypeId) : List Value → AH → (List Value → Res) → Res :=
  List.rec (motive := fun _ => List Value → AH → (List Value → Res) → Res) (fun vs H k => packPs vs H k)
    (fun t _ ih vs H k => List.casesOn vs none (fun v vs => packV T t v H fun d => ih vs H fun l => k (d :: l))) ts
noncomputable def callP (E : Env) (orc : Orc) (g : FuncId) (vs : List Value) (H : AH) (k : Value → Res) : Res :=
  (E.P.funcs[g]?).bind fun fn => cond (fn.body.isSome && flatTs E.T fn.resultTypes.toList)
    (packVs E.T fn.params.toList vs H fun pvs => match E.pol.spec g with
      | some s => s pvs fun v => destrRes E.T fn.resultTypes.toList v k
      | none => (orc g pvs ⟨[], 0, []⟩).bind fun r => destrRes E.T fn.resultTypes.toList r.1 k) none
noncomputable def keepV (T : Ty) (t : TypeId) (v : Value) (H : AH) (k : Value → AH → Res) : Res :=
  match v with
  | .func fn f c => cond (f.toList.isEmpty && c.toList.isEmpty) (k (.func fn #[] #[]) H) none
  | .agg cs => keepD (kz T 8 t) cs.toList H fun l H => k (.agg ⟨l⟩) H
  | v => (match kz T 8 t with
    | kd :: ks => (match ks with
      | [] => keepC kd v H k
      | _ => none)
    | [] => none)
noncomputable def keepVs (T : Ty) (ts : List TypeId) : List Value → AH → (List Value → AH → Res) → Res :=
  List.rec (motive := fun _ => List Value → AH → (List Value → AH → Res) → Res) (fun vs H k => List.casesOn vs (k [] H) (fun _ _ => none))
    (fun t _ ih vs H k => List.casesOn vs none (fun v vs => keepV T t v H fun d H => ih vs H fun l H => k (d :: l) H)) ts
noncomputable def shiftC (n : Nat) (v : Value) : Value := deepC v (fun t cs => dS t cs) (fun off cs => dP off cs) (fun t b m => dB t (n + b) m) (fun t => dE t) v
noncomputable def resOkC (H : AH) (v : Value) : Bool :=
  match v with
  | .bool _ => true
  | .int _ _ => true
  | .string _ => true
  | v => deepC v (fun _ _ => true) (fun _ _ => false) (fun _ b _ => match getL H.bs b with | some x => (match x with | .bld _ => true | _ => false) | none => false) (fun _ => false) false
noncomputable def shiftV (n : Nat) (v : Value) : Value := match v with | .agg cs => .agg ⟨cs.toList.map (shiftC n)⟩ | v => shiftC n v
noncomputable def resOkV (H : AH) (v : Value) : Bool := match v with | .agg cs => cs.toList.all (resOkC H) | v => resOkC H v
noncomputable def shiftR (n : Nat) (v : Value) : Value := match v with | .tuple vs => .tuple ⟨vs.toList.map (shiftV n)⟩ | v => shiftV n v
noncomputable def resOk (H : AH) (v : Value) : Bool := match v with | .tuple vs => vs.toList.all (resOkV H) | v => resOkV H v
noncomputable def onlyBld (x : Blk) : Blk := match x with | .bld c => .bld c | _ => .dead
noncomputable def callQ (E : Env) (orc : Orc) (g : FuncId) (vs : List Value) (H : AH) (k : K) : Res :=
  (E.P.funcs[g]?).bind fun fn => cond fn.body.isSome
    (keepVs E.T fn.params.toList vs H fun dvs H => match E.pol.spec g with
      | some s => s dvs fun v => match E.pol.mode g with
        | 5 => deepC v (fun z cs => k (dB z H.len (dlen z cs)) (H.push (.bld cs))) (fun _ _ => none) (fun _ _ _ => none) (fun _ => none) none
        | _ => cond (resOk ⟨[], 0, []⟩ v) (k v H) none
      | none => (orc g dvs ⟨[], 0, []⟩).bind fun r => cond (resOk r.2 r.1) (k (shiftR H.len r.1) ⟨H.bs ++ r.2.bs.map onlyBld, H.floor, H.lock⟩) none) none
noncomputable def callM (E : Env) (g : FuncId) (vs : List Value) (H : AH) (k : K) : Res :=
  (E.P.funcs[g]?).bind fun fn => cond fn.body.isSome (match E.pol.specM g with
    | some s => s vs H fun v H' => destrRes E.T fn.resultTypes.toList v fun v => k v ⟨H'.bs, H.floor, H.lock⟩
    | none => none) none
noncomputable def oCallD (E : Env) (orc : Orc) (o : Oper) (fr : Frame) (H : AH) (k : K) (c : Call) : Res :=
  match c.callee with
  | .builtin b => (args fr c.args.toList).bind fun vs => (match b with
    | .append => appendD E.T c.argTypes.toList vs H k
    | .len => lenD E.T c.argTypes.toList vs H (fun v => k v H) (opBuiltin E.T .len c.argTypes.toList vs H k)
    | b => opBuiltin E.T b c.argTypes.toList vs H k)
  | .value f => (arg fr f).bind fun f => (args fr c.args.toList).bind fun vs => match f with
    | .func fn first captured => (match fn with
      | .func g => (match E.pol.mode g with
        | 3 => callP E orc g (first.toList ++ vs ++ captured.toList) H fun v => k v H
        | 4 => callQ E orc g (first.toList ++ vs ++ captured.toList) H k
        | 5 => callQ E orc g (first.toList ++ vs ++ captured.toList) H k
        | 6 => callM E g (first.toList ++ vs ++ captured.toList) H k
        | _ => callF E orc g (first.toList ++ vs ++ captured.toList) H k)
      | _ => none)
    | _ => none
  | _ => none
noncomputable def splitK (p : Pol) (op : BinOp) (y : Option Value) (k : K) : K := fun v H =>
  cond p.bits (match op with
    | .and => (match y with
      | some (.int _ m) => cond (m == 1) (match v with
        | .int kd n => cond (n == 0) (k (.int kd 0) H) (cond (n == 1) (k (.int kd 1) H) none)
        | v => k v H) (k v H)
      | _ => k v H)
    | _ => k v H) (k v H)
theorem splitK_some {p : Pol} {op : BinOp} {y : Option Value} {k : K} {v : Value} {H : AH} {r : Value × AH} (h : splitK p op y k v H = some r) : k v H = some r := by
  unfold splitK at h
  cases hb : p.bits with
  | false => rw [hb] at h; exact h
  | true =>
    rw [hb, cond_true] at h
    split at h
    · split at h
      · rename_i m
        cases hm : m == 1 with
        | false => rw [hm] at h; exact h
        | true =>
          rw [hm, cond_true] at h
          split at h
          · rename_i kd n
            cases h0 : n == 0 with
            | true =>
              rw [h0, cond_true] at h
              rw [eq_of_beq h0]; exact h
            | false =>
              rw [h0, cond_false] at h
              cases h1 : n == 1 with
              | true =>
                rw [h1, cond_true] at h
                rw [eq_of_beq h1]; exact h
              | false => rw [h1] at h; cases h
          · exact h
      · exact h
    · exact h
noncomputable def evOpD (E : Env) (orc : Orc) (o : Oper) (fr : Frame) (H : AH) (k : K) : Res :=
  match o.op with
  | .load t x => (arg fr x).bind fun a => loadD E.T t a H fun v => k v H
  | .store t a x => (arg fr a).bind fun a => (arg fr x).bind fun v => storeD E.T t a v H fun H => k undef H
  | .slice t x lo hi mx => (arg fr x).bind fun x => sliceD E.T fr t x lo hi mx fun v => k v H
  | .fieldAddr t x f => (arg fr x).bind fun x => fieldD E.T t x f fun v => k v H
  | .indexAddr t x i => (arg fr x).bind fun x => (arg fr i).bind fun i => indexD E.T t x i fun v => k v H
  | .nilCheck x => (arg fr x).bind fun v => deepC v (fun _ _ => none) (fun off cs => k (dP off cs) H) (fun _ _ _ => none) (fun _ => none) (oNilCheck fr H k x)
  | .buildSlice t n ps => (parts fr ps.toList).bind fun ps => buildSliceD E.T t n ps H k
  | .makeSlice t l c => (arg fr l).bind fun l => (arg fr c).bind fun c => makeSliceD E.T t l c H k
  | .call c => oCallD E orc o fr H k c
  | .binOp b t x y _ => oBin E.T fr H (splitK E.pol b (arg fr y) k) b t x y
  | _ => evOpC E orc o fr H k
noncomputable def evOpN (E : Env) (orc : Orc) (o : Oper) (fr : Frame) (H : AH) (k : K) : Res :=
  cond E.pol.deep (evOpD E orc o fr H k) (cond E.pol.nrm (evOpT E orc o fr H k) (evOpC E orc o fr H k))
noncomputable def addrOp (op : Op) : Option Operand :=
  match op with
  | .load _ x => some x
  | .store _ x _ => some x
  | .fieldAddr _ x _ => some x
  | .indexAddr _ x _ => some x
  | .nilCheck x => some x
  | _ => none
noncomputable def sureT (op : Op) (fr : Frame) (run : Frame → Res) : Res :=
  match addrOp op with
  | some x => (match x with
    | .tmp d => (match getF fr d with
      | some v => (match v with
        | .pointer oa => bnd oa fun a => run (setF fr d (some (.pointer (some a))))
        | .slice oa l c => bnd oa fun a => run (setF fr d (some (.slice (some a) l c)))
        | _ => run fr)
      | none => run fr)
    | _ => run fr)
  | none => run fr
noncomputable def sureK (pol : Pol) (op : Op) (fr : Frame) (run : Frame → Res) : Res := cond pol.nrm (sureT op fr run) (run fr)
noncomputable def guardK (ops : List Oper) (g : Option (Nat × Bool)) (fr : Frame) (run skip : Res) : Res :=
  match g with
  | none => run
  | some (j, want) =>
    ((getL ops j).bind fun o => o.dst.bind fun d => getF fr d).bind fun v => match v with
      | .bool b => cond want (cond b run skip) (cond b skip run)
      | _ => skip
noncomputable def guardR (ops : List Oper) (g : Option (Nat × Bool)) (fr : Frame) (run skip : Frame → Res) : Res :=
  match g with
  | none => run fr
  | some (j, want) =>
    (getL ops j).bind fun o => o.dst.bind fun d => (getF fr d).bind fun v => match v with
      | .bool b => cond want
          (cond b (run (setF fr d (some (.bool true)))) (skip (setF fr d (some (.bool false)))))
          (cond b (skip (setF fr d (some (.bool true)))) (run (setF fr d (some (.bool false)))))
      | _ => skip fr
noncomputable def evOps (E : Env) (orc : Orc) (ops : List Oper) (l : List Oper) : Frame → AH → (Frame → AH → Res) → Res :=
  List.rec (motive := fun _ => Frame → AH → (Frame → AH → Res) → Res) (fun fr H k => k fr H)
    (fun o _ ih fr H k => guardR ops o.guard fr (fun fr => sureK E.pol o.op fr fun fr => evOpN E orc o fr H fun v H => ih (putF fr o.dst v) H k) (fun fr => ih (putF fr o.dst undef) H k)) l
noncomputable def rank : Op → Nat
  | .move _ | .assign _ | .pick .. | .build .. | .binOp .. | .unOp .. | .makeFunc .. | .slice .. | .fieldAddr .. | .field .. | .indexAddr .. | .index .. | .extract .. | .nilCheck _ => 0
  | .load .. => 1
  | .alloc _ | .box .. | .buildSlice .. | .makeSlice .. | .makeMap .. => 1
  | .call { callee := .builtin .len, .. } => 1
  | .call { callee := .builtin .min, .. } | .call { callee := .builtin .max, .. } => 0
  | .convert .. => 1
  | _ => 2
noncomputable def quietCall (pol : Pol) (op : Op) : Bool :=
  match op with
  | .call c => (match c.callee with
    | .value x => (match x with
      | .func g => Nat.beq (pol.mode g) 2
      | _ => false)
    | _ => false)
  | _ => false
noncomputable def rankP (pol : Pol) (op : Op) : Nat := cond (quietCall pol op) 0 (rank op)
noncomputable def rankAt (pol : Pol) (ops : Array Oper) (i : Nat) : Nat := match ops[i]? with | some o => rankP pol o.op | none => 0
noncomputable def sigma (pol : Pol) (ops : Array Oper) (b : Array Nat) : Nat → Nat → List Nat
  | 0, _ => []
  | n + 1, done =>
    let rd := (List.range ops.size).filter fun i => !done.testBit i && Nat.beq (b.getD i 0 &&& done) (b.getD i 0)
    match rd.find? (fun i => Nat.blt (rankAt pol ops i) 2) with
    | some i => i :: sigma pol ops b n (done ||| 2 ^ i)
    | none => match rd with
      | i :: _ => i :: sigma pol ops b n (done ||| 2 ^ i)
      | [] => []
noncomputable def tmpsOf (o : Oper) : List Tmp := o.op.operands.toList.filterMap fun x => match x with | .tmp t => some t | _ => none
def pairsOk (f : Nat → Nat → Bool) : List Nat → Bool
  | [] => true
  | x :: xs => xs.all (f x) && pairsOk f xs
noncomputable def apartOk (b : Array Nat) (i : Nat) (x : Oper) (j : Nat) (y : Oper) : Bool :=
  match y.dst with
  | none => true
  | some t => Nat.beq i j || ((!(tmpsOf x).contains t || (b.getD (max i j) 0).testBit (min i j)) && (match x.dst with | some d => !(Nat.beq d t) | none => true))
noncomputable def edgeOk (ops : Array Oper) (i : Nat) (o : Oper) : Bool :=
  o.after.toList.all (fun e => !Region.binds .any e || Nat.blt e.on i) &&
  (match o.guard with
   | none => true
   | some (j, _) => o.after.toList.any (fun e => Nat.beq e.on j && Region.binds .any e))
noncomputable def drawOk (pol : Pol) (ops : Array Oper) : Bool :=
  let b := Region.before ops
  let s := sigma pol ops b ops.size 0
  Nat.beq s.length ops.size && (List.range ops.size).all (fun i => s.contains i) && s.all (fun i => Nat.blt i ops.size) &&
  pairsOk (fun x y => !(Nat.beq x y) && !((b.getD x 0).testBit y) && (Nat.blt (rankAt pol ops x) 2 || (b.getD y 0).testBit x)) s &&
  (List.range ops.size).all (fun i => match ops[i]? with
    | some x => edgeOk ops i x && (List.range ops.size).all (fun j => match ops[j]? with | some y => apartOk b i x j y | none => true)
    | none => true)
noncomputable def readAt (o : Oper) (fr : Frame) (H : AH) : Option Nat :=
  match o.op with
  | .alloc _ | .box .. | .buildSlice .. | .makeSlice .. | .makeMap .. => some H.len
  | .load _ x => match arg fr x with | some (.pointer (some a)) => some a.block | _ => none
  | .convert _ _ x => match arg fr x with | some (.slice (some a) l _) => cond (Nat.beq l 0) none (some a.block) | _ => none
  | _ => none
noncomputable def evDraw (E : Env) (orc : Orc) (ops : List Oper) (b : Array Nat) (l : List Nat) : List (Nat × Nat) → Frame → AH → (Frame → AH → Res) → Res :=
  List.rec (motive := fun _ => List (Nat × Nat) → Frame → AH → (Frame → AH → Res) → Res) (fun _ fr H k => k fr H)
    (fun i _ ih memo fr H k => (getL ops i).bind fun o => guardR ops o.guard fr
        (fun fr => sureK E.pol o.op fr fun fr => match rankP E.pol o.op with
         | 0 => evOpN E orc o fr H fun v H => ih memo (putF fr o.dst v) H k
         | 1 => evOpN E orc o fr H fun v H' => ih (match readAt o fr H with | some r => (i, r) :: memo | none => memo) (putF fr o.dst v) H' k
         | _ => evOpN E orc o fr (H.withLock ((memo.filterMap fun (j, r) => cond ((b.getD i 0).testBit j) none (some r)) ++ H.lock)) fun v H' =>
             ih memo (putF fr o.dst v) (H'.withLock H.lock) k)
        (fun fr => ih memo (putF fr o.dst undef) H k)) l
noncomputable def litOp (t0 m : Nat) (o : Oper) : Bool :=
  o.guard.isNone && (match o.dst with | some d => !(Nat.beq d m) | none => true) &&
  (match o.op with
   | .insert t x _ _ => Nat.beq t t0 && (match x with | .tmp u => Nat.beq u m | _ => false) && o.dst.isNone
   | op => Nat.beq (rank op) 0)
noncomputable def isIns (o : Oper) : Bool := match o.op with | .insert .. => true | _ => false
noncomputable def litApart (b : Array Nat) (i : Nat) (x : Oper) (j : Nat) (y : Oper) : Bool :=
  match y.dst with
  | none => true
  | some t => (!(tmpsOf x).contains t || (b.getD i 0).testBit j) && (Nat.beq i j || (match x.dst with | some d => !(Nat.beq d t) | none => true))
noncomputable def litOk (ops : Array Oper) : Bool :=
  (match ops.toList with
   | o :: l => o.guard.isNone && (match o.op with | .makeMap t0 r => r.isNone && (match o.dst with | some m => l.all (litOp t0 m) | none => false) | _ => false)
   | [] => false) &&
  (List.range ops.size).all (fun i => match ops[i]? with
    | some x => edgeOk ops i x && (List.range ops.size).all (fun j => match ops[j]? with | some y => litApart (Region.before ops) i x j y | none => true)
    | none => true)
noncomputable def litDone (n : Nat) (ops : List Oper) (H : AH) : Bool := match getL H.bs n with | some (.map es) => Nat.beq es.length (ops.countP isIns) | _ => false
noncomputable def litPre (T : Ty) (n : Nat) (ops : List Oper) : Bool :=
  match ops with
  | o :: _ => (match o.op with | .makeMap t0 _ => (match T.und t0 with | some d => (match d with | .map _ _ => true | _ => false) | none => false) | _ => false) && (match o.dst with | some m => Nat.blt m n | none => false)
  | [] => false
noncomputable def evLit (E : Env) (orc : Orc) (ops : Array Oper) (fr : Frame) (H : AH) (k : Frame → AH → Res) : Res :=
  cond (litPre E.T fr.length ops.toList) (evOps E orc ops.toList ops.toList fr H fun fr' H' => cond (litDone H.len ops.toList H') (k fr' H') none) none
noncomputable def evDrawn (E : Env) (orc : Orc) (ops : Array Oper) (fr : Frame) (H : AH) (k : Frame → AH → Res) : Res :=
  cond (drawOk E.pol ops) (evDraw E orc ops.toList (Region.before ops) (sigma E.pol ops (Region.before ops) ops.size 0) [] fr H k) (cond (litOk ops) (evLit E orc ops fr H k) none)
inductive Ex where
  | normal
  | exit (id : Nat)
  | ret
  deriving Inhabited
abbrev KC := Ex → Frame → AH → Res
abbrev Lp := (Frame → AH → KC → Res) → Frame → AH → KC → Res
noncomputable def seqK (x : Frame → AH → KC → Res) (k : KC) : KC
  | .normal, fr, H => x fr H k
  | .exit i, fr, H => k (.exit i) fr H
  | .ret, fr, H => k .ret fr H
noncomputable def blockK (id : Nat) (k : KC) : KC
  | .normal, fr, H => k .normal fr H
  | .exit i, fr, H => cond (Nat.beq i id) (k .normal fr H) (k (.exit i) fr H)
  | .ret, fr, H => k .ret fr H
noncomputable def evRegion (E : Env) (orc : Orc) (f : FuncId) (id : Nat) (ops : Array Oper) (draw : Bool) (fr : Frame) (H : AH) (k : KC) : Res :=
  match draw with
  | false => evOps E orc ops.toList ops.toList (clearF fr (E.pol.clear f id)) H (k .normal)
  | true => evDrawn E orc ops (clearF fr (E.pol.clear f id)) H (k .normal)
noncomputable def condK (fr : Frame) (c : Operand) (x y : Res) : Res := (arg fr c).bind fun v => asB v fun t => cond t x y
noncomputable def condR (fr : Frame) (c : Operand) (x y : Frame → Res) : Res :=
  match c with
  | .tmp d => (getF fr d).bind fun v => asB v fun t => cond t (x (setF fr d (some (.bool true)))) (y (setF fr d (some (.bool false))))
  | c => condK fr c (x fr) (y fr)
noncomputable def headId (c : Code) : Option Nat :=
  Code.rec (motive := fun _ => Option Nat) none (fun id _ _ => some id) (fun _ _ iha ihb => match iha with | some i => some i | none => ihb) (fun _ _ _ _ _ => none) (fun _ _ ih => ih) (fun _ ih => ih)
    (fun _ _ _ _ _ _ => none) (fun _ => none) (fun _ _ => none) (fun _ => none) (fun _ => none) none (fun _ => none) c
noncomputable def headClear (pol : Pol) (f : FuncId) (c : Code) : List Nat := match headId c with | some id => pol.clear f id | none => []
noncomputable def clrK (ds : List Nat) (k : KC) : KC
  | .normal, fr, H => k .normal (clearF fr ds) H
  | .exit i, fr, H => k (.exit i) fr H
  | .ret, fr, H => k .ret fr H
noncomputable def evCode (E : Env) (orc : Orc) (lp : Lp) (f : FuncId) (c : Code) : Frame → AH → KC → Res :=
  Code.rec (motive := fun _ => Frame → AH → KC → Res)
    (fun fr H k => k .normal fr H)                                  -- skip
    (fun id ops draw fr H k => evRegion E orc f id ops draw fr H k)  -- region
    (fun _ _ iha ihb fr H k => iha fr H (seqK ihb k))               -- seq
    (fun c _ _ iha ihb fr H k => condR fr c (fun fr => iha fr H k) (fun fr => ihb fr H k))   -- cond
    (fun id _ ih fr H k => ih fr H (blockK id k))                   -- block
    (fun c ih fr H k => lp (fun fr H k => ih fr H (clrK (headClear E.pol f c) k)) (clearF fr (headClear E.pol f c)) H k)   -- loop
    (fun _ _ _ _ _ _ _ _ _ => none)                                -- rangeFunc
    (fun id fr H k => k (.exit id) fr H)                            -- exit
    (fun _ _ _ _ _ => none)                                         -- scope
    (fun _ fr H k => k .normal fr H)                                -- label
    (fun _ _ _ _ => none)                                           -- goto
    (fun fr H k => k .ret fr H)                                     -- ret
    (fun _ _ _ _ => none) c                                         -- refuse
noncomputable def loopN (step : Frame → AH → KC → Res) (n : Nat) : Frame → AH → KC → Res :=
  Nat.rec (motive := fun _ => Frame → AH → KC → Res) (fun _ _ _ => none) (fun _ ih fr H k => step fr H (seqK ih k)) n
noncomputable def subC : List Nat → Code → Code
  | [], c => c
  | i :: p, c => match c with
    | .seq a b => cond (Nat.beq i 0) (subC p a) (subC p b)
    | .cond _ a b => cond (Nat.beq i 0) (subC p a) (subC p b)
    | .block _ a => subC p a
    | .loop a => subC p a
    | c => c
noncomputable def stepC (E : Env) (orc : Orc) (m : Nat) (f : FuncId) (a : Code) : Frame → AH → KC → Res :=
  fun fr H k => evCode E orc (fun s => loopN s m) f a fr H (clrK (headClear E.pol f a) k)
noncomputable def kontC (E : Env) (orc : Orc) (m : Nat) (f : FuncId) : List Nat → List Nat → Code → KC → KC
  | [], _, _, k => k
  | i :: p, ns, c, k => match c with
    | .seq a b => cond (Nat.beq i 0) (kontC E orc m f p ns a (seqK (evCode E orc (fun s => loopN s m) f b) k)) (kontC E orc m f p ns b k)
    | .cond _ a b => cond (Nat.beq i 0) (kontC E orc m f p ns a k) (kontC E orc m f p ns b k)
    | .block id a => kontC E orc m f p ns a (blockK id k)
    | .loop a => match ns with
      | n :: ns => kontC E orc m f p ns a (clrK (headClear E.pol f a) (seqK (loopN (stepC E orc m f a) n) k))
      | [] => k
    | _ => k
noncomputable def resK (T : Ty) (fr : Frame) (H : AH) (rs : List ResultVar) : (List Value → Res) → Res :=
  List.rec (motive := fun _ => (List Value → Res) → Res) (fun k => k [])
    (fun r _ ih k => match r with
      | .tmp t => (getF fr t).bind fun v => ih fun vs => k (v :: vs)
      | .cell t ty => (getF fr t).bind fun a => asPtr a fun a =>
        cond (isAggT T ty) (sizeT T ty fun s => loadN H a s fun cs => ih fun vs => k (.agg cs.toArray :: vs))
          (load1 H a fun v => cond (T.get ty).isSome (ih fun vs => k (v :: vs)) none)) rs
noncomputable def resKN (E : Env) (fr : Frame) (H : AH) (rs : List ResultVar) : (List Value → Res) → Res :=
  List.rec (motive := fun _ => (List Value → Res) → Res) (fun k => k [])
    (fun r _ ih k => match r with
      | .tmp t => (getF fr t).bind fun v => ih fun vs => k (v :: vs)
      | .cell t ty => (getF fr t).bind fun a => asPtr a fun a => bnd (ldX E ty ty a H) fun v => ih fun vs => k (nrmR E ty v :: vs)) rs
noncomputable def resE (E : Env) (fr : Frame) (H : AH) (rs : List ResultVar) (k : List Value → Res) : Res := cond E.pol.nrm (resKN E fr H rs k) (resK E.T fr H rs k)
noncomputable def evEnd (E : Env) (fn : Func) : KC
  | .exit _, _, _ => none
  | .normal, fr, H => resE E fr H fn.results.toList fun vs => match vs with | [v] => some (v, H) | vs => some (.tuple vs.toArray, H)
  | .ret, fr, H => resE E fr H fn.results.toList fun vs => match vs with | [v] => some (v, H) | vs => some (.tuple vs.toArray, H)
noncomputable def evBody (E : Env) (orc : Orc) (lp : Lp) (f : FuncId) (as : List Value) (H : AH) : Res :=
  (E.P.funcs[f]?).bind fun fn => fn.body.bind fun c => evCode E orc lp f c (initF fn.ntmps as) H (evEnd E fn)
noncomputable def loopAt (E : Env) (orc : Orc) (m : Nat) (f : FuncId) (p : List Nat) (ns : List Nat) (n : Nat) (fr : Frame) (H : AH) : Res :=
  (E.P.funcs[f]?).bind fun fn => fn.body.bind fun c => match subC p c with
    | .loop a => loopN (stepC E orc m f a) n fr H (kontC E orc m f p ns c (evEnd E fn))
    | _ => none
structure Sl where
  a : Option Addr
  l : Nat
  c : Nat
structure Cl where
  g : Nat
  f : List Value
  c : List Value
noncomputable def evFun (E : Env) (n : Nat) : Orc :=
  Nat.rec (motive := fun _ => Orc) (fun _ _ _ => none) (fun n ih f vs H => evBody E ih (fun s => loopN s n) f vs H) n
end Go.Proofs.Yteljeekapcenlaa.Ev
