/- The model's code, read as the small machine's. -/
import Derived.Test.YtigglifniejbpaaAM2
set_option linter.unusedVariables false
set_option linter.unusedSimpArgs false
namespace Go.AM

def ofC1 : Value → Option V
  | .bool b => some (.tf b)
  | .int k n => some (.int k n)
  | .string s => some (.str s)
  | .slice none 0 0 => some .nsl
  | .pointer none => some .nilp
  | .nilFunc => some .nilfn
  | .nilIface => some .nili
  | _ => none

def ofCs : List Value → Option (List V)
  | [] => some []
  | v :: r => match ofC1 v, ofCs r with
    | some x, some xs => some (x :: xs)
    | _, _ => none

def ofC : Value → Option V
  | .agg cs => match ofCs cs.toList with
    | some vs => some (.agg vs)
    | none => none
  | v => ofC1 v

def trO : Operand → Option O
  | .tmp t => some (.t t)
  | .const v => match ofC v with
    | some x => some (.c x)
    | none => none
  | .func f => some (.c (.fn f [] []))
  | .global _ => none

def trOs : List Operand → Option (List O)
  | [] => some []
  | x :: r => match trO x, trOs r with
    | some y, some ys => some (y :: ys)
    | _, _ => none

def fieldsTy (g : TypeId → Option Ty) : List Field → Option Ty
  | [] => some .unit
  | [f] => g f.type
  | f :: r => match g f.type, fieldsTy g r with
    | some a, some b => some (.prod a b)
    | _, _ => none

def tyOf (P : Program) : Nat → TypeId → Option Ty
  | 0, _ => none
  | n + 1, t => match P.underlying t with
    | some .bool => some .bool
    | some (.int k) => some (.int k)
    | some .string => some .str
    | some (.slice e) => (tyOf P n e).map .list
    | some (.struct fs) => fieldsTy (tyOf P n) fs.toList
    | _ => none

def sizeT (P : Program) (t : TypeId) : Option Nat := (P.info? t).map (·.size)

def aggT (P : Program) (t : TypeId) : Option Bool := match P.underlying t with
  | some (.struct _) => some true
  | some (.array _ _) => some true
  | some _ => some false
  | none => none

/-- Is this the zero of data of the type, one cell? -/
def zero1 : Ty → Value → Bool
  | .bool, .bool b => !b
  | .str, .string s => s.size == 0
  | .int k, .int k' n => decide (k = k') && n == 0
  | .list _, .slice none 0 0 => true
  | _, _ => false

/-- The same, cell by cell. -/
def zeroOk : Ty → List Value → Option (List Value)
  | .unit, vs => some vs
  | .prod a b, vs => match zeroOk a vs with
    | some r => zeroOk b r
    | none => none
  | .bool, v :: r => if zero1 .bool v then some r else none
  | .str, v :: r => if zero1 .str v then some r else none
  | .int k, v :: r => if zero1 (.int k) v then some r else none
  | .list t, v :: r => if zero1 (.list t) v then some r else none
  | _, [] => none

def fpath (n f : Nat) : List Bool := if f + 1 = n then List.replicate f true else List.replicate f true ++ [false]

def binOf : BinOp → Option IBin
  | .add => some .add
  | .sub => some .sub
  | .mul => some .mul
  | .quo => some .quo
  | .rem => some .rem
  | .and => some .and
  | .or => some .or
  | .xor => some .xor
  | .andNot => some .andNot
  | .shl => some .shl
  | .shr => some .shr
  | .eql => some .eql
  | .neq => some .neq
  | .lss => some .lss
  | .leq => some .leq
  | .gtr => some .gtr
  | .geq => some .geq

def maxBytes : Nat := 1024

/-- What an element's type must be for lists of it to be made: its size, its zero, its bytes. -/
def elemOk (P : Program) (e : TypeId) : Option Nat := match P.info? e with
  | some i => match i.zero with
    | some z => if i.bytes ≤ maxBytes ∧ z.cells.size = i.size then some i.size else none
    | none => none
  | none => none

def partsOf (place : Nat → Option (Nat × Nat)) : List (Nat × Operand) → Option (List (Nat × Nat × O))
  | [] => some []
  | (i, x) :: r => match place i, trO x, partsOf place r with
    | some (off, k), some y, some ys => some ((off, k, y) :: ys)
    | _, _, _ => none

def inOrder : Nat → List (Nat × Operand) → Option (List O)
  | _, [] => some []
  | n, (i, x) :: r => if i = n then (match trO x, inOrder (n + 1) r with
    | some y, some ys => some (y :: ys)
    | _, _ => none) else none

def trOO : Option Operand → Option (Option O)
  | none => some none
  | some x => (trO x).map some

def fieldAtT (P : Program) (s : TypeId) (f : Nat) : Option (Field × Nat) := match P.underlying s with
  | some (.struct fs) => match fs[f]? with
    | some fd => some (fd, fs.size)
    | none => none
  | _ => none

def eqlOp : BinOp → Option Bool
  | .eql => some false
  | .neq => some true
  | _ => none

/-- Each field is one plain cell, one behind the other, none of them blank. -/
def flatF (P : Program) : Nat → List Field → Option (List Kd)
  | _, [] => some []
  | n, f :: r => if f.name ≠ "_" ∧ f.offset = n then (match P.underlying f.type, flatF P (n + 1) r with
    | some .bool, some ks => some (.b :: ks)
    | some (.int _), some ks => some (.i :: ks)
    | some .string, some ks => some (.s :: ks)
    | _, _ => none) else none

/-- Of a struct's type: how it is compared. -/
def structEq (P : Program) (t : TypeId) : Option (List Kd) := match P.underlying t with
  | some (.struct fs) => if P.eqGuardType P.depth t = false ∧ P.stoodInHeld t = false then flatF P 0 fs.toList else none
  | _ => none

def trB (P : Program) (b : Builtin) (tys : List TypeId) (args : List Operand) : Option I :=
  match b, tys, args with
  | .len, [t], [x] => match P.underlying t with
    | some .string => (trO x).map .lens
    | some (.slice _) => (trO x).map .len
    | some (.array n _) => some (.lenA n)
    | some (.pointer a) => match P.underlying a with
      | some (.array n _) => some (.lenA n)
      | _ => none
    | _ => none
  | .append, [t, u], [x, y] => match P.underlying t, P.underlying u with
    | some (.slice e), some (.slice _) => match elemOk P e, trO x, trO y with
      | some k, some x, some y => some (.append k x y)
      | _, _, _ => none
    | _, _ => none
  | .max, _, x :: r => match trO x, trOs r with
    | some x, some ys => some (.minmax true x ys)
    | _, _ => none
  | .min, _, x :: r => match trO x, trOs r with
    | some x, some ys => some (.minmax false x ys)
    | _, _ => none
  | _, _, _ => none

def trI (P : Program) (o : Op) : Option I :=
  match o with
  | .move x => (trO x).map .mv
  | .assign x => (trO x).map .mv
  | .pick c a b => match trO c, trO a, trO b with
    | some c, some a, some b => some (.pick c a b)
    | _, _, _ => none
  | .alloc e => match P.info? e with
    | some i => match i.zero with
      | some z => (ofCs z.cells.toList).map .alloc
      | none => none
    | none => none
  | .box _ x => (trO x).map .box
  | .build t parts => match P.info? t, P.underlying t with
    | some it, some (.struct fields) => match it.zero, fields.toList.mapM (fun f => (P.info? f.type).map fun i => (f.offset, i.size)) with
      | some z, some places => match ofCs z.cells.toList, partsOf (places.toArray[·]?) parts.toList with
        | some z, some ps => some (.build z ps)
        | _, _ => none
      | _, _ => none
    | _, _ => none
  | .buildSlice t n parts => match P.underlying t with
    | some (.slice e) => match tyOf P 8 e, elemOk P e, inOrder 0 parts.toList with
      | some ty, some k, some xs => if ty.sz = k ∧ xs.length = n ∧ n * k ≤ 2 ^ 20 then some (.bslice ty xs) else none
      | _, _, _ => none
    | _ => none
  | .load t x => match sizeT P t, aggT P t, trO x with
    | some k, some g, some x => some (.load g k x)
    | _, _, _ => none
  | .store t a x => match sizeT P t, trO a, trO x with
    | some k, some a, some x => some (.store k a x)
    | _, _, _ => none
  | .binOp op t x y _ => match trO x, trO y with
    | some x, some y => match structEq P t with
      | some ks => match eqlOp op with
        | some n => some (.eqs n ks x y)
        | none => none
      | none => match P.underlying t with
        | some .bool => (eqlOp op).map (.eqb · x y)
        | some (.int _) => (binOf op).map (.bin · x y)
        | some .string => (binOf op).map (.bin · x y)
        | _ => none
    | _, _ => none
  | .unOp .neg _ x => (trO x).map .neg
  | .unOp .not _ x => (trO x).map .not
  | .convert s d x => match P.underlying s, P.underlying d with
    | some (.int _), some (.int k) => (trO x).map (.conv k)
    | _, _ => none
  | .makeFunc (.func f) a b => match trOs a.toList, trOs b.toList with
    | some a, some b => some (.mkfn f a b)
    | _, _ => none
  | .makeSlice t (.tmp n) (.tmp m) => if n = m then (match P.underlying t with
    | some (.slice e) => match tyOf P 8 e, elemOk P e, P.info? e with
      | some ty, some k, some i => match i.zero with
        | some z => match zeroOk ty z.cells.toList with
          | some [] => if ty.sz = k ∧ z.cells.size = k then some (.mkslice ty (.t n)) else none
          | _ => none
        | none => none
      | _, _, _ => none
    | _ => none) else none
  | .slice t x lo hi mx => match P.underlying t with
    | some (.slice e) => match sizeT P e, trO x, trOO lo, trOO hi, trOO mx with
      | some k, some x, some lo, some hi, some mx => some (.slice k x lo hi mx)
      | _, _, _, _, _ => none
    | _ => none
  | .fieldAddr s x f => match fieldAtT P s f with
    | some (fd, n) => match sizeT P fd.type, trO x with
      | some (_ + 1), some x => some (.fld fd.offset (fpath n f) x)
      | _, _ => none
    | none => none
  | .field s x f => match fieldAtT P s f with
    | some (fd, _) => match sizeT P fd.type, aggT P fd.type, trO x with
      | some k, some g, some x => some (.field g fd.offset k x)
      | _, _, _ => none
    | none => none
  | .indexAddr t x i => match P.underlying t, trO x, trO i with
    | some (.slice e), some x, some i => (sizeT P e).map fun k => .idx k x i
    | some (.array n e), some x, some i => (sizeT P e).map fun k => .idxA n k x i
    | _, _, _ => none
  | .extract x k => (trO x).map (.ext k)
  | .call { callee := .builtin b, args, argTypes } => trB P b argTypes.toList args.toList
  | _ => none

def trG (ops : Array Oper) : Option (Nat × Bool) → Option (Option (Nat × Bool))
  | none => some none
  | some (j, b) => match ops[j]? with
    | some o => match o.dst with
      | some d => some (some (d, b))
      | none => none
    | none => none

def dstOk (N : Nat) : Option Nat → Bool
  | none => true
  | some d => d < N

def trItm (P : Program) (N : Nat) (ops : Array Oper) (o : Oper) : Option Itm :=
  if dstOk N o.dst then
    match trG ops o.guard with
    | none => none
    | some g =>
      match o.op with
      | .call { callee := .value f, args, argTypes } => match trO f, trOs args.toList with
        | some f, some args => some (.call o.dst g f args (argTypes.toList.map (tyOf P 8)))
        | _, _ => none
      | op => match trI P op with
        | some i => some (.op o.dst g i)
        | none => none
  else none

def trItms (P : Program) (N : Nat) (ops : Array Oper) : List Oper → Option (List Itm)
  | [] => some []
  | o :: r => match trItm P N ops o, trItms P N ops r with
    | some i, some is => some (i :: is)
    | _, _ => none

/-- What stands before each operation, whatever the order. -/
def predsOf (ops : Array Oper) : List (List Nat) := (Region.before ops).toList.map fun m => (List.range ops.size).filter fun j => m.testBit j

def I.os : I → List O
  | .mv x => [x]
  | .pick c a b => [c, a, b]
  | .alloc _ => []
  | .box x => [x]
  | .build _ ps => ps.map (·.2.2)
  | .bslice _ xs => xs
  | .load _ _ x => [x]
  | .store _ a x => [a, x]
  | .bin _ x y => [x, y]
  | .eqb _ x y => [x, y]
  | .eqs _ _ x y => [x, y]
  | .neg x => [x]
  | .not x => [x]
  | .conv _ x => [x]
  | .fld _ _ x => [x]
  | .field _ _ _ x => [x]
  | .idx _ x i => [x, i]
  | .idxA _ _ x i => [x, i]
  | .ext _ x => [x]
  | .len x => [x]
  | .lens x => [x]
  | .lenA _ => []
  | .append _ x y => [x, y]
  | .mkslice _ n => [n]
  | .mkfn _ a b => a ++ b
  | .slice _ x lo hi mx => x :: (lo.toList ++ hi.toList ++ mx.toList)
  | .minmax _ x ys => x :: ys

def slotO : O → List Nat
  | .t n => [n]
  | .c _ => []

def Itm.dst : Itm → Option Nat
  | .op d _ _ => d
  | .call d _ _ _ _ => d

def Itm.grd : Itm → Option (Nat × Bool)
  | .op _ g _ => g
  | .call _ g _ _ _ => g

def Itm.os : Itm → List O
  | .op _ _ i => i.os
  | .call _ _ f as _ => f :: as

/-- The slots that an item reads. -/
def Itm.uses (i : Itm) : List Nat := i.os.flatMap slotO ++ (match i.grd with
  | some (s, _) => [s]
  | none => [])

def notIn' (d : Option Nat) (l : List Nat) : Bool := match d with
  | some t => !(l.contains t)
  | none => true

/-- Two items whose slots have nothing to do with each other. -/
def slotsApart (a b : Itm) : Bool := notIn' a.dst b.uses && notIn' b.dst a.uses && (match a.dst with
  | some t => b.dst != some t
  | none => true)

def slotsOk (preds : List (List Nat)) (is : List Itm) : Bool :=
  (List.range is.length).all fun j => (List.range j).all fun i => ((preds.getD j []).contains i) || (match is[i]?, is[j]? with
    | some a, some b => slotsApart a b
    | _, _ => true)

def edgesOk (ops : Array Oper) : Bool := ops.toList.zipIdx.all fun (o, i) => o.after.all fun e => !(Region.binds .any e) || decide (e.on < i)

def trC (P : Program) (N : Nat) : Code → Option C
  | .skip => some .skip
  | .label _ => some .skip
  | .scope c => trC P N c
  | .region _ ops draw => match trItms P N ops ops.toList with
    | some is => match draw with
      | true => if slotsOk (predsOf ops) is = true ∧ edgesOk ops = true then some (.draw (predsOf ops) is) else none
      | false => some (.reg is)
    | none => none
  | .seq a b => match trC P N a, trC P N b with
    | some a, some b => some (.seq a b)
    | _, _ => none
  | .cond c a b => match trO c, trC P N a, trC P N b with
    | some c, some a, some b => some (.cond c a b)
    | _, _, _ => none
  | .block id c => (trC P N c).map (.block id)
  | .loop c => (trC P N c).map .loop
  | .exit id => some (.exit id)
  | .ret => some .ret
  | .rangeFunc f ps a b => match trO f, trC P N a, trC P N b with
    | some f, some a, some b => some (.rangeF f ps.toList a b)
    | _, _, _ => none
  | _ => none

/-- A function's results: its slots, or cells behind slots with their sizes. -/
inductive RV where
  | t (n : Nat)
  | cell (n : Nat) (agg : Bool) (k : Nat)

structure Fn where
  N : Nat
  np : Nat
  body : C
  res : List RV
  tys : List (Option Ty)

def trR (P : Program) : List ResultVar → Option (List RV)
  | [] => some []
  | .tmp t :: r => (trR P r).map (.t t :: ·)
  | .cell a t :: r => match sizeT P t, aggT P t, trR P r with
    | some k, some g, some rs => some (.cell a g k :: rs)
    | _, _, _ => none

def trF (P : Program) (f : Func) : Option Fn := match f.body with
  | some c => match trC P f.ntmps c, trR P f.results.toList with
    | some b, some rs => if f.params.size + f.nfree ≤ f.ntmps then some ⟨f.ntmps, f.params.size + f.nfree, b, rs, f.resultTypes.toList.map (tyOf P 8)⟩ else none
    | _, _ => none
  | none => none
end Go.AM
