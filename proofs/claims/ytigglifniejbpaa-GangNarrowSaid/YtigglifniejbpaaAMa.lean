/- A small typed machine: its data, its values, its heap, its operations. Nothing here speaks of the model's runs. How the small machine's values and heap stand for the model's. The model's code, read as the small machine's. The small machine's code: what must hold for it to end well. The small machine's heap in the model's world. What is read and written, small machine and model. Data out of cells and into them. Each operation of the small machine is the model's: loads, stores, new blocks. Each operation of the small machine is the model's: literals, stores, append, make. Each operation of the small machine is the model's: append, make, slices. Each operation of the small machine is the model's: the plain ones; all of them. Each operation of the small machine is the model's: all of them. Each operation of the small machine is the model's: slices of slices; the sum. Each operation of the small machine is the model's: the sum. The small machine's code is the model's: what is said of calls, loops and rounds; a region's items. The small machine's code is the model's: sequences, tests, blocks, loops. A function's contract: data in, data out. A function's contract out of its code. States that stand for as much: at a loop's head. Calls of functions whose contract speaks of data. -/
import Derived.Deep.MidRow
import Derived.Deep.AppendSrc
import Derived.RangeFuncNested
import Derived.RangeFuncLeaves
import Derived.KernelRfl
import Derived.Laws.StructEq
set_option linter.unusedVariables false
set_option linter.unusedSimpArgs false
section
namespace Go.AM
/-- The types of plain data. -/
inductive Ty where
 | unit | bool | str | int (k : IntKind) | list (t : Ty) | prod (a b : Ty)
 deriving DecidableEq
@[reducible] def Ty.den : Ty → Type
 | .unit => Unit
 | .bool => Bool
 | .str => ByteArray
 | .int _ => Int
 | .list t => List t.den
 | .prod a b => a.den × b.den
def Ty.sz : Ty → Nat
 | .unit => 0
 | .prod a b => a.sz + b.sz
 | .bool => 1
 | .str => 1
 | .int _ => 1
 | .list _ => 1
def Ty.zero : (t : Ty) → t.den
 | .unit => ()
 | .bool => false
 | .str => ByteArray.empty
 | .int _ => (0 : Int)
 | .list _ => []
 | .prod a b => (a.zero, b.zero)
/-- A value of the machine: 'any' is one of which nothing is known; 'sl', 'ptr', 'ep', 'yl' name a block of the machine's heap, all else is data. -/
inductive V where
 | any
 | tf (b : Bool)
 | bool (b : Bool)
 | int (k : IntKind) (n : Int)
 | str (s : ByteArray)
 | nilp
 | nilfn
 | nili
 | lst (t : Ty) (xs : List t.den)
 | nsl
 | sl (id : Nat) (t : Ty) (lo n : Nat)
 | ptr (id off : Nat)
 | ipc (cells : List V)
 | ep (id : Nat) (t : Ty) (i : Nat) (p : List Bool)
 | ip (t : Ty) (x : t.den)
 | fn (f : Nat) (first captured : List V)
 | yl (id : Nat)
 | agg (cs : List V)
 | tup (vs : List V)
 | ifc (t : TypeId) (v : V)
/-- The cells of a value that is known. -/
def V.cells? : V → Option (List V)
 | .agg cs => some cs
 | .any => none
 | .tup _ => none
 | v => some [v]
/-- What stands in a slot: nothing known if nothing was put there. -/
def get (t : Nat) : List (Nat × V) → V
 | [] => .any
 | (s, v) :: r => match Nat.beq s t with
  | true => v
  | false => get t r
inductive O where
 | t (n : Nat)
 | c (v : V)
def O.ev (x : O) (env : List (Nat × V)) : V :=
 match x with
 | .t n => get n env
 | .c v => v
inductive IBin where
 | add | sub | mul | quo | rem | and | or | xor | andNot | shl | shr | eql | neq | lss | leq | gtr | geq
 deriving DecidableEq
/-- What a plain cell holds. -/
inductive Kd where
 | b | i | s
/-- The operations, their types resolved. -/
inductive I where
 | mv (x : O)
 | pick (c a b : O)
 | alloc (z : List V)
 | box (x : O)
 | build (z : List V) (parts : List (Nat × Nat × O))
 | bslice (t : Ty) (xs : List O)
 | load (agg : Bool) (k : Nat) (x : O)
 | store (k : Nat) (a x : O)
 | bin (op : IBin) (x y : O)
 | eqb (neg : Bool) (x y : O)
 | eqs (neg : Bool) (ks : List Kd) (x y : O)
 | neg (x : O)
 | not (x : O)
 | conv (k : IntKind) (x : O)
 | fld (off : Nat) (path : List Bool) (x : O)
 | field (agg : Bool) (off k : Nat) (x : O)
 | idx (esz : Nat) (x i : O)
 | idxA (len esz : Nat) (x i : O)
 | ext (k : Nat) (x : O)
 | len (x : O)
 | lens (x : O)
 | lenA (n : Nat)
 | append (esz : Nat) (x y : O)
 | mkslice (t : Ty) (n : O)
 | mkfn (f : Nat) (first captured : List O)
 | slice (esz : Nat) (x : O) (lo hi mx : Option O)
 | minmax (mx : Bool) (x : O) (ys : List O)
/-- An operation or a call, with its slot and its guard (a slot, and what must stand there). -/
inductive Itm where
 | op (dst : Option Nat) (g : Option (Nat × Bool)) (i : I)
 | call (dst : Option Nat) (g : Option (Nat × Bool)) (f : O) (args : List O) (tys : List (Option Ty))
/-- Code. 'preds': of a region whose order is drawn, what stands before each item whatever the order. -/
inductive C where
 | skip
 | reg (items : List Itm)
 | draw (preds : List (List Nat)) (items : List Itm)
 | seq (a b : C)
 | cond (c : O) (a b : C)
 | block (id : Nat) (c : C)
 | loop (c : C)
 | exit (id : Nat)
 | ret
 | rangeF (f : O) (params : List Nat) (assign body : C)
inductive Ex where
 | normal
 | exit (id : Nat)
 | ret
inductive LState where
 | ready | busy | done | exhausted
 deriving DecidableEq
/-- A block of the machine's heap: cells of known number, or a list of data; 'fz': it is written no more. A loop over a function: its record. -/
inductive Blk where
 | cells (cs : List V) (fz : Bool)
 | arr (t : Ty) (xs : List t.den) (fz : Bool)
 | loop (st : LState) (jump : Option Ex) (d : Nat) (env : List (Nat × V)) (params : List Nat) (assign body : C) (N : Nat)
 | dfr
abbrev Blks := List (Nat × Blk)
def bget (id : Nat) : Blks → Option Blk
 | [] => none
 | (s, b) :: r => match Nat.beq s id with
  | true => some b
  | false => bget id r
def bdel (id : Nat) : Blks → Blks
 | [] => []
 | (s, b) :: r => match Nat.beq s id with
  | true => bdel id r
  | false => (s, b) :: bdel id r
structure Heap where
 next : Nat
 bl : Blks
/-- What an operation does to the heap. -/
abbrev Upd := List (Nat × Option Blk)
def bupd : Upd → Blks → Blks
 | [], bl => bl
 | (id, none) :: r, bl => bupd r (bdel id bl)
 | (id, some b) :: r, bl => bupd r ((id, b) :: bdel id bl)
/-- 'mk': the blocks for the rounds' deferred calls that this activation has laid. -/
structure St where
 env : List (Nat × V)
 H : Heap
 ms : List Nat
/-- What stays closed while the machine runs on names: arithmetic, lists of unknown length, and what is said of calls and loops. -/
structure Ar where
 add : Int → Int → Int
 sub : Int → Int → Int
 mul : Int → Int → Int
 quo : Int → Int → Int
 rem : Int → Int → Int
 bits : IBin → IntKind → Int → Int → Int
 shr : Int → Int → Int
 shl : Int → Int → Int
 imin : Int → Int → Int
 imax : Int → Int → Int
 eq : Int → Int → Bool
 lt : Int → Int → Bool
 le : Int → Int → Bool
 beq : Bool → Bool → Bool
 seq : ByteArray → ByteArray → Bool
 slt : ByteArray → ByteArray → Bool
 slen : ByteArray → Int
 band : Bool → Bool → Bool
 bnot : Bool → Bool
 bite : Bool → Bool → Bool → Bool
 rng : IntKind → Int → Bool
 inb : Int → Int → Bool
 ilt : Nat → Nat → Bool
 len : {α : Type} → List α → Nat
 get : {α : Type} → α → List α → Nat → α
 set : {α : Type} → List α → Nat → α → List α
 sub' : {α : Type} → List α → Nat → Nat → List α
 app : {α : Type} → List α → List α → List α
 rep : {α : Type} → Nat → α → List α
 nadd : Nat → Nat → Nat
 nsub : Nat → Nat → Nat
 toN : Int → Nat
 call : Nat → List V → Heap → (V → Heap → Prop) → Prop
 pcall : Nat → List V → V → Prop
 loop : C → St → (Ex → St → Prop) → Prop
 round : Nat → List V → Heap → (V → Heap → Prop) → Prop
 rangeF : O → List Nat → C → C → St → (Ex → St → Prop) → Prop
/-- Data from one type at another that is the same. -/
def castL (t t' : Ty) (xs : List t.den) : Option (List t'.den) := if h : t = t' then some (h ▸ xs) else none
def toVs : (t : Ty) → t.den → List V
 | .unit, _ => []
 | .bool, b => [.bool b]
 | .str, s => [.str s]
 | .int k, n => [.int k n]
 | .list t, xs => [.lst t xs]
 | .prod a b, x => toVs a x.1 ++ toVs b x.2
/-- Data out of cells; the blocks that are read for it are written no more. -/
def ofVs (ar : Ar) (bl : Blks) : (t : Ty) → List V → Option (t.den × Upd × List V)
 | .unit, vs => some ((), [], vs)
 | .bool, .bool b :: r => some (b, [], r)
 | .bool, .tf b :: r => some (b, [], r)
 | .str, .str s :: r => some (s, [], r)
 | .int k, .int k' n :: r => if k = k' then some (n, [], r) else none
 | .list t, .lst t' xs :: r => match castL t' t xs with
  | some ys => some (ys, [], r)
  | none => none
 | .list _, .nsl :: r => some ([], [], r)
 | .list t, .sl id t' lo n :: r => match bget id bl with
  | some (.arr t'' xs _) =>
   if t' = t'' then
    match castL t'' t xs with
    | some ys => some (ar.sub' ys lo n, [(id, some (.arr t'' xs true))], r)
    | none => none
   else none
  | _ => none
 | .prod a b, vs => match ofVs ar bl a vs with
  | some (x, u, r) => match ofVs ar bl b r with
   | some (y, u', r') => some ((x, y), u ++ u', r')
   | none => none
  | none => none
 | _, _ => none
def getP : (t : Ty) → t.den → List Bool → Option (Σ t' : Ty, t'.den)
 | t, x, [] => some ⟨t, x⟩
 | .prod a _, x, false :: p => getP a x.1 p
 | .prod _ b, x, true :: p => getP b x.2 p
 | _, _, _ => none
def Ty.atP : Ty → List Bool → Option Ty
 | t, [] => some t
 | .prod a _, false :: p => a.atP p
 | .prod _ b, true :: p => b.atP p
 | _, _ => none
def Ty.offP : Ty → List Bool → Nat
 | .prod a _, false :: p => a.offP p
 | .prod a b, true :: p => a.sz + b.offP p
 | _, _ => 0
/-- Data with a part set out of cells. -/
def setP (ar : Ar) (bl : Blks) : (t : Ty) → t.den → List Bool → List V → Option (t.den × Upd)
 | t, _, [], vs => match ofVs ar bl t vs with
  | some (y, u, []) => some (y, u)
  | _ => none
 | .prod a _, x, false :: p, vs => match setP ar bl a x.1 p vs with
  | some (y, u) => some ((y, x.2), u)
  | none => none
 | .prod _ b, x, true :: p, vs => match setP ar bl b x.2 p vs with
  | some (y, u) => some ((x.1, y), u)
  | none => none
 | _, _, _, _ => none
/-- A list of data out of values, one element each. -/
def ofVl (ar : Ar) (bl : Blks) (t : Ty) : List V → Option (List t.den × Upd)
 | [] => some ([], [])
 | v :: r => match v.cells? with
  | some vs => match ofVs ar bl t vs with
   | some (x, u, []) => match ofVl ar bl t r with
    | some (xs, u') => some (x :: xs, u ++ u')
    | none => none
   | _ => none
  | none => none
/-- Cells off .. off + k of a list, if they are there. -/
def cut (off k : Nat) (cs : List V) : Option (List V) :=
 if off + k ≤ cs.length then some ((cs.drop off).take k) else none
def wrapC (agg : Bool) (cs : List V) : Option V :=
 match agg, cs with
 | true, cs => some (.agg cs)
 | false, [c] => some c
 | false, _ => none
def setCs : Nat → List V → List V → Option (List V)
 | 0, vs, cs => if vs.length ≤ cs.length then some (vs ++ cs.drop vs.length) else none
 | off + 1, vs, c :: cs => match setCs off vs cs with
  | some r => some (c :: r)
  | none => none
 | _ + 1, _, [] => none
def fillV : List (Nat × Nat × O) → List (Nat × V) → List V → Option (List V)
 | [], _, cs => some cs
 | (off, k, x) :: r, env, cs =>
  match (x.ev env).cells? with
  | some vs => if vs.length = k then (match setCs off vs cs with
   | some cs' => fillV r env cs'
   | none => none) else none
  | none => none
def notIn (id : Nat) : Upd → Bool
 | [] => true
 | (s, _) :: r => match Nat.beq s id with
  | true => false
  | false => notIn id r
/-- What an operation comes to: what must hold, its value, what it does to the heap. -/
abbrev Out := Option (List Bool × V × Upd)
def intBin (ar : Ar) (op : IBin) (k : IntKind) (a b : Int) : Out :=
 match op with
 | .add => match ar.add a b with | z => some ([ar.rng k z], .int k z, [])
 | .sub => match ar.sub a b with | z => some ([ar.rng k z], .int k z, [])
 | .mul => match ar.mul a b with | z => some ([ar.rng k z], .int k z, [])
 | .quo => match ar.quo a b with | z => some ([ar.bnot (ar.eq b 0), ar.rng k z], .int k z, [])
 | .rem => some ([ar.bnot (ar.eq b 0)], .int k (ar.rem a b), [])
 | .and => some ([], .int k (ar.bits .and k a b), [])
 | .or => some ([], .int k (ar.bits .or k a b), [])
 | .xor => some ([], .int k (ar.bits .xor k a b), [])
 | .andNot => some ([], .int k (ar.bits .andNot k a b), [])
 | .shl => none
 | .shr => none
 | .eql => some ([], .bool (ar.eq a b), [])
 | .neq => some ([], .bool (ar.bnot (ar.eq a b)), [])
 | .lss => some ([], .bool (ar.lt a b), [])
 | .leq => some ([], .bool (ar.le a b), [])
 | .gtr => some ([], .bool (ar.lt b a), [])
 | .geq => some ([], .bool (ar.le b a), [])
def strBin (ar : Ar) (op : IBin) (a b : ByteArray) : Out :=
 match op with
 | .eql => some ([], .bool (ar.seq a b), [])
 | .neq => some ([], .bool (ar.bnot (ar.seq a b)), [])
 | .lss => some ([], .bool (ar.slt a b), [])
 | .leq => some ([], .bool (ar.bite (ar.slt a b) true (ar.seq a b)), [])
 | .gtr => some ([], .bool (ar.bnot (ar.bite (ar.slt a b) true (ar.seq a b))), [])
 | .geq => some ([], .bool (ar.bnot (ar.slt a b)), [])
 | _ => none
def shBin (ar : Ar) (op : IBin) (k : IntKind) (a b : Int) : Out :=
 match op with
 | .shl => match ar.shl a b with | z => some ([ar.inb b k.bits, ar.rng k z], .int k z, [])
 | .shr => some ([ar.inb b k.bits], .int k (ar.shr a b), [])
 | _ => none
def asB : V → Option Bool
 | .bool b => some b
 | .tf b => some b
 | _ => none
def eqCells (ar : Ar) : List Kd → List V → List V → Option Bool
 | [], [], [] => some true
 | .i :: ks, .int k a :: r, .int k' b :: s => if k = k' then (match eqCells ar ks r s with
  | some c => some (ar.band (ar.eq a b) c)
  | none => none) else none
 | .s :: ks, .str a :: r, .str b :: s => match eqCells ar ks r s with
  | some c => some (ar.band (ar.seq a b) c)
  | none => none
 | .b :: ks, x :: r, y :: s => match asB x, asB y with
  | some a, some b => match eqCells ar ks r s with
   | some c => some (ar.band (ar.beq a b) c)
   | none => none
  | _, _ => none
 | _, _, _ => none
def minmaxI (ar : Ar) (mx : Bool) (k : IntKind) : Int → List V → Option Int
 | a, [] => some a
 | a, .int k' b :: r => if k = k' then minmaxI ar mx k (match mx with | true => ar.imax a b | false => ar.imin a b) r else none
 | _, _ => none
def intLit : V → Option Int
 | .int _ n => some n
 | _ => none
def optInt (env : List (Nat × V)) (d : Int) : Option O → Option Int
 | none => some d
 | some x => intLit (x.ev env)
/-- The elements of what is appended. -/
def elems (ar : Ar) (bl : Blks) (t : Ty) : V → Option (List t.den)
 | .nsl => some []
 | .lst t' xs => castL t' t xs
 | .sl id t' lo n => match bget id bl with
  | some (.arr t'' xs _) => if t' = t'' then (match castL t'' t xs with
   | some ys => some (ar.sub' ys lo n)
   | none => none) else none
  | _ => none
 | _ => none
def elemTy : V → Option Ty
 | .lst t _ => some t
 | .sl _ t _ _ => some t
 | _ => none
def bigL : Nat := 2 ^ 30
def evI (ar : Ar) (i : I) (env : List (Nat × V)) (bl : Blks) (nid : Nat) : Out :=
 match i with
 | .mv x => some ([], x.ev env, [])
 | .pick c a b =>
  match c.ev env with
  | .tf true => some ([], a.ev env, [])
  | .tf false => some ([], b.ev env, [])
  | .bool c => match asB (a.ev env), asB (b.ev env) with
   | some x, some y => some ([], .bool (ar.bite c x y), [])
   | _, _ => none
  | _ => none
 | .alloc z => some ([], .ptr nid 0, [(nid, some (.cells z false))])
 | .box x => match (x.ev env).cells? with
  | some cs => some ([], .ptr nid 0, [(nid, some (.cells cs false))])
  | none => none
 | .build z parts => match fillV parts env z with
  | some cs => some ([], .agg cs, [])
  | none => none
 | .bslice t xs => match ofVl ar bl t (xs.map (·.ev env)) with
  | some (ys, u) => some ([], .sl nid t 0 xs.length, u ++ [(nid, some (.arr t ys false))])
  | none => none
 | .load agg k x =>
  match x.ev env with
  | .ptr id off => match bget id bl with
   | some (.cells cs _) => match cut off k cs with
    | some vs => match wrapC agg vs with
     | some v => some ([], v, [])
     | none => none
    | none => none
   | _ => none
  | .ipc cs => match cut 0 k cs with
   | some vs => match wrapC agg vs with
    | some v => some ([], v, [])
    | none => none
   | none => none
  | .ep id t i p => match bget id bl with
   | some (.arr t' xs _) => if t = t' then
     match getP t' (ar.get t'.zero xs i) p with
     | some ⟨t2, y⟩ => match toVs t2 y with
      | vs => if vs.length = k then (match wrapC agg vs with
       | some v => some ([ar.ilt i (ar.len xs)], v, [])
       | none => none) else none
     | none => none
    else none
   | _ => none
  | .ip t y => match toVs t y with
   | vs => if vs.length = k then (match wrapC agg vs with
    | some v => some ([], v, [])
    | none => none) else none
  | _ => none
 | .store k a x =>
  match (x.ev env).cells? with
  | none => none
  | some vs => if vs.length = k then
   (match a.ev env with
   | .ptr id off => match bget id bl with
    | some (.cells cs false) => match setCs off vs cs with
     | some cs' => some ([], .any, [(id, some (.cells cs' false))])
     | none => none
    | _ => none
   | .ep id t i p => match bget id bl with
    | some (.arr t' xs false) => if t = t' then
      match setP ar bl t' (ar.get t'.zero xs i) p vs with
      | some (y, u) => match notIn id u with
       | true => some ([ar.ilt i (ar.len xs)], .any, u ++ [(id, some (.arr t' (ar.set xs i y) false))])
       | false => none
      | none => none
     else none
    | _ => none
   | _ => none) else none
 | .bin op x y =>
  match x.ev env, y.ev env with
  | .int k a, .int k' b => match op with
   | .shl => shBin ar .shl k a b
   | .shr => shBin ar .shr k a b
   | _ => if k = k' then intBin ar op k a b else none
  | .str a, .str b => strBin ar op a b
  | _, _ => none
 | .eqb neg x y => match asB (x.ev env), asB (y.ev env) with
  | some a, some b => some ([], .bool (match neg with | true => ar.bnot (ar.beq a b) | false => ar.beq a b), [])
  | _, _ => none
 | .eqs neg ks x y =>
  match x.ev env, y.ev env with
  | .agg xs, .agg ys => match eqCells ar ks xs ys with
   | some c => some ([], .bool (match neg with | true => ar.bnot c | false => c), [])
   | none => none
  | _, _ => none
 | .neg x => match x.ev env with
  | .int k a => match ar.sub 0 a with | z => some ([ar.rng k z], .int k z, [])
  | _ => none
 | .not x => match x.ev env with
  | .tf b => some ([], .tf (!b), [])
  | .bool b => some ([], .bool (ar.bnot b), [])
  | _ => none
 | .conv k x => match x.ev env with
  | .int _ n => some ([ar.rng k n], .int k n, [])
  | _ => none
 | .fld off path x => match x.ev env with
  | .ptr id o => some ([], .ptr id (o + off), [])
  | .ipc cs => if off ≤ cs.length then some ([], .ipc (cs.drop off), []) else none
  | .ep id t i p => match t.atP p with
   | some t1 => if t1.offP path = off then (match t1.atP path with
    | some _ => some ([], .ep id t i (p ++ path), [])
    | none => none) else none
   | none => none
  | .ip t y => if t.offP path = off then (match getP t y path with
   | some ⟨t2, z⟩ => some ([], .ip t2 z, [])
   | none => none) else none
  | _ => none
 | .field agg off k x => match x.ev env with
  | .agg cs => match cut off k cs with
   | some vs => match wrapC agg vs with
    | some v => some ([], v, [])
    | none => none
   | none => none
  | _ => none
 | .idx esz x i =>
  match i.ev env with
  | .int _ n => match x.ev env with
   | .sl id t lo m => if t.sz = esz then some ([ar.inb n (Int.ofNat m)], .ep id t (ar.nadd lo (ar.toN n)) [], []) else none
   | .lst t xs => if t.sz = esz then some ([ar.inb n (Int.ofNat (ar.len xs))], .ip t (ar.get t.zero xs (ar.toN n)), []) else none
   | _ => none
  | _ => none
 | .idxA len esz x i =>
  match i.ev env with
  | .int _ (.ofNat n) => if n < len then
   (match x.ev env with
   | .ptr id o => some ([], .ptr id (o + n * esz), [])
   | .ipc cs => if n * esz ≤ cs.length then some ([], .ipc (cs.drop (n * esz)), []) else none
   | _ => none) else none
  | _ => none
 | .ext k x => match x.ev env with
  | .tup vs => match vs[k]? with
   | some v => some ([], v, [])
   | none => none
  | _ => none
 | .len x => match x.ev env with
  | .sl _ _ _ n => some ([], .int .i64 (Int.ofNat n), [])
  | .lst _ xs => some ([], .int .i64 (Int.ofNat (ar.len xs)), [])
  | .nsl => some ([], .int .i64 0, [])
  | _ => none
 | .lens x => match x.ev env with
  | .str s => some ([], .int .i64 (ar.slen s), [])
  | _ => none
 | .lenA n => some ([], .int .i64 (Int.ofNat n), [])
 | .append esz x y =>
  match x.ev env with
  | .nsl => match elemTy (y.ev env) with
   | some t => if t.sz = esz then
     (match elems ar bl t (y.ev env) with
     | some ys => match ar.len ys with
      | m => some ([ar.ilt m bigL], .sl nid t 0 m, [(nid, some (.arr t ys false))])
     | none => none) else none
   | none => none
  | .sl id t lo n => if t.sz = esz then
   (match bget id bl with
   | some (.arr t' xs false) => if t' = t then
    (match castL t' t xs with
    | some xs' => match elems ar bl t (y.ev env) with
     | some ys => match ar.nadd n (ar.len ys) with
      | m => some ([ar.ilt m bigL], .sl nid t 0 m, [(id, none), (nid, some (.arr t (ar.app (ar.sub' xs' lo n) ys) false))])
     | none => none
    | none => none) else none
   | _ => none) else none
  | _ => none
 | .mkslice t n => match n.ev env with
  | .int _ z => match ar.toN z with
   | m => some ([ar.inb z (Int.ofNat bigL)], .sl nid t 0 m, [(nid, some (.arr t (ar.rep m t.zero) false))])
  | _ => none
 | .mkfn f a b => some ([], .fn f (a.map (·.ev env)) (b.map (·.ev env)), [])
 | .slice esz x lo hi mx =>
  match mx with
  | some m => match hi with
   | some h => match intLit (m.ev env), intLit (h.ev env), optInt env 0 lo with
    | some a, some b, some c => match x.ev env with
     | .sl _ _ _ _ => some ([ar.eq a 0, ar.eq b 0, ar.eq c 0], .nsl, [])
     | .lst _ _ => some ([ar.eq a 0, ar.eq b 0, ar.eq c 0], .nsl, [])
     | .nsl => some ([ar.eq a 0, ar.eq b 0, ar.eq c 0], .nsl, [])
     | _ => none
    | _, _, _ => none
   | none => none
  | none =>
   match x.ev env with
   | .sl id t l n => if t.sz = esz then
    (match optInt env 0 lo, optInt env (Int.ofNat n) hi with
    | some a, some b => some ([ar.le 0 a, ar.le a b, ar.le b (Int.ofNat n)], .sl id t (ar.nadd l (ar.toN a)) (ar.nsub (ar.toN b) (ar.toN a)), [])
    | _, _ => none) else none
   | .lst t xs => if t.sz = esz then
    (match optInt env 0 lo, optInt env (Int.ofNat (ar.len xs)) hi with
    | some a, some b => some ([ar.le 0 a, ar.le a b, ar.le b (Int.ofNat (ar.len xs))], .lst t (ar.sub' xs (ar.toN a) (ar.nsub (ar.toN b) (ar.toN a))), [])
    | _, _ => none) else none
   | _ => none
 | .minmax mx x ys => match x.ev env with
  | .int k a => match minmaxI ar mx k a (ys.map (·.ev env)) with
   | some z => some ([], .int k z, [])
   | none => none
  | _ => none
/-- Does an operation lay a block? -/
def I.lays : I → Bool
 | .alloc _ | .box _ | .bslice _ _ | .append _ _ _ | .mkslice _ _ => true
 | _ => false
def nx1 (l : Bool) (n : Nat) : Nat := match l with
 | true => n + 1
 | false => n
def setE (t : Nat) (v : V) (r : List (Nat × V)) : List (Nat × V) := (t, v) :: r
def put (d : Option Nat) (v : V) (env : List (Nat × V)) : List (Nat × V) :=
 match d with
 | some t => setE t v env
 | none => env
def AllB : List Bool → Prop
 | [] => True
 | [b] => b = true
 | b :: r => b = true ∧ AllB r
/-- A test: both ways. -/
def Br (c : Bool) (t e : Unit → Prop) : Prop := (c = true → t ()) ∧ (c = false → e ())
def rw2 (s : Nat) (b : Bool) (S : St) : St := { S with env := setE s (.tf b) S.env }
/-- One item, and what comes behind it. -/
def wpOp (ar : Ar) (dst : Option Nat) (i : I) (S : St) (K : St → Prop) : Prop :=
 match evI ar i S.env S.H.bl S.H.next with
 | some ([], v, u) => K ⟨put dst v S.env, ⟨nx1 i.lays S.H.next, bupd u S.H.bl⟩, S.ms⟩
 | some (ob, v, u) => AllB ob ∧ K ⟨put dst v S.env, ⟨nx1 i.lays S.H.next, bupd u S.H.bl⟩, S.ms⟩
 | none => False
/-- A value of a type, in one spelling: no nil slice but the empty list, no known bool. -/
def normC : Ty → V → V
 | .list t, .nsl => .lst t []
 | .bool, .tf b => .bool b
 | _, v => v
def cellTys : Ty → List Ty
 | .unit => []
 | .prod a b => cellTys a ++ cellTys b
 | t => [t]
def zipNorm : List Ty → List V → List V
 | t :: ts, c :: cs => normC t c :: zipNorm ts cs
 | _, cs => cs
def normV (ty : Option Ty) (v : V) : V := match ty with
 | none => v
 | some t => match v with
  | .agg cs => .agg (zipNorm (cellTys t) cs)
  | v => normC t v
def normL : List (Option Ty) → List V → List V
 | t :: ts, v :: vs => normV t v :: normL ts vs
 | _, vs => vs
def wpCall (ar : Ar) (dst : Option Nat) (f : O) (args : List O) (tys : List (Option Ty)) (S : St) (K : St → Prop) : Prop :=
 match f.ev S.env with
 | .fn f first cap => ar.call f (first ++ normL tys (args.map (·.ev S.env)) ++ cap) S.H fun v H => K ⟨put dst v S.env, H, S.ms⟩
 | .yl id => ar.round id (normL tys (args.map (·.ev S.env))) S.H fun v H => K ⟨put dst v S.env, H, S.ms⟩
 | _ => False
def wpGuard (g : Option (Nat × Bool)) (dst : Option Nat) (S : St) (K : St → Prop) (run : St → Prop) : Prop :=
 match g with
 | none => run S
 | some (s, b) => match get s S.env with
  | .tf c => match c, b with
   | true, true => run S
   | false, false => run S
   | true, false => K ⟨put dst (.tup []) S.env, S.H, S.ms⟩
   | false, true => K ⟨put dst (.tup []) S.env, S.H, S.ms⟩
  | .bool c => Br c
   (fun _ => match b with
    | true => run (rw2 s true S)
    | false => K ⟨put dst (.tup []) (rw2 s true S).env, S.H, S.ms⟩)
   (fun _ => match b with
    | false => run (rw2 s false S)
    | true => K ⟨put dst (.tup []) (rw2 s false S).env, S.H, S.ms⟩)
  | .tup _ => K ⟨put dst (.tup []) S.env, S.H, S.ms⟩
  | _ => False
def wpItms (ar : Ar) : List Itm → St → (St → Prop) → Prop
 | [], S, K => K S
 | .op d g i :: r, S, K => wpGuard g d S (fun S => wpItms ar r S K) (fun S => wpOp ar d i S (fun S => wpItms ar r S K))
 | .call d g f a tys :: r, S, K => wpGuard g d S (fun S => wpItms ar r S K) (fun S => wpCall ar d f a tys S (fun S => wpItms ar r S K))
end Go.AM
end
section
namespace Go.AM
abbrev Iota := Nat → Nat → Option Value
/-- Where a block of the machine lies: the model's block, the offset, how many cells that block has, how many elements are in use. -/
structure Loc where
 b : Nat
 ba : Nat
 tot : Nat
 len : Nat
abbrev Mu := Nat → Option Loc
def Iota.le (i j : Iota) : Prop := ∀ b o x, i b o = some x → j b o = some x
def Mu.le (m n : Mu) : Prop := ∀ id L, m id = some L → n id = some L
theorem Iota.le_refl (i : Iota) : i.le i := fun _ _ _ h => h
theorem Mu.le_refl (i : Mu) : i.le i := fun _ _ h => h
theorem Iota.le_trans {i j k : Iota} (h : i.le j) (h' : j.le k) : i.le k := fun _ _ _ hx => h' _ _ _ (h _ _ _ hx)
theorem Mu.le_trans {i j k : Mu} (h : i.le j) (h' : j.le k) : i.le k := fun _ _ hx => h' _ _ (h _ _ hx)
def Reads (ι : Iota) (b o : Nat) (vs : List Value) : Prop := ∀ j v, vs[j]? = some v → ι b (o + j) = some v
def CatR {α : Type} (D : α → List Value → Prop) : List α → List Value → Prop
 | [], vs => vs = []
 | x :: xs, vs => ∃ us ws, vs = us ++ ws ∧ D x us ∧ CatR D xs ws
def CellsD (ι : Iota) : (t : Ty) → t.den → List Value → Prop
 | .unit, _, vs => vs = []
 | .bool, b, vs => vs = [.bool b]
 | .str, s, vs => vs = [.string s]
 | .int k, n, vs => vs = [.int k n]
 | .list t, xs, vs => ∃ a cap, vs = [.slice a xs.length cap] ∧ xs.length ≤ cap ∧
   (xs = [] ∨ ∃ b o us, a = some ⟨b, o, none⟩ ∧ Reads ι b o us ∧ CatR (CellsD ι t) xs us)
 | .prod a b, x, vs => ∃ us ws, vs = us ++ ws ∧ CellsD ι a x.1 us ∧ CellsD ι b x.2 ws
theorem Reads.mono {ι ι' : Iota} (h : ι.le ι') {b o : Nat} {vs : List Value} (hr : Reads ι b o vs) : Reads ι' b o vs :=
 fun j v hj => h _ _ _ (hr j v hj)
theorem CatR.mono {α : Type} {D E : α → List Value → Prop} (h : ∀ x us, D x us → E x us) : ∀ {xs : List α} {vs : List Value}, CatR D xs vs → CatR E xs vs
 | [], _, hc => hc
 | _ :: _, _, ⟨us, ws, e, h1, h2⟩ => ⟨us, ws, e, h _ _ h1, CatR.mono h h2⟩
theorem CellsD.mono {ι ι' : Iota} (h : ι.le ι') : ∀ {t : Ty} {x : t.den} {vs : List Value}, CellsD ι t x vs → CellsD ι' t x vs
 | .unit, _, _, hc => hc
 | .bool, _, _, hc => hc
 | .str, _, _, hc => hc
 | .int _, _, _, hc => hc
 | .list t, xs, vs, ⟨a, cap, e, hl, hx⟩ => ⟨a, cap, e, hl, hx.imp id fun ⟨b, o, us, ha, hr, hc⟩ =>
   ⟨b, o, us, ha, hr.mono h, CatR.mono (fun x us hd => CellsD.mono (t := t) h hd) hc⟩⟩
 | .prod _ _, _, _, ⟨us, ws, e, h1, h2⟩ => ⟨us, ws, e, CellsD.mono h h1, CellsD.mono h h2⟩
theorem CellsD.length {ι : Iota} : ∀ {t : Ty} {x : t.den} {vs : List Value}, CellsD ι t x vs → vs.length = t.sz
 | .unit, _, _, hc => by simp [CellsD] at hc; subst hc; rfl
 | .bool, _, _, hc => by simp [CellsD] at hc; subst hc; rfl
 | .str, _, _, hc => by simp [CellsD] at hc; subst hc; rfl
 | .int _, _, _, hc => by simp [CellsD] at hc; subst hc; rfl
 | .list _, _, _, ⟨_, _, e, _, _⟩ => by subst e; rfl
 | .prod _ _, _, _, ⟨us, ws, e, h1, h2⟩ => by subst e; simp [Ty.sz, CellsD.length h1, CellsD.length h2]
theorem CellsD.one {ι : Iota} : ∀ {t : Ty} {x : t.den} {vs : List Value}, CellsD ι t x vs → ∀ v ∈ vs, v.oneCell' = true
 | .unit, _, _, hc => by simp [CellsD] at hc; subst hc; simp
 | .bool, _, _, hc => by simp [CellsD] at hc; subst hc; simp [Value.oneCell']
 | .str, _, _, hc => by simp [CellsD] at hc; subst hc; simp [Value.oneCell']
 | .int _, _, _, hc => by simp [CellsD] at hc; subst hc; simp [Value.oneCell']
 | .list _, _, _, ⟨_, _, e, _, _⟩ => by subst e; simp [Value.oneCell']
 | .prod _ _, _, _, ⟨us, ws, e, h1, h2⟩ => by
  subst e; intro v hv; rcases List.mem_append.1 hv with h | h
  ·exact CellsD.one h1 v h
  ·exact CellsD.one h2 v h
section cat
variable {α : Type} {D : α → List Value → Prop} {n : Nat}
theorem CatR.length (hD : ∀ x us, D x us → us.length = n) : ∀ {xs : List α} {vs : List Value}, CatR D xs vs → vs.length = xs.length * n
 | [], _, hc => by simp [CatR] at hc; subst hc; simp
 | x :: xs, _, ⟨us, ws, e, h1, h2⟩ => by
  subst e; simp [hD _ _ h1, CatR.length hD h2, Nat.add_mul]; omega
theorem CatR.one (hD : ∀ x us, D x us → ∀ v ∈ us, Value.oneCell' v = true) : ∀ {xs : List α} {vs : List Value}, CatR D xs vs → ∀ v ∈ vs, Value.oneCell' v = true
 | [], _, hc => by simp [CatR] at hc; subst hc; simp
 | x :: xs, _, ⟨us, ws, e, h1, h2⟩ => by
  subst e; intro v hv; rcases List.mem_append.1 hv with h | h
  ·exact hD _ _ h1 v h
  ·exact CatR.one hD h2 v h
theorem CatR.append : ∀ {xs ys : List α} {vs ws : List Value}, CatR D xs vs → CatR D ys ws → CatR D (xs ++ ys) (vs ++ ws)
 | [], _, _, _, hc, h => by simp [CatR] at hc; subst hc; simpa using h
 | x :: xs, _, _, _, ⟨us, ws, e, h1, h2⟩, h => by subst e; exact ⟨us, _, List.append_assoc .., h1, h2.append h⟩
theorem CatR.drop (hD : ∀ x us, D x us → us.length = n) : ∀ (k : Nat) {xs : List α} {vs : List Value}, CatR D xs vs → CatR D (xs.drop k) (vs.drop (k * n))
 | 0, xs, vs, h => by simpa using h
 | k + 1, [], vs, h => by simp [CatR] at h; subst h; simp [CatR]
 | k + 1, x :: xs, vs, ⟨us, ws, e, h1, h2⟩ => by
  subst e
  have hl := hD _ _ h1
  have : (us ++ ws).drop ((k + 1) * n) = ws.drop (k * n) := by
   rw [List.drop_append, List.drop_eq_nil_of_le (by rw [hl, Nat.add_mul]; omega), hl]
   simp [Nat.add_mul]
  rw [this]
  exact CatR.drop hD k h2
theorem CatR.take (hD : ∀ x us, D x us → us.length = n) : ∀ (k : Nat) {xs : List α} {vs : List Value}, CatR D xs vs → CatR D (xs.take k) (vs.take (k * n))
 | 0, xs, vs, h => by simp [CatR]
 | k + 1, [], vs, h => by simp [CatR] at h; subst h; simp [CatR]
 | k + 1, x :: xs, vs, ⟨us, ws, e, h1, h2⟩ => by
  subst e
  have hl := hD _ _ h1
  refine ⟨us, ws.take (k * n), ?_, h1, CatR.take hD k h2⟩
  rw [List.take_append, List.take_of_length_le (by rw [hl, Nat.add_mul]; omega), hl]
  simp [Nat.add_mul]
theorem CatR.at (hD : ∀ x us, D x us → us.length = n) {xs : List α} {vs : List Value} (h : CatR D xs vs) {i : Nat} {x : α} (hx : xs[i]? = some x) :
  D x ((vs.drop (i * n)).take n) := by
 have h1 := h.drop hD i
 obtain ⟨hi, rfl⟩ := List.getElem?_eq_some_iff.1 hx
 rw [List.drop_eq_getElem_cons hi] at h1
 obtain ⟨us, ws, e, hd, _⟩ := h1
 rw [e, List.take_append, List.take_of_length_le (by rw [hD _ _ hd]; exact Nat.le_refl _), hD _ _ hd]
 simpa using hd
theorem CatR.set (hD : ∀ x us, D x us → us.length = n) {xs : List α} {vs : List Value} (h : CatR D xs vs) {i : Nat} (hi : i < xs.length) {y : α} {us : List Value} (hy : D y us) :
  CatR D (xs.set i y) (vs.take (i * n) ++ us ++ vs.drop ((i + 1) * n)) := by
 have h1 := h.take hD i
 have h2 := h.drop hD (i + 1)
 rw [List.set_eq_take_append_cons_drop, if_pos hi, List.append_assoc]
 exact h1.append ⟨us, _, rfl, hy, h2⟩
theorem CatR.rep {y : α} {us : List Value} (hy : D y us) : ∀ k : Nat, CatR D (List.replicate k y) (List.flatten (List.replicate k us))
 | 0 => rfl
 | k + 1 => ⟨us, _, by simp [List.replicate_succ], hy, CatR.rep hy k⟩
end cat
/-- The machine's value stands for the model's. -/
inductive Rel (ι : Iota) (μ : Mu) : V → Value → Prop
 | any (x) : Rel ι μ .any x
 | tf (b) : Rel ι μ (.tf b) (.bool b)
 | bool (b) : Rel ι μ (.bool b) (.bool b)
 | int (k n) : Rel ι μ (.int k n) (.int k n)
 | str (s) : Rel ι μ (.str s) (.string s)
 | nilp : Rel ι μ .nilp (.pointer none)
 | nilfn : Rel ι μ .nilfn .nilFunc
 | nili : Rel ι μ .nili .nilIface
 | lst (t xs x) (h : CellsD ι (.list t) xs [x]) : Rel ι μ (.lst t xs) x
 | nsl (a) : Rel ι μ .nsl (.slice a 0 0)
 | sl (id t lo n cap L) (h : μ id = some L) (h1 : n ≤ cap) (h2 : L.ba + (lo + cap) * t.sz ≤ L.tot) (h3 : lo + n ≤ L.len) :
   Rel ι μ (.sl id t lo n) (.slice (some ⟨L.b, L.ba + lo * t.sz, none⟩) n cap)
 | sl0 (id t lo a) : Rel ι μ (.sl id t lo 0) (.slice a 0 0)
 | ptr (id off L) (h : μ id = some L) : Rel ι μ (.ptr id off) (.pointer (some ⟨L.b, L.ba + off, none⟩))
 | ipc (cs b o) (g : Nat → Value) (h1 : ∀ i, i < cs.length → ι b (o + i) = some (g i)) (h2 : ∀ i v, cs[i]? = some v → Rel ι μ v (g i)) (h3 : ∀ i, (g i).oneCell' = true) :
   Rel ι μ (.ipc cs) (.pointer (some ⟨b, o, none⟩))
 | ep (id t i p L) (h : μ id = some L) : Rel ι μ (.ep id t i p) (.pointer (some ⟨L.b, L.ba + i * t.sz + t.offP p, none⟩))
 | ip (t x b o us) (h1 : Reads ι b o us) (h2 : CellsD ι t x us) : Rel ι μ (.ip t x) (.pointer (some ⟨b, o, none⟩))
 | fn (f fs cs) (xs ys : Array Value) (h1 : fs.length = xs.size) (h2 : ∀ (i : Nat) v x, fs[i]? = some v → xs[i]? = some x → Rel ι μ v x)
   (h3 : cs.length = ys.size) (h4 : ∀ (i : Nat) v x, cs[i]? = some v → ys[i]? = some x → Rel ι μ v x) : Rel ι μ (.fn f fs cs) (.func (.func f) xs ys)
 | yl (id L) (h : μ id = some L) : Rel ι μ (.yl id) (.func (.yield L.b) #[] #[])
 | agg (cs) (xs : Array Value) (h1 : cs.length = xs.size) (h2 : ∀ (i : Nat) v x, cs[i]? = some v → xs[i]? = some x → Rel ι μ v x) (h3 : ∀ x ∈ xs.toList, x.oneCell' = true) : Rel ι μ (.agg cs) (.agg xs)
 | tup (cs) (xs : Array Value) (h1 : cs.length = xs.size) (h2 : ∀ (i : Nat) v x, cs[i]? = some v → xs[i]? = some x → Rel ι μ v x) : Rel ι μ (.tup cs) (.tuple xs)
 | ifc (t v x) (h : Rel ι μ v x) : Rel ι μ (.ifc t v) (.iface t x)
theorem Rel.mono {ι ι' : Iota} {μ μ' : Mu} (hi : ι.le ι') (hm : μ.le μ') {v : V} {x : Value} (h : Rel ι μ v x) : Rel ι' μ' v x := by
 induction h with
 | any x => exact .any x
 | tf b => exact .tf b
 | bool b => exact .bool b
 | int k n => exact .int k n
 | str s => exact .str s
 | nilp => exact .nilp
 | nilfn => exact .nilfn
 | nili => exact .nili
 | lst t xs x h => exact .lst t xs x (CellsD.mono (t := .list t) hi h)
 | nsl a => exact .nsl a
 | sl id t lo n cap L h h1 h2 h3 => exact .sl id t lo n cap L (hm _ _ h) h1 h2 h3
 | sl0 id t lo a => exact .sl0 id t lo a
 | ptr id off L h => exact .ptr id off L (hm _ _ h)
 | ipc cs b o g h1 h2 h3 ih => exact .ipc cs b o g (fun i h => hi _ _ _ (h1 i h)) ih h3
 | ep id t i p L h => exact .ep id t i p L (hm _ _ h)
 | ip t x b o us h1 h2 => exact .ip t x b o us (h1.mono hi) (CellsD.mono hi h2)
 | fn f fs cs xs ys h1 h2 h3 h4 ih1 ih2 => exact .fn f fs cs xs ys h1 ih1 h3 ih2
 | yl id L h => exact .yl id L (hm _ _ h)
 | agg cs xs h1 h2 h3 ih => exact .agg cs xs h1 ih h3
 | tup cs xs h1 h2 ih => exact .tup cs xs h1 ih
 | ifc t v x h ih => exact .ifc t v x ih
def RelL (ι : Iota) (μ : Mu) (cs : List V) (xs : List Value) : Prop :=
 cs.length = xs.length ∧ ∀ (i : Nat) v x, cs[i]? = some v → xs[i]? = some x → Rel ι μ v x
section rell
variable {ι ι' : Iota} {μ μ' : Mu}
theorem RelL.nil : RelL ι μ [] [] := ⟨rfl, fun i v x h => by simp at h⟩
theorem RelL.cons {v : V} {x : Value} {cs : List V} {xs : List Value} (h : Rel ι μ v x) (hl : RelL ι μ cs xs) : RelL ι μ (v :: cs) (x :: xs) :=
 ⟨by simp [hl.1], fun i w y hw hy => by
  cases i with
  | zero => simp at hw hy; subst hw; subst hy; exact h
  | succ i => exact hl.2 i w y (by simpa using hw) (by simpa using hy)⟩
theorem RelL.uncons {v : V} {cs : List V} {xs : List Value} (h : RelL ι μ (v :: cs) xs) : ∃ x r, xs = x :: r ∧ Rel ι μ v x ∧ RelL ι μ cs r := by
 cases xs with
 | nil => exact absurd h.1 (by simp)
 | cons x r => exact ⟨x, r, rfl, h.2 0 v x rfl rfl, by have := h.1; simpa using this, fun i w y hw hy => h.2 (i + 1) w y (by simpa using hw) (by simpa using hy)⟩
theorem RelL.of_nil {xs : List Value} (h : RelL ι μ [] xs) : xs = [] := by have := h.1; cases xs <;> simp_all
theorem RelL.mono (hi : ι.le ι') (hm : μ.le μ') {cs : List V} {xs : List Value} (h : RelL ι μ cs xs) : RelL ι' μ' cs xs :=
 ⟨h.1, fun i v x hv hx => (h.2 i v x hv hx).mono hi hm⟩
theorem RelL.append {cs ds : List V} {xs ys : List Value} (h : RelL ι μ cs xs) (h' : RelL ι μ ds ys) : RelL ι μ (cs ++ ds) (xs ++ ys) := by
 induction cs generalizing xs with
 | nil => rw [h.of_nil]; simpa using h'
 | cons c cs ih => obtain ⟨x, r, rfl, h1, h2⟩ := h.uncons; exact .cons h1 (ih h2)
theorem RelL.drop {cs : List V} {xs : List Value} (h : RelL ι μ cs xs) (k : Nat) : RelL ι μ (cs.drop k) (xs.drop k) :=
 ⟨by simp [h.1], fun i v x hv hx => h.2 (k + i) v x (by simpa using hv) (by simpa using hx)⟩
theorem RelL.take {cs : List V} {xs : List Value} (h : RelL ι μ cs xs) (k : Nat) : RelL ι μ (cs.take k) (xs.take k) :=
 ⟨by simp [h.1], fun i v x hv hx => by
  rw [List.getElem?_take] at hv hx
  split at hv
  ·rename_i hk; rw [if_pos hk] at hx; exact h.2 i v x hv hx
  ·simp at hv⟩
theorem RelL.at {cs : List V} {xs : List Value} (h : RelL ι μ cs xs) {i : Nat} {v : V} (hv : cs[i]? = some v) : ∃ x, xs[i]? = some x ∧ Rel ι μ v x := by
 have hi := (List.getElem?_eq_some_iff.1 hv).1
 exact ⟨xs[i]'(by rw [← h.1]; exact hi), by simp, h.2 i v _ hv (by simp)⟩
theorem RelL.map_cut {cs vs : List V} {off k : Nat} {xs : List Value} (h : RelL ι μ cs xs) (hc : cut off k cs = some vs) : RelL ι μ vs ((xs.drop off).take k) ∧ vs.length = k ∧ off + k ≤ xs.length := by
 unfold cut at hc
 split at hc
 ·rename_i hk
  cases hc
  exact ⟨(h.drop off).take k, by simp; omega, by rw [← h.1]; exact hk⟩
 ·cases hc
end rell
/-- The cells of a value. -/
theorem Rel.cells {ι : Iota} {μ : Mu} {v : V} {x : Value} (h : Rel ι μ v x) {cs : List V} (hv : v.cells? = some cs) : RelL ι μ cs x.cells.toList ∧ ∀ u ∈ x.cells.toList, u.oneCell' = true := by
 cases h
 case any => cases hv
 case tup => cases hv
 case agg cs xs h1 h2 h3 =>
  cases hv
  exact ⟨⟨by simpa [Value.cells] using h1, fun i v x hv hx => h2 i v x hv (by simpa [Value.cells] using hx)⟩, h3⟩
 case lst t xs h =>
  obtain ⟨a, cap, e, hl, hx⟩ := h
  cases e
  cases hv
  exact ⟨.cons (.lst t xs _ ⟨a, cap, rfl, hl, hx⟩) .nil, by simp [Value.cells, Value.oneCell']⟩
 case ipc cs b o g h1 h2 h3 => cases hv; exact ⟨.cons (.ipc cs b o g h1 h2 h3) .nil, by simp [Value.cells, Value.oneCell']⟩
 case fn f fs cs xs ys h1 h2 h3 h4 => cases hv; exact ⟨.cons (.fn f fs cs xs ys h1 h2 h3 h4) .nil, by simp [Value.cells, Value.oneCell']⟩
 all_goals
  cases hv
  refine ⟨.cons ?_ .nil, by simp [Value.cells, Value.oneCell']⟩
  first
   | (constructor; done)
   | (constructor <;> assumption)
theorem toVs_rel {ι : Iota} {μ : Mu} : ∀ {t : Ty} {x : t.den} {vs : List Value}, CellsD ι t x vs → RelL ι μ (toVs t x) vs
 | .unit, _, _, h => by simp [CellsD] at h; subst h; exact .nil
 | .bool, _, _, h => by simp [CellsD] at h; subst h; exact .cons (.bool _) .nil
 | .str, _, _, h => by simp [CellsD] at h; subst h; exact .cons (.str _) .nil
 | .int _, _, _, h => by simp [CellsD] at h; subst h; exact .cons (.int _ _) .nil
 | .list t, xs, _, h => by
  obtain ⟨a, cap, e, hl, hx⟩ := h
  subst e
  exact .cons (.lst t xs _ ⟨a, cap, rfl, hl, hx⟩) .nil
 | .prod _ _, _, _, ⟨us, ws, e, h1, h2⟩ => by subst e; exact (toVs_rel h1).append (toVs_rel h2)
/-- A block of data that is written no more. -/
def Frozen (ι : Iota) (μ : Mu) (id : Nat) (t : Ty) (xs : List t.den) : Prop :=
 (xs = [] ∧ μ id = none) ∨ ∃ L vs, μ id = some L ∧ Reads ι L.b L.ba vs ∧ CatR (CellsD ι t) xs vs ∧ xs.length = L.len
theorem castL_some {t t' : Ty} {xs : List t.den} {ys : List t'.den} (h : castL t t' xs = some ys) : ∃ e : t = t', ys = e ▸ xs := by
 unfold castL at h
 split at h
 ·rename_i e; cases h; exact ⟨e, rfl⟩
 ·cases h
theorem normC_rel {ι : Iota} {μ : Mu} {t : Ty} {v : V} {x : Value} (h : Rel ι μ v x) : Rel ι μ (normC t v) x := by
 unfold normC
 split
 ·cases h; exact .lst _ _ _ ⟨_, 0, rfl, Nat.le_refl _, .inl rfl⟩
 ·cases h; exact .bool _
 ·exact h
theorem zipNorm_rel {ι : Iota} {μ : Mu} : ∀ {ts : List Ty} {cs : List V} {xs : List Value}, RelL ι μ cs xs → RelL ι μ (zipNorm ts cs) xs
 | [], cs, xs, h => by cases cs <;> exact h
 | t :: ts, [], xs, h => h
 | t :: ts, c :: cs, xs, h => by
  obtain ⟨x, r, rfl, h1, h2⟩ := h.uncons
  exact .cons (normC_rel h1) (zipNorm_rel h2)
theorem normV_rel {ι : Iota} {μ : Mu} {ty : Option Ty} {v : V} {x : Value} (h : Rel ι μ v x) : Rel ι μ (normV ty v) x := by
 unfold normV
 split
 ·exact h
 ·rename_i t
  split
  ·rename_i cs
   cases h with
   | agg _ xs h1 h2 h3 =>
    have := zipNorm_rel (ts := cellTys t) (ι := ι) (μ := μ) (cs := cs) (xs := xs.toList) ⟨by simpa using h1, fun i v x hv hx => h2 i v x hv (by simpa using hx)⟩
    exact .agg _ _ (by simpa using this.1) (fun i v x hv hx => this.2 i v x hv (by simpa using hx)) h3
  ·exact normC_rel h
theorem normL_rel {ι : Iota} {μ : Mu} : ∀ {ts : List (Option Ty)} {cs : List V} {xs : List Value}, RelL ι μ cs xs → RelL ι μ (normL ts cs) xs
 | [], cs, xs, h => by cases cs <;> exact h
 | t :: ts, [], xs, h => h
 | t :: ts, c :: cs, xs, h => by
  obtain ⟨x, r, rfl, h1, h2⟩ := h.uncons
  exact .cons (normV_rel h1) (normL_rel h2)
end Go.AM
end
section
namespace Go.AM
def ofC1 : Value → Option V
 | .bool b => some (.tf b)
 | .int k n => some (.int k n)
 | .string s => some (.str s)
 | .slice none 0 0 => some .nsl
 | .pointer none => some .nilp
 | .nilFunc => some .nilfn
 | .nilIface => some .nili
 | _ => none
def ofCs : List Value → Option (List V)
 | [] => some []
 | v :: r => match ofC1 v, ofCs r with
  | some x, some xs => some (x :: xs)
  | _, _ => none
def ofC : Value → Option V
 | .agg cs => match ofCs cs.toList with
  | some vs => some (.agg vs)
  | none => none
 | v => ofC1 v
def trO : Operand → Option O
 | .tmp t => some (.t t)
 | .const v => match ofC v with
  | some x => some (.c x)
  | none => none
 | .func f => some (.c (.fn f [] []))
 | .global _ => none
def trOs : List Operand → Option (List O)
 | [] => some []
 | x :: r => match trO x, trOs r with
  | some y, some ys => some (y :: ys)
  | _, _ => none
def fieldsTy (g : TypeId → Option Ty) : List Field → Option Ty
 | [] => some .unit
 | [f] => g f.type
 | f :: r => match g f.type, fieldsTy g r with
  | some a, some b => some (.prod a b)
  | _, _ => none
/-- So many of one type. -/
def prodN : Nat → Ty → Ty
 | 0, _ => .unit
 | 1, t => t
 | n + 2, t => .prod t (prodN (n + 1) t)
def tyOf (P : Program) : Nat → TypeId → Option Ty
 | 0, _ => none
 | n + 1, t => match P.underlying t with
  | some .bool => some .bool
  | some (.int k) => some (.int k)
  | some .string => some .str
  | some (.slice e) => (tyOf P n e).map .list
  | some (.struct fs) => fieldsTy (tyOf P n) fs.toList
  | some (.array m e) => (tyOf P n e).map (prodN m)
  | _ => none
def sizeT (P : Program) (t : TypeId) : Option Nat := (P.info? t).map (·.size)
def aggT (P : Program) (t : TypeId) : Option Bool := match P.underlying t with
 | some (.struct _) => some true
 | some (.array _ _) => some true
 | some _ => some false
 | none => none
/-- Is this the zero of data of the type, one cell? -/
def zero1 : Ty → Value → Bool
 | .bool, .bool b => !b
 | .str, .string s => s.size == 0
 | .int k, .int k' n => decide (k = k') && n == 0
 | .list _, .slice none 0 0 => true
 | _, _ => false
/-- The same, cell by cell. -/
def zeroOk : Ty → List Value → Option (List Value)
 | .unit, vs => some vs
 | .prod a b, vs => match zeroOk a vs with
  | some r => zeroOk b r
  | none => none
 | .bool, v :: r => if zero1 .bool v then some r else none
 | .str, v :: r => if zero1 .str v then some r else none
 | .int k, v :: r => if zero1 (.int k) v then some r else none
 | .list t, v :: r => if zero1 (.list t) v then some r else none
 | _, [] => none
def fpath (n f : Nat) : List Bool := if f + 1 = n then List.replicate f true else List.replicate f true ++ [false]
def binOf : BinOp → Option IBin
 | .add => some .add
 | .sub => some .sub
 | .mul => some .mul
 | .quo => some .quo
 | .rem => some .rem
 | .and => some .and
 | .or => some .or
 | .xor => some .xor
 | .andNot => some .andNot
 | .shl => some .shl
 | .shr => some .shr
 | .eql => some .eql
 | .neq => some .neq
 | .lss => some .lss
 | .leq => some .leq
 | .gtr => some .gtr
 | .geq => some .geq
def maxBytes : Nat := 1024
/-- What an element's type must be for lists of it to be made: its size, its zero, its bytes. -/
def elemOk (P : Program) (e : TypeId) : Option Nat := match P.info? e with
 | some i => match i.zero with
  | some z => if i.bytes ≤ maxBytes ∧ z.cells.size = i.size then some i.size else none
  | none => none
 | none => none
def partsOf (place : Nat → Option (Nat × Nat)) : List (Nat × Operand) → Option (List (Nat × Nat × O))
 | [] => some []
 | (i, x) :: r => match place i, trO x, partsOf place r with
  | some (off, k), some y, some ys => some ((off, k, y) :: ys)
  | _, _, _ => none
def inOrder : Nat → List (Nat × Operand) → Option (List O)
 | _, [] => some []
 | n, (i, x) :: r => if i = n then (match trO x, inOrder (n + 1) r with
  | some y, some ys => some (y :: ys)
  | _, _ => none) else none
def trOO : Option Operand → Option (Option O)
 | none => some none
 | some x => (trO x).map some
def fieldAtT (P : Program) (s : TypeId) (f : Nat) : Option (Field × Nat) := match P.underlying s with
 | some (.struct fs) => match fs[f]? with
  | some fd => some (fd, fs.size)
  | none => none
 | _ => none
def eqlOp : BinOp → Option Bool
 | .eql => some false
 | .neq => some true
 | _ => none
/-- Each field is one plain cell, one behind the other, none of them blank. -/
def flatF (P : Program) : Nat → List Field → Option (List Kd)
 | _, [] => some []
 | n, f :: r => if f.name ≠ "_" ∧ f.offset = n then (match P.underlying f.type, flatF P (n + 1) r with
  | some .bool, some ks => some (.b :: ks)
  | some (.int _), some ks => some (.i :: ks)
  | some .string, some ks => some (.s :: ks)
  | _, _ => none) else none
/-- Of a struct's type: how it is compared. -/
def structEq (P : Program) (t : TypeId) : Option (List Kd) := match P.underlying t with
 | some (.struct fs) => if P.eqGuardType P.depth t = false ∧ P.stoodInHeld t = false then flatF P 0 fs.toList else none
 | _ => none
def trB (P : Program) (b : Builtin) (tys : List TypeId) (args : List Operand) : Option I :=
 match b, tys, args with
 | .len, [t], [x] => match P.underlying t with
  | some .string => (trO x).map .lens
  | some (.slice _) => (trO x).map .len
  | some (.array n _) => some (.lenA n)
  | some (.pointer a) => match P.underlying a with
   | some (.array n _) => some (.lenA n)
   | _ => none
  | _ => none
 | .append, [t, u], [x, y] => match P.underlying t, P.underlying u with
  | some (.slice e), some (.slice _) => match elemOk P e, trO x, trO y with
   | some k, some x, some y => some (.append k x y)
   | _, _, _ => none
  | _, _ => none
 | .max, _, x :: r => match trO x, trOs r with
  | some x, some ys => some (.minmax true x ys)
  | _, _ => none
 | .min, _, x :: r => match trO x, trOs r with
  | some x, some ys => some (.minmax false x ys)
  | _, _ => none
 | _, _, _ => none
def trI (P : Program) (o : Op) : Option I :=
 match o with
 | .move x => (trO x).map .mv
 | .assign x => (trO x).map .mv
 | .pick c a b => match trO c, trO a, trO b with
  | some c, some a, some b => some (.pick c a b)
  | _, _, _ => none
 | .alloc e => match P.info? e with
  | some i => match i.zero with
   | some z => (ofCs z.cells.toList).map .alloc
   | none => none
  | none => none
 | .box _ x => (trO x).map .box
 | .build t parts => match P.info? t, P.underlying t with
  | some it, some (.struct fields) => match it.zero, fields.toList.mapM (fun f => (P.info? f.type).map fun i => (f.offset, i.size)) with
   | some z, some places => match ofCs z.cells.toList, partsOf (places.toArray[·]?) parts.toList with
    | some z, some ps => some (.build z ps)
    | _, _ => none
   | _, _ => none
  | _, _ => none
 | .buildSlice t n parts => match P.underlying t with
  | some (.slice e) => match tyOf P 8 e, elemOk P e, inOrder 0 parts.toList with
   | some ty, some k, some xs => if ty.sz = k ∧ xs.length = n ∧ n * k ≤ 2 ^ 20 then some (.bslice ty xs) else none
   | _, _, _ => none
  | _ => none
 | .load t x => match sizeT P t, aggT P t, trO x with
  | some k, some g, some x => some (.load g k x)
  | _, _, _ => none
 | .store t a x => match sizeT P t, trO a, trO x with
  | some k, some a, some x => some (.store k a x)
  | _, _, _ => none
 | .binOp op t x y _ => match trO x, trO y with
  | some x, some y => match structEq P t with
   | some ks => match eqlOp op with
    | some n => some (.eqs n ks x y)
    | none => none
   | none => match P.underlying t with
    | some .bool => (eqlOp op).map (.eqb · x y)
    | some (.int _) => (binOf op).map (.bin · x y)
    | some .string => (binOf op).map (.bin · x y)
    | _ => none
  | _, _ => none
 | .unOp .neg _ x => (trO x).map .neg
 | .unOp .not _ x => (trO x).map .not
 | .convert s d x => match P.underlying s, P.underlying d with
  | some (.int _), some (.int k) => (trO x).map (.conv k)
  | _, _ => none
 | .makeFunc (.func f) a b => match trOs a.toList, trOs b.toList with
  | some a, some b => some (.mkfn f a b)
  | _, _ => none
 | .makeSlice t (.tmp n) (.tmp m) => if n = m then (match P.underlying t with
  | some (.slice e) => match tyOf P 8 e, elemOk P e, P.info? e with
   | some ty, some k, some i => match i.zero with
    | some z => match zeroOk ty z.cells.toList with
     | some [] => if ty.sz = k ∧ z.cells.size = k then some (.mkslice ty (.t n)) else none
     | _ => none
    | none => none
   | _, _, _ => none
  | _ => none) else none
 | .slice t x lo hi mx => match P.underlying t with
  | some (.slice e) => match sizeT P e, trO x, trOO lo, trOO hi, trOO mx with
   | some k, some x, some lo, some hi, some mx => some (.slice k x lo hi mx)
   | _, _, _, _, _ => none
  | _ => none
 | .fieldAddr s x f => match fieldAtT P s f with
  | some (fd, n) => match sizeT P fd.type, trO x with
   | some (_ + 1), some x => some (.fld fd.offset (fpath n f) x)
   | _, _ => none
  | none => none
 | .field s x f => match fieldAtT P s f with
  | some (fd, _) => match sizeT P fd.type, aggT P fd.type, trO x with
   | some k, some g, some x => some (.field g fd.offset k x)
   | _, _, _ => none
  | none => none
 | .indexAddr t x i => match P.underlying t, trO x, trO i with
  | some (.slice e), some x, some i => (sizeT P e).map fun k => .idx k x i
  | some (.array n e), some x, some (.c (.int _ (.ofNat m))) => match sizeT P e with
   | some (k + 1) => if m < n then some (.fld (m * (k + 1)) (fpath n m) x) else none
   | _ => none
  | some (.array n e), some x, some i => (sizeT P e).map fun k => .idxA n k x i
  | _, _, _ => none
 | .extract x k => (trO x).map (.ext k)
 | .call { callee := .builtin b, args, argTypes } => trB P b argTypes.toList args.toList
 | _ => none
def trG (ops : Array Oper) : Option (Nat × Bool) → Option (Option (Nat × Bool))
 | none => some none
 | some (j, b) => match ops[j]? with
  | some o => match o.dst with
   | some d => some (some (d, b))
   | none => none
  | none => none
def dstOk (N : Nat) : Option Nat → Bool
 | none => true
 | some d => d < N
def trItm (P : Program) (N : Nat) (ops : Array Oper) (o : Oper) : Option Itm :=
 if dstOk N o.dst then
  match trG ops o.guard with
  | none => none
  | some g =>
   match o.op with
   | .call { callee := .value f, args, argTypes } => match trO f, trOs args.toList with
    | some f, some args => some (.call o.dst g f args (argTypes.toList.map (tyOf P 8)))
    | _, _ => none
   | op => match trI P op with
    | some i => some (.op o.dst g i)
    | none => none
 else none
def trItms (P : Program) (N : Nat) (ops : Array Oper) : List Oper → Option (List Itm)
 | [] => some []
 | o :: r => match trItm P N ops o, trItms P N ops r with
  | some i, some is => some (i :: is)
  | _, _ => none
/-- What stands before each operation, whatever the order. -/
def predsOf (ops : Array Oper) : List (List Nat) := (Region.before ops).toList.map fun m => (List.range ops.size).filter fun j => m.testBit j
def I.os : I → List O
 | .mv x => [x]
 | .pick c a b => [c, a, b]
 | .alloc _ => []
 | .box x => [x]
 | .build _ ps => ps.map (·.2.2)
 | .bslice _ xs => xs
 | .load _ _ x => [x]
 | .store _ a x => [a, x]
 | .bin _ x y => [x, y]
 | .eqb _ x y => [x, y]
 | .eqs _ _ x y => [x, y]
 | .neg x => [x]
 | .not x => [x]
 | .conv _ x => [x]
 | .fld _ _ x => [x]
 | .field _ _ _ x => [x]
 | .idx _ x i => [x, i]
 | .idxA _ _ x i => [x, i]
 | .ext _ x => [x]
 | .len x => [x]
 | .lens x => [x]
 | .lenA _ => []
 | .append _ x y => [x, y]
 | .mkslice _ n => [n]
 | .mkfn _ a b => a ++ b
 | .slice _ x lo hi mx => x :: (lo.toList ++ hi.toList ++ mx.toList)
 | .minmax _ x ys => x :: ys
def slotO : O → List Nat
 | .t n => [n]
 | .c _ => []
def Itm.dst : Itm → Option Nat
 | .op d _ _ => d
 | .call d _ _ _ _ => d
def Itm.grd : Itm → Option (Nat × Bool)
 | .op _ g _ => g
 | .call _ g _ _ _ => g
def Itm.os : Itm → List O
 | .op _ _ i => i.os
 | .call _ _ f as _ => f :: as
/-- The slots that an item reads. -/
def Itm.uses (i : Itm) : List Nat := i.os.flatMap slotO ++ (match i.grd with
 | some (s, _) => [s]
 | none => [])
def notIn' (d : Option Nat) (l : List Nat) : Bool := match d with
 | some t => !(l.contains t)
 | none => true
/-- Two items whose slots have nothing to do with each other. -/
def slotsApart (a b : Itm) : Bool := notIn' a.dst b.uses && notIn' b.dst a.uses && (match a.dst with
 | some t => b.dst != some t
 | none => true)
def slotsOk (preds : List (List Nat)) (is : List Itm) : Bool :=
 (List.range is.length).all fun j => (List.range j).all fun i => ((preds.getD j []).contains i) || (match is[i]?, is[j]? with
  | some a, some b => slotsApart a b
  | _, _ => true)
def edgesOk (ops : Array Oper) : Bool := ops.toList.zipIdx.all fun (o, i) => o.after.all fun e => !(Region.binds .any e) || decide (e.on < i)
def trC (P : Program) (N : Nat) : Code → Option C
 | .skip => some .skip
 | .label _ => some .skip
 | .scope c => trC P N c
 | .region _ ops draw => match trItms P N ops ops.toList with
  | some is => match draw with
   | true => if slotsOk (predsOf ops) is = true ∧ edgesOk ops = true then some (.draw (predsOf ops) is) else none
   | false => some (.reg is)
  | none => none
 | .seq a b => match trC P N a, trC P N b with
  | some a, some b => some (.seq a b)
  | _, _ => none
 | .cond c a b => match trO c, trC P N a, trC P N b with
  | some c, some a, some b => some (.cond c a b)
  | _, _, _ => none
 | .block id c => (trC P N c).map (.block id)
 | .loop c => (trC P N c).map .loop
 | .exit id => some (.exit id)
 | .ret => some .ret
 | .rangeFunc f ps a b => match trO f, trC P N a, trC P N b with
  | some f, some a, some b => some (.rangeF f ps.toList a b)
  | _, _, _ => none
 | _ => none
/-- A function's results: its slots, or cells behind slots with their sizes. -/
inductive RV where
 | t (n : Nat)
 | cell (n : Nat) (agg : Bool) (k : Nat)
structure Fn where
 N : Nat
 np : Nat
 body : C
 res : List RV
 tys : List (Option Ty)
def trR (P : Program) : List ResultVar → Option (List RV)
 | [] => some []
 | .tmp t :: r => (trR P r).map (.t t :: ·)
 | .cell a t :: r => match sizeT P t, aggT P t, trR P r with
  | some k, some g, some rs => some (.cell a g k :: rs)
  | _, _, _ => none
def trF (P : Program) (f : Func) : Option Fn := match f.body with
 | some c => match trC P f.ntmps c, trR P f.results.toList with
  | some b, some rs => if f.params.size + f.nfree ≤ f.ntmps then some ⟨f.ntmps, f.params.size + f.nfree, b, rs, f.resultTypes.toList.map (tyOf P 8)⟩ else none
  | _, _ => none
 | none => none
end Go.AM
end
section
namespace Go.AM
def rwO (c : O) (b : Bool) (S : St) : St := match c with
 | .t n => rw2 n b S
 | .c _ => S
def isData : Nat → V → Bool
 | 0, _ => false
 | n + 1, v => match v with
  | .sl _ _ _ _ => false
  | .ptr _ _ => false
  | .ep _ _ _ _ => false
  | .yl _ => false
  | .ipc cs => cs.all (isData n)
  | .fn _ a b => a.all (isData n) && b.all (isData n)
  | .agg cs => cs.all (isData n)
  | .tup cs => cs.all (isData n)
  | .ifc _ v => isData n v
  | _ => true
def mapO (g : V → Option V) : List V → Option (List V)
 | [] => some []
 | v :: r => match g v with
  | some x => match mapO g r with
   | some xs => some (x :: xs)
   | none => none
  | none => none
/-- A value as data, all blocks read for ever. -/
def fin (ar : Ar) (bl : Blks) : Nat → V → Option V
 | 0, _ => none
 | n + 1, v => match v with
  | .sl id t lo m => match bget id bl with
   | some (.arr t' xs _) => if t = t' then some (.lst t' (ar.sub' xs lo m)) else none
   | _ => none
  | .ptr id off => match bget id bl with
   | some (.cells cs _) => match mapO (fin ar bl n) cs with
    | some ds => if off ≤ ds.length then some (.ipc (ds.drop off)) else none
    | none => none
   | _ => none
  | .ep _ _ _ _ => none
  | .yl _ => none
  | .fn f a b => match mapO (fin ar bl n) a, mapO (fin ar bl n) b with
   | some a, some b => some (.fn f a b)
   | _, _ => none
  | .agg cs => match mapO (fin ar bl n) cs with
   | some cs => some (.agg cs)
   | none => none
  | .tup cs => match mapO (fin ar bl n) cs with
   | some cs => some (.tup cs)
   | none => none
  | .ifc t v => match fin ar bl n v with
   | some v => some (.ifc t v)
   | none => none
  | .ipc cs => if cs.all (isData n) then some (.ipc cs) else none
  | v => some v
def vid : V → List Nat
 | .sl id _ _ _ => [id]
 | .ptr id _ => [id]
 | .ep id _ _ _ => [id]
 | _ => []
def vids : V → List Nat
 | .agg cs => cs.flatMap vid
 | v => vid v
/-- The blocks that an operation reads. -/
def rdOf (i : I) (env : List (Nat × V)) : List Nat := match i with
 | .load _ _ x => vid (x.ev env)
 | .store _ a x => vid (a.ev env) ++ vids (x.ev env)
 | .bslice _ xs => (xs.map (·.ev env)).flatMap vids
 | .append _ x y => vid (x.ev env) ++ vid (y.ev env)
 | _ => []
def memN (x : Nat) : List Nat → Bool
 | [] => false
 | y :: r => match Nat.beq y x with
  | true => true
  | false => memN x r
def disjN : List Nat → List Nat → Bool
 | [], _ => true
 | x :: r, l => match memN x l with
  | true => false
  | false => disjN r l
/-- What an item has read and written of the heap. -/
structure DR where
 k : Nat
 rd : List Nat
 wr : List Nat
def drPair (preds : List (List Nat)) (a b : DR) : Bool :=
 match memN a.k (preds.getD b.k []) with
 | true => true
 | false => match disjN a.wr b.rd with
  | false => false
  | true => match disjN a.wr b.wr with
   | false => false
   | true => disjN a.rd b.wr
def drOne (preds : List (List Nat)) (a : DR) : List DR → Bool
 | [] => true
 | b :: r => match drPair preds a b with
  | true => drOne preds a r
  | false => false
def drOk (preds : List (List Nat)) : List DR → Bool
 | [] => true
 | a :: r => match drOne preds a r with
  | true => drOk preds r
  | false => false
def addR (k : Nat) (rd wr : List Nat) (recs : List DR) : List DR := match rd, wr with
 | [], [] => recs
 | _, _ => recs ++ [⟨k, rd, wr⟩]
/-- A value that is no list and holds none. -/
def scal : V → Bool
 | .bool _ => true
 | .tf _ => true
 | .int _ _ => true
 | .tup vs => vs.all fun
  | .bool _ => true
  | .tf _ => true
  | .int _ _ => true
  | _ => false
 | _ => false
/-- What is put where a guard looks is known. -/
def putG (gs : List Nat) (d : Option Nat) (v : V) (env : List (Nat × V)) (K : List (Nat × V) → Prop) : Prop := match d with
 | none => K env
 | some t => match memN t gs with
  | false => K (setE t v env)
  | true => match v with
   | .bool c => Br c (fun _ => K (setE t (.tf true) env)) (fun _ => K (setE t (.tf false) env))
   | v => K (setE t v env)
def gOk (g : Option (Nat × Bool)) (env : List (Nat × V)) : Option Bool := match g with
 | none => some true
 | some (s, b) => match get s env with
  | .tf c => match c, b with
   | true, true => some true
   | false, false => some true
   | _, _ => some false
  | .tup _ => some false
  | _ => none
/-- The blocks that 'fin' reads. -/
def fids (bl : Blks) : Nat → V → List Nat
 | 0, _ => []
 | n + 1, v => match v with
  | .sl id _ _ _ => [id]
  | .ptr id _ => id :: (match bget id bl with
   | some (.cells cs _) => cs.flatMap (fids bl n)
   | _ => [])
  | .fn _ a b => a.flatMap (fids bl n) ++ b.flatMap (fids bl n)
  | .agg cs => cs.flatMap (fids bl n)
  | .tup cs => cs.flatMap (fids bl n)
  | .ifc _ v => fids bl n v
  | _ => []
def idsOf (bl : Blks) (vs : List V) : List Nat := vs.flatMap (fids bl 8)
def wpDr (ar : Ar) (gs : List Nat) (b : Nat) : List Itm → Nat → List (Nat × V) → Blks → List DR → (List (Nat × V) → Blks → List DR → Prop) → Prop
 | [], _, env, bl, recs, K => K env bl recs
 | .op d g i :: r, k, env, bl, recs, K => match gOk g env with
  | some true => match evI ar i env bl (b + k) with
   | some (ob, v, u) => AllB ob ∧ putG gs d v env fun env' => wpDr ar gs b r (k + 1) env' (bupd u bl) (addR k (rdOf i env) (u.map (·.1)) recs) K
   | none => False
  | some false => wpDr ar gs b r (k + 1) (put d (.tup []) env) bl recs K
  | none => False
 | .call d g f a tys :: r, k, env, bl, recs, K => match gOk g env with
  | some true => match f.ev env with
   | .fn f fs cs => match fs ++ normL tys (a.map (·.ev env)) ++ cs with
    | vs => match mapO (fin ar bl 8) vs with
     | some vs' => ∃ x, ar.pcall f vs' x ∧ (scal x || vs.all (isData 8)) = true ∧ putG gs d x env fun env' => wpDr ar gs b r (k + 1) env' bl (addR k (idsOf bl vs) [] recs) K
     | none => False
   | _ => False
  | some false => wpDr ar gs b r (k + 1) (put d (.tup []) env) bl recs K
  | none => False
def gslots : List Itm → List Nat
 | [] => []
 | .op _ (some (s, _)) _ :: r => s :: gslots r
 | .call _ (some (s, _)) _ _ _ :: r => s :: gslots r
 | _ :: r => gslots r
def wpDraw (ar : Ar) (preds : List (List Nat)) (is : List Itm) (S : St) (K : St → Prop) : Prop :=
 wpDr ar (gslots is) S.H.next is 0 S.env S.H.bl [] fun env bl recs => drOk preds recs = true ∧ K ⟨env, ⟨S.H.next + is.length, bl⟩, S.ms⟩
def wpE (ar : Ar) : C → St → (Ex → St → Prop) → Prop
 | .skip, S, K => K .normal S
 | .reg is, S, K => wpItms ar is S fun S => K .normal S
 | .draw ps is, S, K => wpDraw ar ps is S fun S => K .normal S
 | .seq a b, S, K => wpE ar a S fun e S => match e with
  | .normal => wpE ar b S K
  | .exit id => K (.exit id) S
  | .ret => K .ret S
 | .cond c a b, S, K => match c.ev S.env with
  | .tf true => wpE ar a S K
  | .tf false => wpE ar b S K
  | .bool x => Br x (fun _ => wpE ar a (rwO c true S) K) (fun _ => wpE ar b (rwO c false S) K)
  | _ => False
 | .block id c, S, K => wpE ar c S fun e S => match e with
  | .normal => K .normal S
  | .exit id' => match Nat.beq id' id with
   | true => K .normal S
   | false => K (.exit id') S
  | .ret => K .ret S
 | .loop c, S, K => ar.loop c S K
 | .exit id, S, K => K (.exit id) S
 | .ret, S, K => K .ret S
 | .rangeF f ps a b, S, K => ar.rangeF f ps a b S K
def args : Nat → List V → List (Nat × V)
 | _, [] => []
 | n, v :: r => (n, v) :: args (n + 1) r
end Go.AM
end
section
namespace Go.AM
/-- What is fixed while a function runs: the world in which it began, what may be read for ever, the caller's blocks, the round it stands in. -/
structure Ctx where
  w0 : World
  ι0 : Iota
  m0 : Mu
  ro : Option Nat
  x : Nat → Prop
/-- The model's blocks that may change: new ones, and those that the caller lends. -/
def Ctx.own (Y : Ctx) (b : Nat) : Prop := Y.w0.heap.size ≤ b ∨ Y.x b
theorem Ctx.own_ne {Y : Ctx} {b k : Nat} (h : Y.own b) (hk : k < Y.w0.heap.size) (hx : ¬ Y.x k) : k ≠ b := fun e => by
  subst e; rcases h with h | h
  · omega
  · exact hx h
/-- All old blocks but those that are lent are as they were. -/
structure Bel (x : Nat → Prop) (w0 w : World) : Prop where
  os : w.os = w0.os
  tape : w.tape = w0.tape
  output : w.output = w0.output
  size : w0.heap.size ≤ w.heap.size
  block : ∀ k, k < w0.heap.size → ¬ x k → w.heap[k]? = w0.heap[k]?
theorem Bel.refl (x : Nat → Prop) (w : World) : Bel x w w := ⟨rfl, rfl, rfl, Nat.le_refl _, fun _ _ _ => rfl⟩
theorem Bel.to {x : Nat → Prop} {w0 w : World} (h : Bel x w0 w) (hx : ∀ k, ¬ x k) : RowKit.Below w0.heap.size w0 w := ⟨h.os, h.tape, h.output, h.size, fun k hk => h.block k hk (hx k)⟩
theorem Bel.then {x : Nat → Prop} {w0 w w' : World} (h : Bel x w0 w) (k : RowKit.Below w.heap.size w w') : Bel x w0 w' :=
  ⟨k.os.trans h.os, k.tape.trans h.tape, k.output.trans h.output, Nat.le_trans h.size k.size, fun i hi hx => (k.block i (Nat.lt_of_lt_of_le hi h.size)).trans (h.block i hi hx)⟩
structure Mem (B : Nat → Prop) (ι : Iota) (μ : Mu) (id : Nat) (fz : Bool) (w : World) (L : Loc) (vs : List Value) : Prop where
  mu : μ id = some L
  old : B L.b
  row : ∃ c e, w.heap[L.b]? = some (.cells c e (0, 0)) ∧ c.size = L.tot ∧ ∀ (j : Nat) v, vs[j]? = some v → c[L.ba + j]? = some v
  fits : L.ba + vs.length ≤ L.tot
  one : ∀ v ∈ vs, v.oneCell' = true
  fzT : fz = true → Reads ι L.b L.ba vs
  fzF : fz = false → ∀ o, ι L.b o = none
def jumpR : Option Ex → Option Code → Prop
  | none, c => c = none
  | some .normal, _ => False
  | some (.exit id), c => c = some (.exit id)
  | some .ret, c => c = some .ret
def stR : LState → LoopState
  | .ready => .ready
  | .busy => .busy
  | .done => .done
  | .exhausted => .exhausted
def EnvR (ι : Iota) (μ : Mu) (env : List (Nat × V)) (tmps : Array Value) : Prop := ∀ t, Rel ι μ (get t env) (tmps.getD t undef)
def BlkOk (P : Program) (B : Nat → Prop) (ι : Iota) (μ : Mu) (id : Nat) (w : World) : Blk → Prop
  | .cells cs fz => ∃ L vs, Mem B ι μ id fz w L vs ∧ RelL ι μ cs vs
  | .arr t xs fz => (xs = [] ∧ μ id = none) ∨ ∃ L vs, Mem B ι μ id fz w L vs ∧ CatR (CellsD ι t) xs vs ∧ xs.length = L.len
  | .loop st j d env ps as bd N => ∃ L r Ld, μ id = some L ∧ B L.b ∧ w.heap[L.b]? = some (.loop r) ∧ r.state = stR st ∧ jumpR j r.pending ∧ EnvR ι μ env r.tmps ∧
      r.params.toList = ps ∧ r.tmps.size = N ∧ (∀ p ∈ ps, p < N) ∧ trC P N r.assign = some as ∧ trC P N r.body = some bd ∧ μ d = some Ld ∧ r.defers = Ld.b
  | .dfr => ∃ L, μ id = some L ∧ B L.b ∧ w.heap[L.b]? = some (.deferred (some []))
structure Inv (P : Program) (Y : Ctx) (ι : Iota) (μ : Mu) (H : Heap) (w : World) : Prop where
  below : Bel Y.x Y.w0 w
  i0 : Y.ι0.le ι
  iB : ∀ b o, b < Y.w0.heap.size → ¬ Y.x b → ι b o = Y.ι0 b o
  rd : ∀ b o x, ι b o = some x → w.cell? ⟨b, o, none⟩ = some x
  m0 : Y.m0.le μ
  nx : ∀ id, H.next ≤ id → μ id = none
  live : ∀ id B, bget id H.bl = some B → BlkOk P Y.own ι μ id w B
  inj : ∀ id id' B B' L L', bget id H.bl = some B → bget id' H.bl = some B' → μ id = some L → μ id' = some L' → L.b = L'.b → id = id'
  lt : ∀ id B, bget id H.bl = some B → id < H.next
theorem bget_bdel (i j : Nat) : ∀ bl : Blks, bget i (bdel j bl) = if i = j then none else bget i bl
  | [] => by simp [bdel, bget]
  | (s, b) :: r => by
    have ih := bget_bdel i j r
    by_cases h : s = j
    · subst h
      have : Nat.beq s s = true := Nat.beq_refl s
      simp only [bdel, this, ih]
      by_cases hi : i = s
      · simp [hi]
      · have h2 : Nat.beq s i = false := by rw [Bool.eq_false_iff]; intro e; exact hi (Nat.eq_of_beq_eq_true e).symm
        simp [hi, bget, h2]
    · have h1 : Nat.beq s j = false := by rw [Bool.eq_false_iff]; intro e; exact h (Nat.eq_of_beq_eq_true e)
      simp only [bdel, h1, bget]
      by_cases hi : s = i
      · subst hi; simp [Nat.beq_refl, h]
      · have h2 : Nat.beq s i = false := by rw [Bool.eq_false_iff]; intro e; exact hi (Nat.eq_of_beq_eq_true e)
        simp [h2, ih]
theorem bget_cons (i s : Nat) (b : Blk) (r : Blks) : bget i ((s, b) :: r) = if s = i then some b else bget i r := by
  by_cases h : s = i
  · subst h; simp [bget, Nat.beq_refl]
  · have h2 : Nat.beq s i = false := by rw [Bool.eq_false_iff]; intro e; exact h (Nat.eq_of_beq_eq_true e)
    simp [bget, h2, h]
theorem get_cons (i s : Nat) (b : V) (r : List (Nat × V)) : get i ((s, b) :: r) = if s = i then b else get i r := by
  by_cases h : s = i
  · subst h; simp [get, Nat.beq_refl]
  · have h2 : Nat.beq s i = false := by rw [Bool.eq_false_iff]; intro e; exact h (Nat.eq_of_beq_eq_true e)
    simp [get, h2, h]
theorem get_setE (i s : Nat) (b : V) (r : List (Nat × V)) : get i (setE s b r) = if s = i then b else get i r := by simp only [setE, get_cons]
theorem bget_set (i s : Nat) (b : Blk) (bl : Blks) : bget i ((s, b) :: bdel s bl) = if i = s then some b else bget i bl := by
  rw [bget_cons, bget_bdel]
  by_cases h : s = i
  · simp [h]
  · simp [h, Ne.symm h, fun e : i = s => h e.symm]
section
variable {P : Program} {Y : Ctx} {ι ι' : Iota} {μ μ' : Mu} {H : Heap} {w w' : World}
theorem Mem.mono {B : Nat → Prop} {id : Nat} {fz : Bool} {L : Loc} {vs : List Value} (h : Mem B ι μ id fz w L vs) (hi : ι.le ι') (hm : μ.le μ') (hw : w'.heap[L.b]? = w.heap[L.b]?)
    (hf : fz = false → ∀ o, ι' L.b o = none) : Mem B ι' μ' id fz w' L vs :=
  ⟨hm _ _ h.mu, h.old, by rw [hw]; exact h.row, h.fits, h.one, fun e => (h.fzT e).mono hi, hf⟩
theorem EnvR.mono (hi : ι.le ι') (hm : μ.le μ') {env : List (Nat × V)} {t : Array Value} (h : EnvR ι μ env t) : EnvR ι' μ' env t := fun i => (h i).mono hi hm
/-- A block stays as it was where its memory does. -/
theorem BlkOk.mono {B : Nat → Prop} {id : Nat} {b : Blk} (h : BlkOk P B ι μ id w b) (hi : ι.le ι') (hm : μ.le μ') (hn : μ id = none → μ' id = none)
    (hw : ∀ L, μ id = some L → w'.heap[L.b]? = w.heap[L.b]?) (hf : ∀ L, μ id = some L → (∀ o, ι L.b o = none) → ∀ o, ι' L.b o = none) : BlkOk P B ι' μ' id w' b := by
  cases b with
  | cells cs fz =>
    obtain ⟨L, vs, hM, hR⟩ := h
    exact ⟨L, vs, hM.mono hi hm (hw L hM.mu) (fun e => hf L hM.mu (hM.fzF e)), hR.mono hi hm⟩
  | arr t xs fz =>
    rcases h with ⟨rfl, h⟩ | ⟨L, vs, hM, hR, hl⟩
    · exact .inl ⟨rfl, hn h⟩
    · exact .inr ⟨L, vs, hM.mono hi hm (hw L hM.mu) (fun e => hf L hM.mu (hM.fzF e)), CatR.mono (fun _ _ => CellsD.mono hi) hR, hl⟩
  | loop st j d env ps as bd N =>
    obtain ⟨L, r, Ld, h1, h2, h3, h4, h5, h6, h7, h8, h9, h10, h11, h12, h13⟩ := h
    exact ⟨L, r, Ld, hm _ _ h1, h2, by rw [hw L h1]; exact h3, h4, h5, h6.mono hi hm, h7, h8, h9, h10, h11, hm _ _ h12, h13⟩
  | dfr =>
    obtain ⟨L, h1, h2, h3⟩ := h
    exact ⟨L, hm _ _ h1, h2, by rw [hw L h1]; exact h3⟩
/-- Where a live block lies. -/
theorem BlkOk.loc {B : Nat → Prop} {id : Nat} {b : Blk} (h : BlkOk P B ι μ id w b) {L : Loc} (hL : μ id = some L) : B L.b ∧ L.b < w.heap.size := by
  have lt : ∀ {o : Obj}, w.heap[L.b]? = some o → L.b < w.heap.size := fun h => (Array.getElem?_eq_some_iff.1 h).1
  cases b with
  | cells cs fz =>
    obtain ⟨L', vs, hM, _⟩ := h
    have := hM.mu; rw [hL] at this; cases this
    obtain ⟨c, e, h1, _⟩ := hM.row
    exact ⟨hM.old, lt h1⟩
  | arr t xs fz =>
    rcases h with ⟨_, h⟩ | ⟨L', vs, hM, _⟩
    · rw [h] at hL; cases hL
    · have := hM.mu; rw [hL] at this; cases this
      obtain ⟨c, e, h1, _⟩ := hM.row
      exact ⟨hM.old, lt h1⟩
  | loop st j d env ps as bd N =>
    obtain ⟨L', r, Ld, h1, h2, h3, _⟩ := h
    rw [hL] at h1; cases h1
    exact ⟨h2, lt h3⟩
  | dfr =>
    obtain ⟨L', h1, h2, h3⟩ := h
    rw [hL] at h1; cases h1
    exact ⟨h2, lt h3⟩
theorem Inv.congr {bl : Blks} {n : Nat} (h : Inv P Y ι μ H w) (hb : ∀ id, bget id bl = bget id H.bl) (hn : H.next = n) : Inv P Y ι μ ⟨n, bl⟩ w :=
  ⟨h.below, h.i0, h.iB, h.rd, h.m0, by rw [← hn]; exact h.nx, fun id B hB => h.live id B (by rw [← hb]; exact hB),
   fun id id' B B' L L' h1 h2 => h.inj id id' B B' L L' (by rw [← hb]; exact h1) (by rw [← hb]; exact h2), fun id B hB => by rw [← hn]; exact h.lt id B (by rw [← hb]; exact hB)⟩
theorem Inv.sub {bl : Blks} (h : Inv P Y ι μ H w) (hb : ∀ id B, bget id bl = some B → bget id H.bl = some B) : Inv P Y ι μ ⟨H.next, bl⟩ w :=
  ⟨h.below, h.i0, h.iB, h.rd, h.m0, h.nx, fun id B hB => h.live id B (hb _ _ hB),
   fun id id' B B' L L' h1 h2 => h.inj id id' B B' L L' (hb _ _ h1) (hb _ _ h2), fun id B hB => h.lt id B (hb _ _ hB)⟩
theorem Inv.del (h : Inv P Y ι μ H w) (i : Nat) : Inv P Y ι μ ⟨H.next, bdel i H.bl⟩ w :=
  h.sub fun id B hB => by rw [bget_bdel] at hB; split at hB <;> simp_all
/-- A later name. -/
theorem Inv.next (h : Inv P Y ι μ H w) : Inv P Y ι μ ⟨H.next + 1, H.bl⟩ w :=
  ⟨h.below, h.i0, h.iB, h.rd, h.m0, fun id hid => h.nx id (by simp only at hid; omega), h.live, h.inj, fun id B hB => by have := h.lt id B hB; simp only; omega⟩
theorem Inv.drew (h : Inv P Y ι μ H w) : Inv P Y ι μ H w.drew :=
  ⟨⟨h.below.os, h.below.tape, h.below.output, h.below.size, h.below.block⟩, h.i0, h.iB, h.rd, h.m0, h.nx,
   fun id B hB => (h.live id B hB).mono (Iota.le_refl _) (Mu.le_refl _) (fun h => h) (fun _ _ => rfl) (fun _ _ h => h), h.inj, h.lt⟩
def Mu.set (μ : Mu) (n : Nat) (L : Loc) : Mu := fun id => if id = n then some L else μ id
theorem Mu.le_set {n : Nat} {L : Loc} (h : μ n = none) : μ.le (μ.set n L) := fun id L' hL => by
  unfold Mu.set; split
  · rename_i e; subst e; rw [h] at hL; cases hL
  · exact hL
/-- A new block. -/
theorem Inv.lay (h : Inv P Y ι μ H w) {nid : Nat} (hn : μ nid = none) {o : Obj} {b : Blk} {L : Loc} (hL : L.b = w.heap.size)
    (hb : BlkOk P Y.own ι (μ.set nid L) nid (w.alloc o) b) : Inv P Y ι (μ.set nid L) ⟨max H.next (nid + 1), (nid, b) :: bdel nid H.bl⟩ (w.alloc o) := by
  have hle := Mu.le_set (L := L) hn
  have heap : ∀ k, k < w.heap.size → (w.alloc o).heap[k]? = w.heap[k]? := fun k hk => by
    show (w.heap.push o)[k]? = _
    rw [Array.getElem?_push]; split
    · omega
    · rfl
  refine ⟨⟨h.below.os, h.below.tape, h.below.output, by have := h.below.size; simp; omega, fun k hk hx => ?_⟩, h.i0, h.iB, fun b o x hx => ?_, Mu.le_trans h.m0 hle, fun id hid => ?_, fun id B hB => ?_, ?_, ?_⟩
  · have := h.below.size
    rw [heap k (by omega)]; exact h.below.block k hk hx
  · have := h.rd b o x hx
    rw [World.cell?_alloc_lt _ _ _ (World.block_lt_of_cell? _ _ this)]; exact this
  · simp only at hid
    unfold Mu.set; rw [if_neg (by omega)]; exact h.nx id (by omega)
  · rw [bget_set] at hB
    split at hB
    · rename_i e; subst e; cases hB; exact hb
    · rename_i e
      refine (h.live id B hB).mono (Iota.le_refl _) hle (fun hm => by unfold Mu.set; rw [if_neg e]; exact hm) (fun L' hL' => ?_) (fun _ _ h => h)
      exact heap _ ((h.live id B hB).loc hL').2
  · intro id id' B B' L1 L2 h1 h2 hm1 hm2 e
    rw [bget_set] at h1 h2
    unfold Mu.set at hm1 hm2
    by_cases e1 : id = nid <;> by_cases e2 : id' = nid
    · rw [e1, e2]
    · rw [if_pos e1] at hm1; rw [if_neg e2] at hm2 h2
      cases hm1
      have := ((h.live id' B' h2).loc hm2).2; omega
    · rw [if_pos e2] at hm2; rw [if_neg e1] at hm1 h1
      cases hm2
      have := ((h.live id B h1).loc hm1).2; omega
    · rw [if_neg e1] at hm1 h1; rw [if_neg e2] at hm2 h2
      exact h.inj id id' B B' L1 L2 h1 h2 hm1 hm2 e
  · intro id B hB
    rw [bget_set] at hB
    split at hB
    · rename_i e; subst e; simp only; omega
    · have := h.lt id B hB; simp only; omega
/-- A live block's memory, and so what it holds, is turned. -/
theorem Inv.turn (h : Inv P Y ι μ H w) {id : Nat} {b0 b : Blk} (hb0 : bget id H.bl = some b0) {L : Loc} (hL : μ id = some L) (hfree : ∀ o, ι L.b o = none)
    (hos : w'.os = w.os) (htape : w'.tape = w.tape) (hout : w'.output = w.output) (hsz : w'.heap.size = w.heap.size) (hk : ∀ k, k ≠ L.b → w'.heap[k]? = w.heap[k]?)
    (hb : BlkOk P Y.own ι μ id w' b) : Inv P Y ι μ ⟨H.next, (id, b) :: bdel id H.bl⟩ w' := by
  have hold := ((h.live id b0 hb0).loc hL).1
  refine ⟨⟨hos.trans h.below.os, htape.trans h.below.tape, hout.trans h.below.output, by rw [hsz]; exact h.below.size, fun k hk' hx => ?_⟩, h.i0, h.iB, fun b o x hx => ?_, h.m0, h.nx, fun i B hB => ?_, ?_, ?_⟩
  · rw [hk k (Ctx.own_ne hold hk' hx)]; exact h.below.block k hk' hx
  · have := h.rd b o x hx
    have hne : b ≠ L.b := fun e => by subst e; rw [hfree] at hx; cases hx
    unfold World.cell? at this ⊢
    simp only at this ⊢
    rw [hk b hne]; exact this
  · rw [bget_set] at hB
    split at hB
    · rename_i e; subst e; cases hB; exact hb
    · rename_i e
      refine (h.live i B hB).mono (Iota.le_refl _) (Mu.le_refl _) (fun h => h) (fun L' hL' => hk _ (fun e' => e (h.inj i id B b0 L' L hB hb0 hL' hL e'))) (fun _ _ h => h)
  · intro i i' B B' L1 L2 h1 h2 hm1 hm2 e
    have : ∀ {j B}, bget j ((id, b) :: bdel id H.bl) = some B → ∃ B'', bget j H.bl = some B'' := fun {j B} hj => by
      rw [bget_set] at hj
      split at hj
      · rename_i e; subst e; exact ⟨b0, hb0⟩
      · exact ⟨B, hj⟩
    obtain ⟨C, hC⟩ := this h1
    obtain ⟨C', hC'⟩ := this h2
    exact h.inj i i' C C' L1 L2 hC hC' hm1 hm2 e
  · intro i B hB
    rw [bget_set] at hB
    split at hB
    · rename_i e; subst e; exact h.lt _ _ hb0
    · exact h.lt i B hB
/-- Only what is known of a live block is turned. -/
theorem Inv.same (h : Inv P Y ι μ H w) {id : Nat} {b0 b : Blk} (hb0 : bget id H.bl = some b0) (hb : BlkOk P Y.own ι μ id w b) : Inv P Y ι μ ⟨H.next, (id, b) :: bdel id H.bl⟩ w := by
  refine ⟨h.below, h.i0, h.iB, h.rd, h.m0, h.nx, fun i B hB => ?_, ?_, ?_⟩
  · rw [bget_set] at hB
    split at hB
    · rename_i e; subst e; cases hB; exact hb
    · exact h.live i B hB
  · intro i i' B B' L1 L2 h1 h2 hm1 hm2 e
    have : ∀ {j B}, bget j ((id, b) :: bdel id H.bl) = some B → ∃ B'', bget j H.bl = some B'' := fun {j B} hj => by
      rw [bget_set] at hj
      split at hj
      · rename_i e; subst e; exact ⟨b0, hb0⟩
      · exact ⟨B, hj⟩
    obtain ⟨C, hC⟩ := this h1
    obtain ⟨C', hC'⟩ := this h2
    exact h.inj i i' C C' L1 L2 hC hC' hm1 hm2 e
  · intro i B hB
    rw [bget_set] at hB
    split at hB
    · rename_i e; subst e; exact h.lt _ _ hb0
    · exact h.lt i B hB
/-- What is read for ever, and a block's cells. -/
def Iota.add (ι : Iota) (L : Loc) (vs : List Value) : Iota := fun b o => if b = L.b then (if L.ba ≤ o then vs[o - L.ba]? else none) else ι b o
theorem Iota.le_add {L : Loc} {vs : List Value} (h : ∀ o, ι L.b o = none) : ι.le (ι.add L vs) := fun b o x hx => by
  unfold Iota.add; split
  · rename_i e; subst e; rw [h] at hx; cases hx
  · exact hx
theorem Reads.add {L : Loc} {vs : List Value} : Reads (ι.add L vs) L.b L.ba vs := fun j v hj => by
  unfold Iota.add; rw [if_pos rfl, if_pos (by omega)]; simpa using hj
/-- A block of data is written no more. -/
theorem Inv.freeze (h : Inv P Y ι μ H w) {id : Nat} {t : Ty} {xs : List t.den} {fz : Bool} (hb : bget id H.bl = some (.arr t xs fz)) :
    ∃ ι', ι.le ι' ∧ Inv P Y ι' μ ⟨H.next, (id, .arr t xs true) :: bdel id H.bl⟩ w ∧ Frozen ι' μ id t xs := by
  rcases h.live id _ hb with ⟨rfl, hn⟩ | ⟨L, vs, hM, hR, hl⟩
  · exact ⟨ι, Iota.le_refl _, h.same hb (.inl ⟨rfl, hn⟩), .inl ⟨rfl, hn⟩⟩
  · cases fz with
    | true => exact ⟨ι, Iota.le_refl _, h.same hb (.inr ⟨L, vs, hM, hR, hl⟩), .inr ⟨L, vs, hM.mu, hM.fzT rfl, hR, hl⟩⟩
    | false =>
      have hfree := hM.fzF rfl
      have hle := Iota.le_add (vs := vs) hfree
      have hR' : CatR (CellsD (ι.add L vs) t) xs vs := CatR.mono (fun _ _ => CellsD.mono hle) hR
      refine ⟨ι.add L vs, hle, ?_, .inr ⟨L, vs, hM.mu, Reads.add, hR', hl⟩⟩
      refine ⟨h.below, Iota.le_trans h.i0 hle, fun b o hb' hx => ?_, fun b o x hx => ?_, h.m0, h.nx, fun i B hB => ?_, ?_, ?_⟩
      · unfold Iota.add; rw [if_neg (fun e => Ctx.own_ne hM.old hb' hx e)]; exact h.iB b o hb' hx
      · unfold Iota.add at hx
        split at hx
        · rename_i e; subst e
          split at hx
          · rename_i ho
            obtain ⟨c, e, h1, h2, h3⟩ := hM.row
            have := h3 _ _ hx
            rw [show L.ba + (o - L.ba) = o by omega] at this
            simp [World.cell?, h1, this]
          · cases hx
        · exact h.rd b o x hx
      · rw [bget_set] at hB
        split at hB
        · rename_i e; subst e; cases hB
          exact .inr ⟨L, vs, ⟨hM.mu, hM.old, hM.row, hM.fits, hM.one, fun _ => Reads.add, fun e => by cases e⟩, hR', hl⟩
        · rename_i e
          refine (h.live i B hB).mono hle (Mu.le_refl _) (fun h => h) (fun _ _ => rfl) (fun L' hL' ho o => ?_)
          unfold Iota.add
          rw [if_neg (fun e' => e (h.inj i id B _ L' L hB hb hL' hM.mu e'))]
          exact ho o
      · intro i i' B B' L1 L2 h1 h2 hm1 hm2 e
        have : ∀ {j B}, bget j ((id, .arr t xs true) :: bdel id H.bl) = some B → ∃ B'', bget j H.bl = some B'' := fun {j B} hj => by
          rw [bget_set] at hj
          split at hj
          · rename_i e; subst e; exact ⟨_, hb⟩
          · exact ⟨B, hj⟩
        obtain ⟨C, hC⟩ := this h1
        obtain ⟨C', hC'⟩ := this h2
        exact h.inj i i' C C' L1 L2 hC hC' hm1 hm2 e
      · intro i B hB
        rw [bget_set] at hB
        split at hB
        · rename_i e; subst e; exact h.lt _ _ hb
        · exact h.lt i B hB
end
end Go.AM
end
section
namespace Go.AM
section
variable {P : Program} {Y : Ctx} {ι ι' : Iota} {μ μ' : Mu} {H : Heap} {w w' : World}
/-- 'ar' reckons as the model does. -/
@[reducible] def mkAr (call : Nat → List V → Heap → (V → Heap → Prop) → Prop) (pcall : Nat → List V → V → Prop) (loop : C → St → (Ex → St → Prop) → Prop)
  (round : Nat → List V → Heap → (V → Heap → Prop) → Prop) (rangeF : O → List Nat → C → C → St → (Ex → St → Prop) → Prop) : Ar where
 add a b := a + b
 sub a b := a - b
 mul a b := a * b
 quo a b := a.tdiv b
 rem a b := a.tmod b
 bits op k a b := match op with
  | .and => k.wrap (BitVec.ofInt k.bits a &&& BitVec.ofInt k.bits b).toNat
  | .or => k.wrap (BitVec.ofInt k.bits a ||| BitVec.ofInt k.bits b).toNat
  | .xor => k.wrap (BitVec.ofInt k.bits a ^^^ BitVec.ofInt k.bits b).toNat
  | _ => k.wrap (BitVec.ofInt k.bits a &&& ~~~(BitVec.ofInt k.bits b)).toNat
 shr a b := a.fdiv (2 ^ b.toNat)
 shl a b := a * 2 ^ b.toNat
 imin a b := if b < a then b else a
 imax a b := if b > a then b else a
 eq a b := a == b
 lt a b := decide (a < b)
 le a b := decide (a ≤ b)
 beq a b := a == b
 seq a b := a.toList == b.toList
 slt a b := Op.bytesLess a.toList b.toList
 slen s := (s.size : Int)
 band a b := a && b
 bnot a := !a
 bite c a b := if c then a else b
 rng k z := k.min ≤ z && z ≤ k.max
 inb i n := decide (0 ≤ i ∧ i < n)
 ilt a b := decide (a < b)
 len xs := xs.length
 get d xs i := xs.getD i d
 set xs i v := xs.set i v
 sub' xs lo n := (xs.drop lo).take n
 app xs ys := xs ++ ys
 rep n x := List.replicate n x
 nadd a b := a + b
 nsub a b := a - b
 toN z := z.toNat
 call := call
 pcall := pcall
 loop := loop
 round := round
 rangeF := rangeF
theorem wrap_rng {k : IntKind} {z : Int} (h : (decide (k.min ≤ z) && decide (z ≤ k.max)) = true) : k.wrap z = z := by
 simp only [Bool.and_eq_true, decide_eq_true_eq] at h
 obtain ⟨h1, h2⟩ := h
 cases k <;> simp only [IntKind.wrap, IntKind.min, IntKind.max, IntKind.bits, IntKind.signed] at * <;> simp at * <;> first | omega | (rw [Int.bmod_eq_of_le] <;> omega)
/-! ### Operands -/
theorem ofC1_rel {x : Value} {v : V} (h : ofC1 x = some v) : Rel ι μ v x := by
 unfold ofC1 at h
 split at h <;> first | cases h | skip
 ·exact .tf _
 ·exact .int _ _
 ·exact .str _
 ·exact .nsl _
 ·exact .nilp
 ·exact .nilfn
 ·exact .nili
theorem ofCs_rel : ∀ {xs : List Value} {vs : List V}, ofCs xs = some vs → RelL ι μ vs xs
 | [], vs, h => by cases h; exact .nil
 | x :: xs, vs, h => by
  unfold ofCs at h
  split at h
  ·rename_i a b ha hb; cases h; exact .cons (ofC1_rel ha) (ofCs_rel hb)
  ·cases h
theorem ofCs_one : ∀ {xs : List Value} {vs : List V}, ofCs xs = some vs → ∀ x ∈ xs, x.oneCell' = true
 | [], vs, h => by simp
 | x :: xs, vs, h => by
  unfold ofCs at h
  split at h
  ·rename_i a b ha hb; cases h
   intro y hy
   rcases List.mem_cons.1 hy with rfl | hy
   ·unfold ofC1 at ha
    split at ha <;> first | rfl | cases ha
   ·exact ofCs_one hb y hy
  ·cases h
theorem ofC_rel {x : Value} {v : V} (h : ofC x = some v) : Rel ι μ v x := by
 unfold ofC at h
 split at h
 ·rename_i cs
  split at h
  ·rename_i vs hv; cases h
   have := ofCs_rel (ι := ι) (μ := μ) hv
   exact .agg _ _ (by simpa using this.1) (fun i v x hv hx => this.2 i v x hv (by simpa using hx)) (ofCs_one hv)
  ·cases h
 ·exact ofC1_rel h
theorem trO_rel {env : List (Nat × V)} {a : Act} (he : EnvR ι μ env a.tmps) {x : Operand} {y : O} (h : trO x = some y) : Rel ι μ (y.ev env) (a.eval x) := by
 cases x with
 | tmp t => cases h; exact he t
 | const v =>
  simp only [trO] at h
  split at h
  ·rename_i u hu; cases h; exact ofC_rel hu
  ·cases h
 | func f => cases h; exact .fn _ _ _ #[] #[] rfl (fun i v x h => by simp at h) rfl (fun i v x h => by simp at h)
 | global g => cases h
theorem trOs_rel {env : List (Nat × V)} {a : Act} (he : EnvR ι μ env a.tmps) : ∀ {xs : List Operand} {ys : List O}, trOs xs = some ys → RelL ι μ (ys.map (·.ev env)) (xs.map a.eval)
 | [], ys, h => by cases h; exact .nil
 | x :: xs, ys, h => by
  unfold trOs at h
  split at h
  ·rename_i y ys' h1 h2; cases h; exact .cons (trO_rel he h1) (trOs_rel he h2)
  ·cases h
/-! ### Memory -/
theorem Mem.rangeAt {B : Nat → Prop} {id : Nat} {fz : Bool} {L : Loc} {vs : List Value} (h : Mem B ι μ id fz w L vs) : w.rangeAt L.b L.ba vs := fun j v hv => by
 obtain ⟨c, e, h1, _, h3⟩ := h.row
 simp [World.cell?, h1, h3 j v hv]
theorem rangeAt_sub {b o : Nat} {vs : List Value} (h : w.rangeAt b o vs) (d k : Nat) : w.rangeAt b (o + d) ((vs.drop d).take k) := fun j v hv => by
 rw [List.getElem?_take] at hv
 split at hv
 ·rw [List.getElem?_drop] at hv
  have := h (d + j) v hv
  rw [← Nat.add_assoc] at this; exact this
 ·cases hv
theorem Reads.rangeAt {b o : Nat} {vs : List Value} (hr : Reads ι b o vs) (hi : ∀ b o x, ι b o = some x → w.cell? ⟨b, o, none⟩ = some x) : w.rangeAt b o vs := fun j v hv => hi _ _ _ (hr j v hv)
theorem Reads.sub {b o : Nat} {vs : List Value} (h : Reads ι b o vs) (d k : Nat) : Reads ι b (o + d) ((vs.drop d).take k) := fun j v hv => by
 rw [List.getElem?_take] at hv
 split at hv
 ·rw [List.getElem?_drop] at hv
  have := h (d + j) v hv
  rw [← Nat.add_assoc] at this; exact this
 ·cases hv
theorem World.rangeAt_one {b o : Nat} {v : Value} (h : w.rangeAt b o [v]) : w.cell? ⟨b, o, none⟩ = some v := by simpa using h 0 v rfl
/-- The value of so many cells. -/
def wrapX : Bool → List Value → Option Value
 | true, xs => some (.agg xs.toArray)
 | false, [x] => some x
 | false, _ => none
theorem wrapC_rel {g : Bool} {cs : List V} {v : V} {xs : List Value} (h : wrapC g cs = some v) (hr : RelL ι μ cs xs) (h1 : ∀ u ∈ xs, u.oneCell' = true) : ∃ x, wrapX g xs = some x ∧ Rel ι μ v x := by
 cases g with
 | true =>
  cases h
  exact ⟨_, rfl, .agg _ _ (by simpa using hr.1) (fun i v x hv hx => hr.2 i v x hv (by simpa using hx)) (by simpa using h1)⟩
 | false =>
  match cs, h with
  | [c], h =>
   cases h
   obtain ⟨x, r, rfl, h1, h2⟩ := hr.uncons
   rw [h2.of_nil]
   exact ⟨x, rfl, h1⟩
theorem run_loadAt {t : TypeId} {k : Nat} {g : Bool} (hk : sizeT P t = some k) (hg : aggT P t = some g) {b o : Nat} {vs : List Value} (hr : w.rangeAt b o vs) (hl : vs.length = k)
  {x : Value} (hx : wrapX g vs = some x) : (Instr.loadAt t (.pointer (some ⟨b, o, none⟩))).run P w = .ok x w := by
 unfold aggT at hg
 unfold sizeT at hk
 cases g with
 | true =>
  cases hx
  split at hg
  ·rename_i hu; exact run_loadAt_mid w b o t vs _ hr hu rfl (by rw [hk, hl])
  ·rename_i hu; exact run_loadAt_mid w b o t vs _ hr hu rfl (by rw [hk, hl])
  ·cases hg
  ·cases hg
 | false =>
  match vs, hx with
  | [c], hx =>
   cases hx
   have hc := World.rangeAt_one hr
   split at hg
   ·cases hg
   ·cases hg
   ·rename_i d h1 h2 hu
    have hagg : (isAgg t).run P w = .ok false w := by
     unfold isAgg
     rw [Sem.run_bind, run_underlying hu w]
     cases d <;> simp_all
    simp [Instr.loadAt, Instr.sureAddr, loadVar, hagg, hc]
   ·cases hg
theorem run_storeAt {t : TypeId} {k : Nat} (hk : sizeT P t = some k) {b o : Nat} {v : Value} (ht : w.there b o k) (hl : v.cells.size = k) (h1 : ∀ u ∈ v.cells.toList, u.oneCell' = true) :
  (Instr.storeAt t (.pointer (some ⟨b, o, none⟩)) v).run P w = .ok () (w.setCells b o v.cells.toList) := by
 have := run_storeCells_cells (P := P) b o v.cells.toList 0 w (fun j hj => by simpa using (ht j (by simp at hj; omega)).1) (fun j hj => by simpa using (ht j (by simp at hj; omega)).2) h1
 unfold sizeT at hk
 cases hq : P.info? t with
 | none => simp [hq] at hk
 | some i =>
  have hs : v.cells.size = i.size := by simp [hq] at hk; omega
  simp only [Nat.add_zero] at this
  simp [Instr.storeAt, Instr.sureAddr, storeVar, sizeOf, typeInfo, hq, hs, this]
theorem Mem.there {B : Nat → Prop} {id : Nat} {fz : Bool} {L : Loc} {vs : List Value} (h : Mem B ι μ id fz w L vs) {o k : Nat} (hk : L.ba ≤ o) (hf : o + k ≤ L.tot) : w.there L.b o k := fun j hj => by
 obtain ⟨c, e, h1, h2, _⟩ := h.row
 simp only [World.cell?, World.frozen?, h1]
 refine ⟨?_, by simp⟩
 have : o + j < c.size := by omega
 simp [this]
/-- Cells of a block that is written turn. -/
theorem Mem.write {B : Nat → Prop} {id : Nat} {L : Loc} {vs : List Value} (h : Mem B ι μ id false w L vs) {d : Nat} {us : List Value} (hd : d + us.length ≤ vs.length) (h1 : ∀ u ∈ us, u.oneCell' = true) :
  Mem B ι μ id false (w.setCells L.b (L.ba + d) us) L (vs.take d ++ us ++ vs.drop (d + us.length)) := by
 obtain ⟨c, e, hc, hs, hr⟩ := h.row
 have hth : w.there L.b (L.ba + d) us.length := h.there (by omega) (by have := h.fits; omega)
 refine ⟨h.mu, h.old, ?_, ?_, ?_, (fun e => by cases e), h.fzF⟩
 ·have key : ∀ (us : List Value) (o : Nat) (w : World) (c : Array Value), w.heap[L.b]? = some (.cells c e (0, 0)) → o + us.length ≤ c.size →
    ∃ c', (w.setCells L.b o us).heap[L.b]? = some (.cells c' e (0, 0)) ∧ c'.size = c.size ∧ ∀ i, c'[i]? = if o ≤ i ∧ i < o + us.length then us[i - o]? else c[i]? := by
   intro us
   induction us with
   | nil => intro o w c hc _; exact ⟨c, hc, rfl, fun i => by rw [if_neg (by simp only [List.length_nil]; omega)]⟩
   | cons u us ih =>
    intro o w c hc ho
    have hc' : (w.setCell ⟨L.b, o, none⟩ u).heap[L.b]? = some (.cells (c.setIfInBounds o u) e (0, 0)) := by
     simp [World.setCell, Array.getElem?_modify, hc]
    obtain ⟨c', e1, e2, e3⟩ := ih (o + 1) _ _ hc' (by simp at ho ⊢; omega)
    refine ⟨c', e1, by simpa using e2, fun i => ?_⟩
    rw [e3]
    simp only [List.length_cons] at ho ⊢
    by_cases hi : i = o
    ·subst hi
     rw [if_neg (by omega), if_pos (by omega)]
     have : i < c.size := by omega
     simp [this]
    ·by_cases h2 : o + 1 ≤ i ∧ i < o + 1 + us.length
     ·rw [if_pos h2, if_pos (by omega)]
      obtain ⟨m, rfl⟩ : ∃ m, i = o + 1 + m := ⟨i - (o + 1), by omega⟩
      rw [show o + 1 + m - (o + 1) = m by omega, show o + 1 + m - o = m + 1 by omega]; rfl
     ·rw [if_neg h2, if_neg (by omega), Array.getElem?_setIfInBounds_ne (by omega)]
  have hf := h.fits
  obtain ⟨c', e1, e2, e3⟩ := key us (L.ba + d) w c hc (by omega)
  refine ⟨c', e, e1, by rw [e2]; exact hs, fun j v hv => ?_⟩
  rw [e3]
  by_cases hj : d ≤ j ∧ j < d + us.length
  ·rw [if_pos (by omega)]
   rw [List.append_assoc, List.getElem?_append_right (by simp; omega), List.getElem?_append_left (by simp; omega)] at hv
   rw [← hv]; congr 1; simp; omega
  ·rw [if_neg (by omega)]
   by_cases hj2 : j < d
   ·rw [List.append_assoc, List.getElem?_append_left (by simp; omega), List.getElem?_take, if_pos hj2] at hv
    exact hr j v hv
   ·rw [List.getElem?_append_right (by simp; omega), List.getElem?_drop] at hv
    refine hr j v ?_
    rw [← hv]; congr 1; simp; omega
 ·have := h.fits
  simp; omega
 ·intro v hv
  rcases List.mem_append.1 hv with hv | hv
  ·rcases List.mem_append.1 hv with hv | hv
   ·exact h.one v (List.mem_of_mem_take hv)
   ·exact h1 v hv
  ·exact h.one v (List.mem_of_mem_drop hv)
theorem heap_setCells_ne (b : Nat) : ∀ (vs : List Value) (o : Nat) (w : World) (k : Nat), k ≠ b → (w.setCells b o vs).heap[k]? = w.heap[k]?
 | [], _, _, _, _ => rfl
 | v :: r, o, w, k, h => by
  rw [World.setCells, heap_setCells_ne b r _ _ k h]
  simp [World.setCell, Array.getElem?_modify, Ne.symm h]
theorem size_setCells (b : Nat) : ∀ (vs : List Value) (o : Nat) (w : World), (w.setCells b o vs).heap.size = w.heap.size
 | [], _, _ => rfl
 | v :: r, o, w => by rw [World.setCells, size_setCells b r]; simp
theorem os_setCells (b : Nat) : ∀ (vs : List Value) (o : Nat) (w : World), (w.setCells b o vs).os = w.os ∧ (w.setCells b o vs).tape = w.tape ∧ (w.setCells b o vs).output = w.output
 | [], _, _ => ⟨rfl, rfl, rfl⟩
 | v :: r, o, w => by rw [World.setCells]; exact os_setCells b r (o + 1) (w.setCell ⟨b, o, none⟩ v)
/-- A store into a live block. -/
theorem Inv.store (h : Inv P Y ι μ H w) {id : Nat} {b0 b : Blk} (hb0 : bget id H.bl = some b0) {L : Loc} (hL : μ id = some L) (hfree : ∀ o, ι L.b o = none) {o : Nat} {us : List Value}
  (hb : BlkOk P Y.own ι μ id (w.setCells L.b o us) b) : Inv P Y ι μ ⟨H.next, (id, b) :: bdel id H.bl⟩ (w.setCells L.b o us) :=
 h.turn hb0 hL hfree (os_setCells _ _ _ _).1 (os_setCells _ _ _ _).2.1 (os_setCells _ _ _ _).2.2 (size_setCells _ _ _ _) (fun k hk => heap_setCells_ne _ _ _ _ _ hk) hb
theorem setCs_rel : ∀ {off : Nat} {vs cs cs' : List V} {us xs : List Value}, setCs off vs cs = some cs' → RelL ι μ cs xs → RelL ι μ vs us →
  off + us.length ≤ xs.length ∧ RelL ι μ cs' (xs.take off ++ us ++ xs.drop (off + us.length))
 | 0, vs, cs, cs', us, xs, h, hc, hv => by
  unfold setCs at h
  split at h
  ·rename_i hl; cases h
   refine ⟨by have := hc.1; have := hv.1; omega, ?_⟩
   have := hv.append (hc.drop vs.length)
   rw [hv.1] at this ⊢
   simpa using this
  ·cases h
 | off + 1, vs, [], cs', us, xs, h, hc, hv => by simp [setCs] at h
 | off + 1, vs, c :: cs, cs', us, xs, h, hc, hv => by
  unfold setCs at h
  obtain ⟨x, r, rfl, h1, h2⟩ := hc.uncons
  split at h
  ·rename_i r' hr'
   cases h
   obtain ⟨h3, h4⟩ := setCs_rel hr' h2 hv
   refine ⟨by simp; omega, ?_⟩
   have := RelL.cons h1 h4
   simpa [List.take_succ_cons, show off + 1 + us.length = (off + us.length) + 1 by omega] using this
  ·cases h
end
end Go.AM
end
section
namespace Go.AM
section
variable {P : Program} {Y : Ctx} {ι ι' : Iota} {μ μ' : Mu} {H : Heap} {w w' : World}
 {c1 : Nat → List V → Heap → (V → Heap → Prop) → Prop} {c2 : Nat → List V → V → Prop} {c3 : C → St → (Ex → St → Prop) → Prop}
 {c4 : Nat → List V → Heap → (V → Heap → Prop) → Prop} {c5 : O → List Nat → C → C → St → (Ex → St → Prop) → Prop}
def IsFz (bl : Blks) (u : Upd) : Prop := ∀ e ∈ u, ∃ (id : Nat) (t : Ty) (xs : List t.den) (fz : Bool), e = (id, some (.arr t xs true)) ∧ bget id bl = some (.arr t xs fz)
def Fzn (ι : Iota) (μ : Mu) (u : Upd) : Prop := ∀ (id : Nat) (t : Ty) (xs : List t.den), (id, some (.arr t xs true)) ∈ u → Frozen ι μ id t xs
theorem IsFz.nil {bl : Blks} : IsFz bl [] := fun e h => by cases h
theorem IsFz.append {bl : Blks} {u v : Upd} (h : IsFz bl u) (h' : IsFz bl v) : IsFz bl (u ++ v) := fun e he => (List.mem_append.1 he).elim (h e) (h' e)
theorem Fzn.left {u v : Upd} (h : Fzn ι μ (u ++ v)) : Fzn ι μ u := fun id t xs hm => h id t xs (List.mem_append_left _ hm)
theorem Fzn.right {u v : Upd} (h : Fzn ι μ (u ++ v)) : Fzn ι μ v := fun id t xs hm => h id t xs (List.mem_append_right _ hm)
theorem Frozen.mono (hi : ι.le ι') {id : Nat} {t : Ty} {xs : List t.den} (h : Frozen ι μ id t xs) : Frozen ι' μ id t xs :=
 h.imp (fun h => h) fun ⟨L, vs, h1, h2, h3, h4⟩ => ⟨L, vs, h1, h2.mono hi, CatR.mono (fun _ _ => CellsD.mono hi) h3, h4⟩
theorem freezeAll : ∀ {u : Upd} {ι : Iota} {bl : Blks} {n : Nat}, IsFz bl u → Inv P Y ι μ ⟨n, bl⟩ w →
  ∃ ι', ι.le ι' ∧ Inv P Y ι' μ ⟨n, bupd u bl⟩ w ∧ Fzn ι' μ u
 | [], ι, bl, n, _, hI => ⟨ι, Iota.le_refl _, hI, fun id t xs h => by cases h⟩
 | e :: r, ι, bl, n, hz, hI => by
  obtain ⟨id, t, xs, fz, rfl, hb⟩ := hz e (List.mem_cons_self)
  obtain ⟨ι1, hle, hI1, hF⟩ := hI.freeze hb
  have hz' : IsFz ((id, .arr t xs true) :: bdel id bl) r := fun e he => by
   obtain ⟨id2, t2, xs2, fz2, rfl, hb2⟩ := hz e (List.mem_cons_of_mem _ he)
   by_cases hid : id2 = id
   ·subst hid
    rw [hb] at hb2; cases hb2
    exact ⟨id2, t, xs, true, rfl, by rw [bget_set, if_pos rfl]⟩
   ·exact ⟨id2, t2, xs2, fz2, rfl, by rw [bget_set, if_neg hid]; exact hb2⟩
  obtain ⟨ι2, hle2, hI2, hF2⟩ := freezeAll hz' hI1
  refine ⟨ι2, Iota.le_trans hle hle2, hI2, fun id2 t2 xs2 hm => ?_⟩
  rcases List.mem_cons.1 hm with hm | hm
  ·cases hm; exact hF.mono hle2
  ·exact hF2 id2 t2 xs2 hm
/-- A slice over a block of data reads as its part. -/
theorem Frozen.slice {id : Nat} {t : Ty} {xs : List t.den} (h : Frozen ι' μ id t xs) {lo n : Nat} {x : Value} (hr : Rel ι μ (.sl id t lo n) x) : CellsD ι' (.list t) ((xs.drop lo).take n) [x] := by
 cases hr with
 | sl0 _ _ _ a => exact ⟨a, 0, by simp, by simp, .inl (by simp)⟩
 | sl _ _ _ _ cap L hm h1 h2 h3 =>
  rcases h with ⟨_, hn⟩ | ⟨L', vs, h4, h5, h6, h7⟩
  ·rw [hn] at hm; cases hm
  ·rw [h4] at hm; cases hm
   have hl : ((xs.drop lo).take n).length = n := by simp; omega
   refine ⟨some ⟨L.b, L.ba + lo * t.sz, none⟩, cap, by rw [hl], by rw [hl]; exact h1, .inr ⟨_, _, (vs.drop (lo * t.sz)).take (n * t.sz), rfl, h5.sub _ _, ?_⟩⟩
   exact (h6.drop (fun _ _ => CellsD.length) lo).take (fun _ _ => CellsD.length) n
theorem ofVs_isFz : ∀ {t : Ty} {bl : Blks} {cs : List V} {x : t.den} {u : Upd} {r : List V}, ofVs (mkAr c1 c2 c3 c4 c5) bl t cs = some (x, u, r) → IsFz bl u
 | .unit, bl, cs, x, u, r, h => by simp [ofVs] at h; obtain ⟨rfl, rfl⟩ := h; exact .nil
 | .bool, bl, cs, x, u, r, h => by
  cases cs with
  | nil => simp [ofVs] at h
  | cons v r' => cases v <;> simp [ofVs] at h <;> (obtain ⟨rfl, rfl, rfl⟩ := h; exact .nil)
 | .str, bl, cs, x, u, r, h => by
  cases cs with
  | nil => simp [ofVs] at h
  | cons v r' => cases v <;> simp [ofVs] at h <;> (obtain ⟨rfl, rfl, rfl⟩ := h; exact .nil)
 | .int k, bl, cs, x, u, r, h => by
  cases cs with
  | nil => simp [ofVs] at h
  | cons v r' => cases v <;> simp [ofVs] at h <;> (obtain ⟨rfl, rfl, rfl, rfl⟩ := h; exact .nil)
 | .list t, bl, cs, x, u, r, h => by
  cases cs with
  | nil => simp [ofVs] at h
  | cons v r' =>
   cases v <;> simp only [ofVs] at h <;> try (simp at h; done)
   case lst t' zs => split at h <;> cases h; exact .nil
   case nsl => cases h; exact .nil
   case sl id t' lo n =>
    split at h
    ·rename_i t'' zs fz hb
     split at h
     ·split at h
      ·cases h
       intro e he; simp at he; subst he
       exact ⟨id, _, zs, fz, rfl, hb⟩
      ·cases h
     ·cases h
    ·cases h
 | .prod a b, bl, cs, x, u, r, h => by
  simp only [ofVs] at h
  split at h
  ·rename_i x1 u1 r1 h1
   split at h
   ·rename_i x2 u2 r2 h2
    cases h
    exact (ofVs_isFz h1).append (ofVs_isFz h2)
   ·cases h
  ·cases h
theorem ofVs_rel : ∀ {ι : Iota} {t : Ty} {bl : Blks} {cs : List V} {x : t.den} {u : Upd} {r : List V} {xs : List Value}, ofVs (mkAr c1 c2 c3 c4 c5) bl t cs = some (x, u, r) → RelL ι μ cs xs →
  IsFz bl u ∧ ∀ ι', ι.le ι' → Fzn ι' μ u → ∃ us ws, xs = us ++ ws ∧ CellsD ι' t x us ∧ RelL ι' μ r ws
 | ι, .unit, bl, cs, x, u, r, xs, h, hr => by
  simp [ofVs] at h; obtain ⟨rfl, rfl⟩ := h
  exact ⟨.nil, fun ι' hi _ => ⟨[], xs, rfl, rfl, hr.mono hi (Mu.le_refl _)⟩⟩
 | ι, .bool, bl, cs, x, u, r, xs, h, hr => by
  cases cs with
  | nil => simp [ofVs] at h
  | cons v r' =>
   cases v <;> simp [ofVs] at h
   all_goals
    obtain ⟨rfl, rfl, rfl⟩ := h
    obtain ⟨y, ys, rfl, h1, h2⟩ := hr.uncons
    cases h1
    exact ⟨.nil, fun ι' hi _ => ⟨[_], ys, rfl, rfl, h2.mono hi (Mu.le_refl _)⟩⟩
 | ι, .str, bl, cs, x, u, r, xs, h, hr => by
  cases cs with
  | nil => simp [ofVs] at h
  | cons v r' =>
   cases v <;> simp [ofVs] at h
   all_goals
    obtain ⟨rfl, rfl, rfl⟩ := h
    obtain ⟨y, ys, rfl, h1, h2⟩ := hr.uncons
    cases h1
    exact ⟨.nil, fun ι' hi _ => ⟨[_], ys, rfl, rfl, h2.mono hi (Mu.le_refl _)⟩⟩
 | ι, .int k, bl, cs, x, u, r, xs, h, hr => by
  cases cs with
  | nil => simp [ofVs] at h
  | cons v r' =>
   cases v <;> simp [ofVs] at h
   all_goals
    obtain ⟨rfl, rfl, rfl, rfl⟩ := h
    obtain ⟨y, ys, rfl, h1, h2⟩ := hr.uncons
    cases h1
    exact ⟨.nil, fun ι' hi _ => ⟨[_], ys, rfl, rfl, h2.mono hi (Mu.le_refl _)⟩⟩
 | ι, .list t, bl, cs, x, u, r, xs, h, hr => by
  cases cs with
  | nil => simp [ofVs] at h
  | cons v r' =>
   obtain ⟨y, ys, rfl, h1, h2⟩ := hr.uncons
   cases v <;> simp only [ofVs] at h <;> try (simp at h; done)
   case lst t' zs =>
    split at h
    ·rename_i zs' hc; cases h
     obtain ⟨e, hz⟩ := castL_some hc
     subst e; subst hz
     cases h1 with
     | lst _ _ _ hd => exact ⟨.nil, fun ι' hi _ => ⟨[y], ys, rfl, CellsD.mono hi hd, h2.mono hi (Mu.le_refl _)⟩⟩
    ·cases h
   case nsl =>
    cases h
    cases h1 with
    | nsl a => exact ⟨.nil, fun ι' hi _ => ⟨[_], ys, rfl, ⟨a, 0, rfl, Nat.le_refl _, .inl rfl⟩, h2.mono hi (Mu.le_refl _)⟩⟩
   case sl id t' lo n =>
    split at h
    ·rename_i t'' zs fz hb
     split at h
     ·rename_i e; subst e
      split at h
      ·rename_i zs' hc; cases h
       obtain ⟨e, hz⟩ := castL_some hc
       subst e; subst hz
       refine ⟨fun e he => ?_, fun ι' hi hf => ⟨[y], ys, rfl, (hf id _ zs' (by simp)).slice h1, h2.mono hi (Mu.le_refl _)⟩⟩
       simp at he; subst he
       exact ⟨id, _, zs', fz, rfl, hb⟩
      ·cases h
     ·cases h
    ·cases h
 | ι, .prod a b, bl, cs, x, u, r, xs, h, hr => by
  simp only [ofVs] at h
  split at h
  ·rename_i x1 u1 r1 h1
   split at h
   ·rename_i x2 u2 r2 h2
    cases h
    obtain ⟨z1, f1⟩ := ofVs_rel h1 hr
    have z2 : IsFz bl u2 := ofVs_isFz h2
    refine ⟨z1.append z2, fun ι' hi hf => ?_⟩
    obtain ⟨us, ws, rfl, hd, hr1⟩ := f1 ι' hi hf.left
    obtain ⟨us2, ws2, rfl, hd2, hr2⟩ := (ofVs_rel h2 hr1).2 ι' (Iota.le_refl _) hf.right
    exact ⟨us ++ us2, ws2, by simp, ⟨us, us2, rfl, hd, hd2⟩, hr2⟩
   ·cases h
  ·cases h
/-- So many cells are taken as the type has. -/
theorem ofVs_sz : ∀ {t : Ty} {bl : Blks} {cs : List V} {x : t.den} {u : Upd} {r : List V}, ofVs (mkAr c1 c2 c3 c4 c5) bl t cs = some (x, u, r) → cs.length = t.sz + r.length
 | .unit, bl, cs, x, u, r, h => by simp [ofVs] at h; obtain ⟨_, rfl⟩ := h; simp [Ty.sz]
 | .bool, bl, cs, x, u, r, h => by
  cases cs with
  | nil => simp [ofVs] at h
  | cons v r' => cases v <;> simp [ofVs] at h <;> (obtain ⟨_, _, rfl⟩ := h; simp [Ty.sz]; omega)
 | .str, bl, cs, x, u, r, h => by
  cases cs with
  | nil => simp [ofVs] at h
  | cons v r' => cases v <;> simp [ofVs] at h <;> (obtain ⟨_, _, rfl⟩ := h; simp [Ty.sz]; omega)
 | .int k, bl, cs, x, u, r, h => by
  cases cs with
  | nil => simp [ofVs] at h
  | cons v r' => cases v <;> simp [ofVs] at h <;> (obtain ⟨_, _, _, rfl⟩ := h; simp [Ty.sz]; omega)
 | .list t, bl, cs, x, u, r, h => by
  cases cs with
  | nil => simp [ofVs] at h
  | cons v r' =>
   cases v <;> simp only [ofVs] at h <;> try (simp at h; done)
   case lst t' zs => split at h <;> cases h; simp [Ty.sz]; omega
   case nsl => cases h; simp [Ty.sz]; omega
   case sl id t' lo n =>
    split at h
    ·split at h
     ·split at h
      ·cases h; simp [Ty.sz]; omega
      ·cases h
     ·cases h
    ·cases h
 | .prod a b, bl, cs, x, u, r, h => by
  simp only [ofVs] at h
  split at h
  ·rename_i x1 u1 r1 h1
   split at h
   ·rename_i x2 u2 r2 h2
    cases h
    have := ofVs_sz h1; have := ofVs_sz h2; simp only [Ty.sz]; omega
   ·cases h
  ·cases h
theorem ofVs_len {t : Ty} {bl : Blks} {cs : List V} {y : t.den} {u : Upd} {x : Value} (h : ofVs (mkAr c1 c2 c3 c4 c5) bl t cs = some (y, u, [])) (hr : RelL ι μ cs x.cells.toList) : x.cells.size = t.sz := by
 have := ofVs_sz h; have := hr.1; simp at *; omega
theorem getP_rel : ∀ {t : Ty} {x : t.den} {p : List Bool} {t' : Ty} {y : t'.den} {xs : List Value}, getP t x p = some ⟨t', y⟩ → CellsD ι t x xs →
  CellsD ι t' y ((xs.drop (t.offP p)).take t'.sz) ∧ t.offP p + t'.sz ≤ t.sz ∧ t.atP p = some t'
 | t, x, [], t', y, xs, h, hc => by
  have : t = t' ∧ HEq x y := by cases t <;> (simp [getP] at h; exact ⟨h.1, h.2⟩)
  obtain ⟨rfl, hy⟩ := this
  cases hy
  have h0 : t.offP [] = 0 := by cases t <;> rfl
  rw [h0]
  refine ⟨by simp [List.take_of_length_le (Nat.le_of_eq hc.length)]; exact hc, by omega, by cases t <;> rfl⟩
 | .prod a b, x, false :: p, t', y, xs, h, hc => by
  simp only [getP] at h
  obtain ⟨us, ws, rfl, h1, h2⟩ := hc
  obtain ⟨h3, h4, h5⟩ := getP_rel h h1
  refine ⟨?_, by simp only [Ty.offP, Ty.sz]; omega, by simpa [Ty.atP] using h5⟩
  have hl := h1.length
  rw [Ty.offP, List.drop_append_of_le_length (by omega), List.take_append_of_le_length (by simp; omega)]
  exact h3
 | .prod a b, x, true :: p, t', y, xs, h, hc => by
  simp only [getP] at h
  obtain ⟨us, ws, rfl, h1, h2⟩ := hc
  obtain ⟨h3, h4, h5⟩ := getP_rel h h2
  refine ⟨?_, by simp only [Ty.offP, Ty.sz]; omega, by simpa [Ty.atP] using h5⟩
  have hl := h1.length
  rw [Ty.offP, ← hl, List.drop_append, List.drop_eq_nil_of_le (by omega)]
  simpa using h3
 | .unit, x, b :: p, t', y, xs, h, hc => by cases b <;> simp [getP] at h
 | .bool, x, b :: p, t', y, xs, h, hc => by cases b <;> simp [getP] at h
 | .str, x, b :: p, t', y, xs, h, hc => by cases b <;> simp [getP] at h
 | .int k, x, b :: p, t', y, xs, h, hc => by cases b <;> simp [getP] at h
 | .list k, x, b :: p, t', y, xs, h, hc => by cases b <;> simp [getP] at h
theorem setP_isFz : ∀ {t : Ty} {bl : Blks} {x y : t.den} {p : List Bool} {vs : List V} {u : Upd}, setP (mkAr c1 c2 c3 c4 c5) bl t x p vs = some (y, u) → IsFz bl u
 | t, bl, x, y, [], vs, u, h => by
  have : ofVs (mkAr c1 c2 c3 c4 c5) bl t vs = some (y, u, []) := by
   cases t <;> (simp only [setP] at h; split at h <;> first | (cases h; assumption) | cases h)
  exact ofVs_isFz this
 | .prod a b, bl, x, y, false :: p, vs, u, h => by
  simp only [setP] at h
  split at h
  ·rename_i h'; cases h; exact setP_isFz h'
  ·cases h
 | .prod a b, bl, x, y, true :: p, vs, u, h => by
  simp only [setP] at h
  split at h
  ·rename_i h'; cases h; exact setP_isFz h'
  ·cases h
 | .unit, bl, x, y, b :: p, vs, u, h => by cases b <;> simp [setP] at h
 | .bool, bl, x, y, b :: p, vs, u, h => by cases b <;> simp [setP] at h
 | .str, bl, x, y, b :: p, vs, u, h => by cases b <;> simp [setP] at h
 | .int k, bl, x, y, b :: p, vs, u, h => by cases b <;> simp [setP] at h
 | .list k, bl, x, y, b :: p, vs, u, h => by cases b <;> simp [setP] at h
theorem setP_rel : ∀ {t : Ty} {bl : Blks} {x y : t.den} {p : List Bool} {vs : List V} {u : Upd} {us xs : List Value}, setP (mkAr c1 c2 c3 c4 c5) bl t x p vs = some (y, u) →
  RelL ι μ vs us → ι.le ι' → Fzn ι' μ u → CellsD ι' t x xs → t.offP p + us.length ≤ t.sz ∧ CellsD ι' t y (xs.take (t.offP p) ++ us ++ xs.drop (t.offP p + us.length))
 | t, bl, x, y, [], vs, u, us, xs, h, hr, hi, hf, hc => by
  have : ofVs (mkAr c1 c2 c3 c4 c5) bl t vs = some (y, u, []) := by
   cases t <;> (simp only [setP] at h; split at h <;> first | (cases h; assumption) | cases h)
  obtain ⟨us', ws, rfl, h1, h2⟩ := (ofVs_rel this hr).2 ι' hi hf
  rw [h2.of_nil]
  have h0 : t.offP [] = 0 := by cases t <;> rfl
  have hl := h1.length
  rw [h0]
  refine ⟨by simp; omega, ?_⟩
  rw [List.drop_eq_nil_of_le (by simp; have := hc.length; omega)]
  simpa using h1
 | .prod a b, bl, x, y, false :: p, vs, u, us, xs, h, hr, hi, hf, hc => by
  simp only [setP] at h
  split at h
  ·rename_i y1 u1 h'
   cases h
   obtain ⟨as, bs, rfl, h1, h2⟩ := hc
   obtain ⟨h3, h4⟩ := setP_rel h' hr hi hf h1
   have hl := h1.length
   refine ⟨by simp only [Ty.offP, Ty.sz]; omega, _, bs, ?_, h4, h2⟩
   rw [Ty.offP, List.take_append_of_le_length (by omega), List.drop_append_of_le_length (by omega)]
   simp
  ·cases h
 | .prod a b, bl, x, y, true :: p, vs, u, us, xs, h, hr, hi, hf, hc => by
  simp only [setP] at h
  split at h
  ·rename_i y1 u1 h'
   cases h
   obtain ⟨as, bs, rfl, h1, h2⟩ := hc
   obtain ⟨h3, h4⟩ := setP_rel h' hr hi hf h2
   have hl := h1.length
   refine ⟨by simp only [Ty.offP, Ty.sz]; omega, as, _, ?_, h1, h4⟩
   rw [Ty.offP, ← hl, List.take_append, List.take_of_length_le (by omega), List.drop_append, List.drop_eq_nil_of_le (by omega)]
   simp [show as.length + b.offP p + us.length - as.length = b.offP p + us.length by omega]
  ·cases h
 | .unit, bl, x, y, b :: p, vs, u, us, xs, h, hr, hi, hf, hc => by cases b <;> simp [setP] at h
 | .bool, bl, x, y, b :: p, vs, u, us, xs, h, hr, hi, hf, hc => by cases b <;> simp [setP] at h
 | .str, bl, x, y, b :: p, vs, u, us, xs, h, hr, hi, hf, hc => by cases b <;> simp [setP] at h
 | .int k, bl, x, y, b :: p, vs, u, us, xs, h, hr, hi, hf, hc => by cases b <;> simp [setP] at h
 | .list k, bl, x, y, b :: p, vs, u, us, xs, h, hr, hi, hf, hc => by cases b <;> simp [setP] at h
theorem ofVl_rel {t : Ty} {bl : Blks} : ∀ {vs : List V} {ys : List t.den} {u : Upd} {xs : List Value}, ofVl (mkAr c1 c2 c3 c4 c5) bl t vs = some (ys, u) → RelL ι μ vs xs →
  IsFz bl u ∧ ys.length = vs.length ∧ (∀ x ∈ xs, x.cells.size = t.sz) ∧ ∀ ι', ι.le ι' → Fzn ι' μ u → CatR (CellsD ι' t) ys (xs.flatMap fun x => x.cells.toList)
 | [], ys, u, xs, h, hr => by
  cases h
  rw [hr.of_nil]
  exact ⟨.nil, rfl, by simp, fun ι' _ _ => rfl⟩
 | v :: r, ys, u, xs, h, hr => by
  unfold ofVl at h
  obtain ⟨x, xs', rfl, h1, h2⟩ := hr.uncons
  split at h
  ·rename_i vs hvs
   obtain ⟨hc, _⟩ := h1.cells hvs
   split at h
   ·rename_i y u1 hy
    split at h
    ·rename_i ys' u2 hys
     cases h
     obtain ⟨a1, a2, a3, a4⟩ := ofVl_rel hys h2
     have z1 := ofVs_isFz hy
     refine ⟨z1.append a1, by simp [a2], ?_, fun ι' hi hf => ?_⟩
     ·intro x' hx'
      rcases List.mem_cons.1 hx' with rfl | hx'
      ·exact ofVs_len hy hc
      ·exact a3 x' hx'
     ·obtain ⟨us, ws, e, hd, hn⟩ := (ofVs_rel hy hc).2 ι' hi hf.left
      have := hn.of_nil; subst this
      exact ⟨us, _, by simp [e], hd, a4 ι' hi hf.right⟩
    ·cases h
   ·cases h
  ·cases h
end
end Go.AM
end
section
namespace Go.AM
section
variable {P : Program} {Y : Ctx} {ι ι' : Iota} {μ μ' : Mu} {H : Heap} {w w' : World}
 {c1 : Nat → List V → Heap → (V → Heap → Prop) → Prop} {c2 : Nat → List V → V → Prop} {c3 : C → St → (Ex → St → Prop) → Prop}
 {c4 : Nat → List V → Heap → (V → Heap → Prop) → Prop} {c5 : O → List Nat → C → C → St → (Ex → St → Prop) → Prop}
def AllT (ob : List Bool) : Prop := ∀ b ∈ ob, b = true
def nextOf (l : Bool) (n nid : Nat) : Nat := match l with
 | true => max n (nid + 1)
 | false => n
def OpOk (P : Program) (Y : Ctx) (ι : Iota) (μ : Mu) (H : Heap) (w : World) (nid : Nat) (s : Sem Next) (v : V) (u : Upd) (l : Bool) : Prop :=
 ∃ ι' μ' x w', (s.run P w = .ok (.value x) w' ∨ (s.run P w = .ok .skip w' ∧ x = undef)) ∧ ι.le ι' ∧ μ.le μ' ∧ (∀ id, id ≠ nid → μ' id = μ id) ∧
  Inv P Y ι' μ' ⟨nextOf l H.next nid, bupd u H.bl⟩ w' ∧ Rel ι' μ' v x
theorem OpOk.pure (h : Inv P Y ι μ H w) {nid : Nat} {s : Sem Next} {v : V} {x : Value} (hs : s.run P w = .ok (.value x) w) (hr : Rel ι μ v x) : OpOk P Y ι μ H w nid s v [] false :=
 ⟨ι, μ, x, w, .inl hs, Iota.le_refl _, Mu.le_refl _, fun _ _ => rfl, h, hr⟩
theorem Mu.set_ne {μ : Mu} {n : Nat} {L : Loc} : ∀ id, id ≠ n → μ.set n L id = μ id := fun id h => by unfold Mu.set; rw [if_neg h]
theorem load_sound (h : Inv P Y ι μ H w) {env : List (Nat × V)} {t : TypeId} {g : Bool} {k : Nat} {x : O} {px : Value} {ob : List Bool} {v : V} {u : Upd} {nid : Nat} (hk : sizeT P t = some k) (hg : aggT P t = some g)
  (hx : Rel ι μ (x.ev env) px) (hev : evI (mkAr c1 c2 c3 c4 c5) (.load g k x) env H.bl nid = some (ob, v, u)) (hob : AllT ob) :
  u = [] ∧ ∃ y, (Instr.loadAt t px).run P w = .ok y w ∧ Rel ι μ v y := by
 have fin : ∀ {b o : Nat} {cs : List V} {vs : List Value}, w.rangeAt b o vs → vs.length = k → RelL ι μ cs vs → (∀ u ∈ vs, u.oneCell' = true) → wrapC g cs = some v →
   ∃ y, (Instr.loadAt t (.pointer (some ⟨b, o, none⟩))).run P w = .ok y w ∧ Rel ι μ v y := fun hr hl hR h1 hw => by
  obtain ⟨y, hy, hv⟩ := wrapC_rel hw hR h1
  exact ⟨y, run_loadAt hk hg hr hl hy, hv⟩
 simp only [evI] at hev
 split at hev <;> try (cases hev; done)
 ·rename_i id off hxe
  rw [hxe] at hx
  split at hev <;> try (cases hev; done)
  rename_i cs fz hb
  split at hev <;> try (cases hev; done)
  rename_i vs' hcut
  split at hev <;> try (cases hev; done)
  rename_i v' hwr
  cases hev
  obtain ⟨L, vs, hM, hR⟩ := h.live _ _ hb
  cases hx with
  | ptr _ _ L' hL =>
   rw [hM.mu] at hL; cases hL
   obtain ⟨r1, r2, r3⟩ := hR.map_cut hcut
   exact ⟨rfl, fin (rangeAt_sub hM.rangeAt off k) (by rw [← r1.1]; exact r2) r1 (fun u hu => hM.one u (List.mem_of_mem_drop (List.mem_of_mem_take hu))) hwr⟩
 ·rename_i cs hxe
  rw [hxe] at hx
  split at hev <;> try (cases hev; done)
  rename_i vs' hcut
  split at hev <;> try (cases hev; done)
  rename_i v' hwr
  cases hev
  cases hx with
  | ipc _ b o gf h1 h2 h3 =>
   have hR : RelL ι μ cs ((List.range cs.length).map gf) := ⟨by simp, fun i v x hv hx => by
    have hi := (List.getElem?_eq_some_iff.1 hv).1
    simp [hi] at hx; subst hx; exact h2 i v hv⟩
   have hrg : w.rangeAt b o ((List.range cs.length).map gf) := fun j v hv => by
    have hj : j < cs.length := by have := (List.getElem?_eq_some_iff.1 hv).1; simpa using this
    simp [hj] at hv; subst hv; exact h.rd _ _ _ (h1 j hj)
   obtain ⟨r1, r2, r3⟩ := hR.map_cut hcut
   have := rangeAt_sub hrg 0 k
   exact ⟨rfl, fin this (by rw [← r1.1]; exact r2) r1 (fun u hu => by
    have hu := List.mem_of_mem_drop (List.mem_of_mem_take hu)
    obtain ⟨i, _, rfl⟩ := List.mem_map.1 hu; exact h3 i) hwr⟩
 ·rename_i id te i p hxe
  rw [hxe] at hx
  split at hev <;> try (cases hev; done)
  rename_i t' xs fz hb
  split at hev <;> try (cases hev; done)
  rename_i e; subst e
  split at hev <;> try (cases hev; done)
  rename_i t2 y hget
  split at hev <;> try (cases hev; done)
  rename_i hlen
  split at hev <;> try (cases hev; done)
  rename_i v' hwr
  cases hev
  have hi : i < xs.length := by simpa using hob _ (List.mem_singleton.2 rfl)
  rcases h.live _ _ hb with ⟨rfl, _⟩ | ⟨L, vs, hM, hR, hl⟩
  ·simp at hi
  ·cases hx with
   | ep _ _ _ _ L' hL =>
    rw [hM.mu] at hL; cases hL
    have hxi : xs[i]? = some (xs.getD i te.zero) := by simp [List.getD, hi]
    have hc := hR.at (fun _ _ => CellsD.length) hxi
    obtain ⟨g1, g2, _⟩ := getP_rel hget hc
    have hr1 := rangeAt_sub hM.rangeAt (i * te.sz) te.sz
    have hr2 := rangeAt_sub hr1 (te.offP p) t2.sz
    have hR2 := toVs_rel (μ := μ) g1
    exact ⟨rfl, fin hr2 (by rw [← hR2.1]; exact hlen) hR2 (CellsD.one g1) hwr⟩
 ·rename_i ti y hxe
  rw [hxe] at hx
  split at hev <;> try (cases hev; done)
  rename_i hlen
  split at hev <;> try (cases hev; done)
  rename_i v' hwr
  cases hev
  cases hx with
  | ip _ _ b o us h1 h2 =>
   have hR2 := toVs_rel (μ := μ) h2
   exact ⟨rfl, fin (h1.rangeAt h.rd) (by rw [← hR2.1]; exact hlen) hR2 (CellsD.one h2) hwr⟩
theorem bupd_append : ∀ (u v : Upd) (bl : Blks), bupd (u ++ v) bl = bupd v (bupd u bl)
 | [], v, bl => rfl
 | (id, none) :: r, v, bl => bupd_append r v _
 | (id, some b) :: r, v, bl => bupd_append r v _
theorem IsFz.bget : ∀ {u : Upd} {bl : Blks} {id : Nat} {t : Ty} {xs : List t.den} {fz : Bool}, IsFz bl u → bget id bl = some (.arr t xs fz) → ∃ fz', bget id (bupd u bl) = some (.arr t xs fz')
 | [], bl, id, t, xs, fz, _, h => ⟨fz, h⟩
 | e :: r, bl, id, t, xs, fz, hz, h => by
  obtain ⟨id1, t1, xs1, fz1, rfl, hb⟩ := hz e List.mem_cons_self
  have hz' : IsFz ((id1, .arr t1 xs1 true) :: bdel id1 bl) r := fun e he => by
   obtain ⟨id2, t2, xs2, fz2, rfl, hb2⟩ := hz e (List.mem_cons_of_mem _ he)
   by_cases hid : id2 = id1
   ·subst hid
    rw [hb] at hb2; cases hb2
    exact ⟨id2, t1, xs1, true, rfl, by rw [bget_set, if_pos rfl]⟩
   ·exact ⟨id2, t2, xs2, fz2, rfl, by rw [bget_set, if_neg hid]; exact hb2⟩
  by_cases hid : id = id1
  ·subst hid
   rw [hb] at h; cases h
   simp only [bupd]
   exact IsFz.bget (fz := true) hz' (by rw [bget_set, if_pos rfl])
  ·simp only [bupd]
   exact IsFz.bget hz' (by rw [bget_set, if_neg hid]; exact h)
/-- A block that the freezing leaves alone. -/
theorem IsFz.bget_other : ∀ {u : Upd} {bl : Blks} {id : Nat}, IsFz bl u → (∀ e ∈ u, e.1 ≠ id) → AM.bget id (bupd u bl) = AM.bget id bl
 | [], bl, id, _, _ => rfl
 | e :: r, bl, id, hz, h => by
  obtain ⟨id1, t1, xs1, fz1, rfl, hb⟩ := hz e List.mem_cons_self
  have hz' : IsFz ((id1, .arr t1 xs1 true) :: bdel id1 bl) r := fun e he => by
   obtain ⟨id2, t2, xs2, fz2, rfl, hb2⟩ := hz e (List.mem_cons_of_mem _ he)
   by_cases hid : id2 = id1
   ·subst hid
    rw [hb] at hb2; cases hb2
    exact ⟨id2, t1, xs1, true, rfl, by rw [bget_set, if_pos rfl]⟩
   ·exact ⟨id2, t2, xs2, fz2, rfl, by rw [bget_set, if_neg hid]; exact hb2⟩
  have := IsFz.bget_other hz' (fun e he => h e (List.mem_cons_of_mem _ he))
  simp only [bupd]
  rw [this, bget_set, if_neg (fun e => h _ List.mem_cons_self e.symm)]
/-- New cells. -/
theorem lay_cells (h : Inv P Y ι μ H w) {nid : Nat} (hn : μ nid = none) {cs : List V} {xs : List Value} (hr : RelL ι μ cs xs) (h1 : ∀ u ∈ xs, u.oneCell' = true) (e : TypeId) :
  ∃ μ', μ.le μ' ∧ (∀ id, id ≠ nid → μ' id = μ id) ∧ Inv P Y ι μ' ⟨max H.next (nid + 1), (nid, .cells cs false) :: bdel nid H.bl⟩ (w.alloc (.cells xs.toArray e)) ∧ Rel ι μ' (.ptr nid 0) (.pointer (some ⟨w.heap.size, 0, none⟩)) := by
 let L : Loc := ⟨w.heap.size, 0, xs.length, 0⟩
 have hle := Mu.le_set (L := L) hn
 have hmu : μ.set nid L nid = some L := by simp [Mu.set]
 have hfree : ∀ o, ι w.heap.size o = none := fun o => by
  cases hio : ι w.heap.size o with
  | none => rfl
  | some y => have := World.block_lt_of_cell? _ _ (h.rd _ _ _ hio); simp at this
 refine ⟨_, hle, Mu.set_ne, h.lay hn (L := L) rfl ⟨L, xs, ⟨hmu, (.inl h.below.size), ⟨xs.toArray, e, ?_, by simp [L], fun j v hv => by simpa [L] using hv⟩, by simp [L], h1, (fun e => by cases e), fun _ => hfree⟩, hr.mono (Iota.le_refl _) hle⟩, .ptr _ _ L hmu⟩
 show (w.heap.push _)[w.heap.size]? = _
 simp
/-- A new list of data, with room behind it. -/
theorem lay_arr (h : Inv P Y ι μ H w) {nid : Nat} (hn : μ nid = none) {t : Ty} {ys : List t.den} {xs rest : List Value} (hr : CatR (CellsD ι t) ys xs) (e : TypeId) (cap : Nat) (hc : ys.length ≤ cap) (hcap : cap * t.sz ≤ xs.length + rest.length) :
  ∃ μ', μ.le μ' ∧ (∀ id, id ≠ nid → μ' id = μ id) ∧ Inv P Y ι μ' ⟨max H.next (nid + 1), (nid, .arr t ys false) :: bdel nid H.bl⟩ (w.alloc (.cells (xs ++ rest).toArray e)) ∧
   Rel ι μ' (.sl nid t 0 ys.length) (.slice (some ⟨w.heap.size, 0, none⟩) ys.length cap) := by
 let L : Loc := ⟨w.heap.size, 0, xs.length + rest.length, ys.length⟩
 have hle := Mu.le_set (L := L) hn
 have hmu : μ.set nid L nid = some L := by simp [Mu.set]
 have hfree : ∀ o, ι w.heap.size o = none := fun o => by
  cases hio : ι w.heap.size o with
  | none => rfl
  | some y => have := World.block_lt_of_cell? _ _ (h.rd _ _ _ hio); simp at this
 refine ⟨_, hle, Mu.set_ne, h.lay hn (L := L) rfl (.inr ⟨L, xs, ⟨hmu, (.inl h.below.size), ⟨(xs ++ rest).toArray, e, ?_, by simp [L], fun j v hv => ?_⟩, by simp [L],
  CatR.one (fun _ _ => CellsD.one) hr, (fun e => by cases e), fun _ => hfree⟩, hr, rfl⟩), ?_⟩
 ·show (w.heap.push _)[w.heap.size]? = _
  simp
 ·have := (List.getElem?_eq_some_iff.1 hv).1
  simp only [L, Nat.zero_add, List.getElem?_toArray]
  rw [List.getElem?_append_left this]; exact hv
 ·have := Rel.sl (ι := ι) (μ := μ.set nid L) nid t 0 ys.length cap L hmu hc (by simpa [L] using hcap) (by simp [L])
  simpa [L] using this
end
end Go.AM
end
section
namespace Go.AM
section
variable {P : Program} {Y : Ctx} {ι ι' : Iota} {μ μ' : Mu} {H : Heap} {w w' : World}
 {c1 : Nat → List V → Heap → (V → Heap → Prop) → Prop} {c2 : Nat → List V → V → Prop} {c3 : C → St → (Ex → St → Prop) → Prop}
 {c4 : Nat → List V → Heap → (V → Heap → Prop) → Prop} {c5 : O → List Nat → C → C → St → (Ex → St → Prop) → Prop}
theorem splice {α : Type} (ws us : List α) (a o sz : Nat) (h : o + us.length ≤ sz) :
  ws.take a ++ (((ws.drop a).take sz).take o ++ us ++ ((ws.drop a).take sz).drop (o + us.length)) ++ ws.drop (a + sz) = ws.take (a + o) ++ us ++ ws.drop (a + o + us.length) := by
 have h1 : ws.take a ++ ((ws.drop a).take sz).take o = ws.take (a + o) := by
  rw [List.take_take, Nat.min_eq_left (by omega), List.take_add]
 have h2 : ((ws.drop a).take sz).drop (o + us.length) ++ ws.drop (a + sz) = ws.drop (a + o + us.length) := by
  rw [List.drop_take, List.drop_drop, show ws.drop (a + sz) = (ws.drop (a + (o + us.length))).drop (sz - (o + us.length)) by rw [List.drop_drop]; congr 1; omega,
   List.take_append_drop]
  congr 1; omega
 simp only [List.append_assoc]
 rw [← List.append_assoc (ws.take a), h1, h2]
theorem notIn_ne {id : Nat} : ∀ {u : Upd}, notIn id u = true → ∀ e ∈ u, e.1 ≠ id
 | [], _, e, h => by cases h
 | (s, b) :: r, h, e, he => by
  unfold notIn at h
  split at h
  ·cases h
  ·rename_i hs
   rcases List.mem_cons.1 he with rfl | he
   ·intro e; simp only at e; subst e; rw [Nat.beq_refl] at hs; cases hs
   ·exact notIn_ne h e he
theorem store_sound (h : Inv P Y ι μ H w) {env : List (Nat × V)} {t : TypeId} {k : Nat} {x a : O} {vx pa : Value} {ob : List Bool} {v : V} {u : Upd} {nid : Nat} (hk : sizeT P t = some k)
  (hx : Rel ι μ (x.ev env) vx) (ha : Rel ι μ (a.ev env) pa) (hev : evI (mkAr c1 c2 c3 c4 c5) (.store k a x) env H.bl nid = some (ob, v, u)) (hob : AllT ob) :
  ∃ ι' w', (Instr.storeAt t pa vx).run P w = .ok () w' ∧ ι.le ι' ∧ Inv P Y ι' μ ⟨H.next, bupd u H.bl⟩ w' ∧ v = .any := by
 simp only [evI] at hev
 split at hev <;> try (cases hev; done)
 rename_i vs hvs
 obtain ⟨hc, h1⟩ := hx.cells hvs
 split at hev <;> try (cases hev; done)
 rename_i hlen
 have hsz : vx.cells.size = k := by have := hc.1; simp at this; omega
 split at hev <;> try (cases hev; done)
 ·rename_i id off hae
  rw [hae] at ha
  split at hev <;> try (cases hev; done)
  rename_i cs hb
  split at hev <;> try (cases hev; done)
  rename_i cs' hset
  cases hev
  obtain ⟨L, ws, hM, hR⟩ := h.live _ _ hb
  cases ha with
  | ptr _ _ L' hL =>
   rw [hM.mu] at hL; cases hL
   obtain ⟨hle, hR'⟩ := setCs_rel hset hR hc
   have hf := hM.fits
   have hl : vx.cells.toList.length = k := by simpa using hsz
   refine ⟨ι, _, run_storeAt hk (hM.there (by omega) (by omega)) hsz h1, Iota.le_refl _, ?_, rfl⟩
   exact h.store hb hM.mu (hM.fzF rfl) ⟨L, _, hM.write hle h1, hR'⟩
 ·rename_i id te i p hae
  rw [hae] at ha
  split at hev <;> try (cases hev; done)
  rename_i t' xs hb
  split at hev <;> try (cases hev; done)
  rename_i e; subst e
  split at hev <;> try (cases hev; done)
  rename_i y u0 hset
  split at hev <;> try (cases hev; done)
  rename_i hni
  cases hev
  have hi : i < xs.length := by simpa using hob _ (List.mem_singleton.2 rfl)
  have hz := setP_isFz hset
  obtain ⟨ι', hle, hI, hF⟩ := freezeAll hz h
  have hb' : bget id (bupd u0 H.bl) = some (.arr te xs false) := by rw [hz.bget_other (notIn_ne hni)]; exact hb
  rcases hI.live _ _ hb' with ⟨rfl, _⟩ | ⟨L, ws, hM, hR, hl⟩
  ·simp at hi
  ·cases ha with
   | ep _ _ _ _ L' hL =>
    rw [hM.mu] at hL; cases hL
    have hxi : xs[i]? = some (xs.getD i te.zero) := by simp [List.getD, hi]
    have hcell := hR.at (fun _ _ => CellsD.length) hxi
    obtain ⟨g1, g2⟩ := setP_rel hset hc hle hF hcell
    have hwl := hR.length (fun _ _ => CellsD.length)
    have hf := hM.fits
    have hll : vx.cells.toList.length = k := by simpa using hsz
    have hmul : i * te.sz + te.sz ≤ xs.length * te.sz := by
     have := Nat.mul_le_mul_right te.sz (show i + 1 ≤ xs.length from hi)
     rwa [Nat.add_mul, Nat.one_mul] at this
    refine ⟨ι', _, run_storeAt hk (hM.there (by omega) (by omega)) hsz h1, hle, ?_, rfl⟩
    rw [bupd_append]
    have hw := hM.write (d := i * te.sz + te.offP p) (us := vx.cells.toList) (by omega) h1
    rw [← Nat.add_assoc] at hw
    refine hI.store hb' hM.mu (hM.fzF rfl) (.inr ⟨L, _, hw, ?_, by simpa using hl⟩)
    have hset' := hR.set (fun _ _ => CellsD.length) hi g2
    have hsp := splice ws vx.cells.toList (i * te.sz) (te.offP p) te.sz g1
    rw [show (i + 1) * te.sz = i * te.sz + te.sz by rw [Nat.add_mul, Nat.one_mul], hsp] at hset'
    exact hset'
/-! ### Literals -/
theorem foldSet : ∀ (vs : List Value) (j : Nat) (off : Nat) (cells : Array Value), off + j + vs.length ≤ cells.size →
  ((vs.zipIdx j).foldl (fun cs (c, j) => cs.setIfInBounds (off + j) c) cells).toList = cells.toList.take (off + j) ++ vs ++ cells.toList.drop (off + j + vs.length)
 | [], j, off, cells, h => by simp
 | v :: r, j, off, cells, h => by
  simp only [List.zipIdx_cons, List.foldl_cons]
  rw [show ((r.zipIdx (j + 1)).foldl (fun cs (c, j) => cs.setIfInBounds (off + j) c) (cells.setIfInBounds (off + j) v)).toList = _ from foldSet r (j + 1) off _ (by simp at h ⊢; omega)]
  simp only [List.length_cons] at h
  simp only [Array.toList_setIfInBounds, List.length_cons]
  rw [List.take_set, List.drop_set_of_lt (by omega), show off + (j + 1) = (off + j) + 1 by omega, List.take_succ_eq_append_getElem (by simp; omega)]
  rw [List.set_append_right _ _ (by simp; omega), List.length_take, Nat.min_eq_left (by simp; omega)]
  simp
  congr 1; omega
theorem partsOf_rel {place : Nat → Option (Nat × Nat)} {env : List (Nat × V)} {a : Act} (he : EnvR ι μ env a.tmps) : ∀ {parts : List (Nat × Operand)} {ps : List (Nat × Nat × O)} {zs cs : List V} {cells : Array Value},
  partsOf place parts = some ps → fillV ps env zs = some cs → RelL ι μ zs cells.toList → (∀ u ∈ cells.toList, u.oneCell' = true) →
  ∃ out, Instr.fill place cells (parts.map fun (i, x) => (i, a.eval x)) = some out ∧ RelL ι μ cs out.toList ∧ ∀ u ∈ out.toList, u.oneCell' = true
 | [], ps, zs, cs, cells, h, hf, hr, h1 => by
  cases h; cases hf
  exact ⟨cells, rfl, hr, h1⟩
 | (i, x) :: r, ps, zs, cs, cells, h, hf, hr, h1 => by
  unfold partsOf at h
  split at h <;> try (cases h; done)
  rename_i off k y ys hp hx hys
  cases h
  unfold fillV at hf
  split at hf <;> try (cases hf; done)
  rename_i vs hvs
  obtain ⟨hc, ho⟩ := (trO_rel he hx).cells hvs
  split at hf <;> try (cases hf; done)
  rename_i hlen
  split at hf <;> try (cases hf; done)
  rename_i cs' hset
  obtain ⟨hle, hR⟩ := setCs_rel hset hr hc
  have hsz : (a.eval x).cells.size = k := by have := hc.1; simp at this; omega
  have hfold := foldSet (a.eval x).cells.toList 0 off cells (by simpa using hle)
  simp only [List.map_cons, Instr.fill, hp]
  rw [if_neg (by simp [hsz]; simp at hle; omega)]
  refine partsOf_rel he hys hf ?_ ?_
  ·rw [← Array.foldl_toList, Array.toList_zipIdx, hfold]; simpa using hR
  ·rw [← Array.foldl_toList, Array.toList_zipIdx, hfold]
   intro u hu
   simp only [Nat.add_zero, List.mem_append] at hu
   rcases hu with (hu | hu) | hu
   ·exact h1 u (List.mem_of_mem_take hu)
   ·exact ho u hu
   ·exact h1 u (List.mem_of_mem_drop hu)
theorem fill_order {k : Nat} : ∀ (vs : List Value) (n : Nat) (cells : Array Value), (∀ v ∈ vs, v.cells.size = k) → cells.size = (n + vs.length) * k →
  ∃ out, Instr.fill (fun i => some (i * k, k)) cells ((vs.zipIdx n).map fun (v, i) => (i, v)) = some out ∧ out.toList = cells.toList.take (n * k) ++ vs.flatMap fun v => v.cells.toList
 | [], n, cells, _, hs => ⟨cells, rfl, by
  simp at hs
  have : cells.toList.length ≤ n * k := by simp; omega
  simp [List.take_of_length_le this]⟩
 | v :: r, n, cells, hv, hs => by
  have hk := hv v List.mem_cons_self
  simp only [List.length_cons] at hs
  have hfit : n * k + k ≤ cells.size := by
   rw [hs, show n + (r.length + 1) = (n + 1) + r.length by omega, Nat.add_mul, Nat.add_mul, Nat.one_mul]; omega
  have hfold := foldSet v.cells.toList 0 (n * k) cells (by simp [hk]; exact hfit)
  have hsize : ((v.cells.toList.zipIdx 0).foldl (fun cs (c, j) => cs.setIfInBounds (n * k + j) c) cells).size = cells.size := by
   have := congrArg List.length hfold
   rw [Array.length_toList] at this
   rw [this]
   simp [hk]; omega
  obtain ⟨out, h1, h2⟩ := fill_order r (n + 1) ((v.cells.toList.zipIdx 0).foldl (fun cs (c, j) => cs.setIfInBounds (n * k + j) c) cells) (fun u hu => hv u (List.mem_cons_of_mem _ hu))
   (by rw [hsize, hs]; congr 1; omega)
  refine ⟨out, ?_, ?_⟩
  ·simp only [List.zipIdx_cons, List.map_cons, Instr.fill]
   rw [if_neg (by simp [hk]; omega), ← Array.foldl_toList, Array.toList_zipIdx]
   exact h1
  ·rw [h2, hfold]
   simp only [Nat.add_zero, List.flatMap_cons, Nat.add_mul, Nat.one_mul]
   rw [List.take_append_of_le_length (by simp [hk]; omega), List.take_of_length_le (by simp [hk]; omega)]
   simp
end
end Go.AM
end
section
namespace Go.AM
section
variable {P : Program} {Y : Ctx} {ι ι' : Iota} {μ μ' : Mu} {H : Heap} {w w' : World}
 {c1 : Nat → List V → Heap → (V → Heap → Prop) → Prop} {c2 : Nat → List V → V → Prop} {c3 : C → St → (Ex → St → Prop) → Prop}
 {c4 : Nat → List V → Heap → (V → Heap → Prop) → Prop} {c5 : O → List Nat → C → C → St → (Ex → St → Prop) → Prop}
/-- A block of no element, of which nothing lies in memory. -/
theorem Inv.phantom (h : Inv P Y ι μ H w) {nid : Nat} (hn : μ nid = none) (t : Ty) (fz : Bool) : Inv P Y ι μ ⟨max H.next (nid + 1), (nid, .arr t [] fz) :: bdel nid H.bl⟩ w := by
 refine ⟨h.below, h.i0, h.iB, h.rd, h.m0, fun id hid => h.nx id (by simp only at hid; omega), fun id B hB => ?_, ?_, ?_⟩
 ·rw [bget_set] at hB
  split at hB
  ·rename_i e; subst e; cases hB; exact .inl ⟨rfl, hn⟩
  ·exact h.live id B hB
 ·intro id id' B B' L1 L2 h1 h2 hm1 hm2 e
  rw [bget_set] at h1 h2
  by_cases e1 : id = nid <;> by_cases e2 : id' = nid
  ·rw [e1, e2]
  ·subst e1; rw [hn] at hm1; cases hm1
  ·subst e2; rw [hn] at hm2; cases hm2
  ·rw [if_neg e1] at h1; rw [if_neg e2] at h2
   exact h.inj id id' B B' L1 L2 h1 h2 hm1 hm2 e
 ·intro id B hB
  rw [bget_set] at hB
  split at hB
  ·rename_i e; subst e; simp only; omega
  ·have := h.lt id B hB; simp only; omega
/-- A block goes, and another one comes where it lay, whose memory is turned. -/
theorem Inv.move (h : Inv P Y ι μ H w) {nid : Nat} (hn : μ nid = none) {id : Nat} {b0 b : Blk} (hb0 : bget id H.bl = some b0) {L L' : Loc} (hL : μ id = some L) (hLb : L'.b = L.b) (hfree : ∀ o, ι L.b o = none)
  (hos : w'.os = w.os) (htape : w'.tape = w.tape) (hout : w'.output = w.output) (hsz : w'.heap.size = w.heap.size) (hk : ∀ k, k ≠ L.b → w'.heap[k]? = w.heap[k]?)
  (hb : BlkOk P Y.own ι (μ.set nid L') nid w' b) : Inv P Y ι (μ.set nid L') ⟨max H.next (nid + 1), (nid, b) :: bdel nid (bdel id H.bl)⟩ w' := by
 have hold := ((h.live id b0 hb0).loc hL).1
 have hle := Mu.le_set (L := L') hn
 have hidn : id ≠ nid := fun e => by subst e; rw [hn] at hL; cases hL
 have hgo : ∀ {j B}, j ≠ nid → bget j ((nid, b) :: bdel nid (bdel id H.bl)) = some B → j ≠ id ∧ bget j H.bl = some B := fun {j B} hj hB => by
  rw [bget_set, if_neg hj, bget_bdel] at hB
  split at hB
  ·cases hB
  ·rename_i e; exact ⟨e, hB⟩
 refine ⟨⟨hos.trans h.below.os, htape.trans h.below.tape, hout.trans h.below.output, by rw [hsz]; exact h.below.size, fun k hk' hx => ?_⟩, h.i0, h.iB, fun b o x hx => ?_, Mu.le_trans h.m0 hle, fun i hid => ?_, fun i B hB => ?_, ?_, ?_⟩
 ·rw [hk k (Ctx.own_ne hold hk' hx)]; exact h.below.block k hk' hx
 ·have := h.rd b o x hx
  have hne : b ≠ L.b := fun e => by subst e; rw [hfree] at hx; cases hx
  unfold World.cell? at this ⊢
  simp only at this ⊢
  rw [hk b hne]; exact this
 ·simp only at hid
  unfold Mu.set; rw [if_neg (by omega)]; exact h.nx i (by omega)
 ·by_cases e : i = nid
  ·subst e; rw [bget_set, if_pos rfl] at hB; cases hB; exact hb
  ·obtain ⟨h1, h2⟩ := hgo e hB
   refine (h.live i B h2).mono (Iota.le_refl _) hle (fun hm => by unfold Mu.set; rw [if_neg e]; exact hm) (fun L1 hL1 => hk _ (fun e' => h1 (h.inj i id B b0 L1 L h2 hb0 hL1 hL e'))) (fun _ _ h => h)
 ·intro i i' B B' L1 L2 h1 h2 hm1 hm2 e
  by_cases e1 : i = nid <;> by_cases e2 : i' = nid
  ·rw [e1, e2]
  ·obtain ⟨g1, g2⟩ := hgo e2 h2
   unfold Mu.set at hm1 hm2
   rw [if_pos e1] at hm1; rw [if_neg e2] at hm2; cases hm1
   exact absurd (h.inj i' id B' b0 L2 L g2 hb0 hm2 hL (by omega)) g1
  ·obtain ⟨g1, g2⟩ := hgo e1 h1
   unfold Mu.set at hm1 hm2
   rw [if_pos e2] at hm2; rw [if_neg e1] at hm1; cases hm2
   exact absurd (h.inj i id B b0 L1 L g2 hb0 hm1 hL (by omega)) g1
  ·obtain ⟨g1, g2⟩ := hgo e1 h1
   obtain ⟨g3, g4⟩ := hgo e2 h2
   unfold Mu.set at hm1 hm2
   rw [if_neg e1] at hm1; rw [if_neg e2] at hm2
   exact h.inj i i' B B' L1 L2 g2 g4 hm1 hm2 e
 ·intro i B hB
  by_cases e : i = nid
  ·subst e; simp only; omega
  ·obtain ⟨_, h2⟩ := hgo e hB
   have := h.lt i B h2; simp only; omega
theorem elems_src (h : Inv P Y ι μ H w) {t : Ty} {yv : V} {x : Value} {ys : List t.den} {tx e' : TypeId} (hk : P.underlying tx = some (.slice e')) (hy : elems (mkAr c1 c2 c3 c4 c5) H.bl t yv = some ys)
  (hr : Rel ι μ yv x) : ∃ news, Src P t.sz tx x ys.length news w ∧ CatR (CellsD ι t) ys news := by
 have nil : ∀ a cap, Src P t.sz tx (.slice a 0 cap) 0 [] w := fun a cap => by
  cases a with
  | none => exact Src.ofNil w hk cap
  | some a => exact Src.ofSlice w hk a 0 cap [] (by simp) (fun j u h => by simp at h) (fun u h => by cases h)
 have ofR : ∀ {b o n cap : Nat} {us : List Value}, w.rangeAt b o us → us.length = n * t.sz → (∀ u ∈ us, u.oneCell' = true) → Src P t.sz tx (.slice (some ⟨b, o, none⟩) n cap) n us w := fun hrg hl h1 =>
  Src.ofSlice w hk _ _ _ _ hl (fun j u hu => by rw [Addr.add_mid]; exact hrg j u hu) h1
 unfold elems at hy
 split at hy <;> try (cases hy; done)
 ·cases hy; cases hr; exact ⟨[], nil _ _, rfl⟩
 ·rename_i t' zs
  obtain ⟨e, hz⟩ := castL_some hy
  subst e; subst hz
  cases hr with
  | lst _ _ _ hd =>
   obtain ⟨a, cap, e, hle, hd⟩ := hd
   cases e
   rcases hd with rfl | ⟨b, o, us, rfl, hrd, hc⟩
   ·exact ⟨[], nil a cap, rfl⟩
   ·exact ⟨us, ofR (hrd.rangeAt h.rd) (hc.length (fun _ _ => CellsD.length)) (hc.one fun _ _ => CellsD.one), hc⟩
 ·rename_i id t' lo n
  split at hy <;> try (cases hy; done)
  rename_i t'' zs fz hb
  split at hy <;> try (cases hy; done)
  rename_i e; subst e
  split at hy <;> try (cases hy; done)
  rename_i zs' hc
  cases hy
  obtain ⟨e, hz⟩ := castL_some hc
  subst e; subst hz
  cases hr with
  | sl0 => exact ⟨[], by simpa using nil _ _, by simp [CatR]⟩
  | sl _ _ _ _ cap L hm h1 h2 h3 =>
   rcases h.live _ _ hb with ⟨_, hn⟩ | ⟨L', vs, hM, hR, hl⟩
   ·rw [hn] at hm; cases hm
   ·rw [hM.mu] at hm; cases hm
    have hlen : ((zs'.drop lo).take n).length = n := by simp; omega
    have hcat := (hR.drop (fun _ _ => CellsD.length) lo).take (fun _ _ => CellsD.length) n
    have hl2 := hcat.length (fun _ _ => CellsD.length)
    rw [hlen] at hl2
    refine ⟨_, ?_, hcat⟩
    show Src P _ tx _ ((zs'.drop lo).take n).length _ w
    rw [hlen]
    exact ofR (rangeAt_sub hM.rangeAt _ _) hl2 (hcat.one fun _ _ => CellsD.one)
theorem elemOk_some {e : TypeId} {k : Nat} (h : elemOk P e = some k) : ∃ i z, P.info? e = some i ∧ i.zero = some z ∧ i.bytes ≤ maxBytes ∧ z.cells.size = i.size ∧ i.size = k := by
 unfold elemOk at h
 split at h <;> try (cases h; done)
 rename_i i hi
 split at h <;> try (cases h; done)
 rename_i z hz
 split at h <;> try (cases h; done)
 rename_i hb
 cases h
 exact ⟨i, z, hi, hz, hb.1, hb.2, rfl⟩
/-- An append to a slice with no element and no room, or to any where there is no room: a new block. -/
theorem append_new (h : Inv P Y ι μ H w) {nid : Nat} (hn : μ nid = none) {t : Ty} {tt tx ty e e' : TypeId} (ht : P.underlying tt = some (.slice e)) (htx : P.underlying tx = some (.slice e')) (he : elemOk P e = some t.sz)
  {base : Option Addr} {n cap : Nat} {xs ys : List t.den} {olds news : List Value} (hxl : xs.length = n) (hxs : CatR (CellsD ι t) xs olds)
  (hold : (Builtin.firstCells t.sz n (.slice base n cap)).run P w.drew = .ok olds.toArray w.drew) {x : Value} (hs : Src P t.sz tx x ys.length news w) (hys : CatR (CellsD ι t) ys news)
  (hg : cap < n + ys.length) (hbig : n + ys.length < bigL) :
  ∃ μ' v w', (Builtin.append_ #[tt, tx] ty #[.slice base n cap, x]).run P w = .ok v w' ∧ μ.le μ' ∧ (∀ id, id ≠ nid → μ' id = μ id) ∧
   Inv P Y ι μ' ⟨max H.next (nid + 1), (nid, .arr t (xs ++ ys) false) :: bdel nid H.bl⟩ w' ∧ Rel ι μ' (.sl nid t 0 (n + ys.length)) v := by
 obtain ⟨i, z, hi, hz, hby, hzs, hsz⟩ := elemOk_some he
 have hfit : Builtin.nextslicecap (n + ys.length) cap * i.bytes ≤ 281474976710656 := by
  refine growslice_fits hg (Nat.le_trans (Nat.mul_le_mul (Nat.le_of_lt hbig) hby) ?_)
  unfold bigL maxBytes; decide
 have h63 : ((n + ys.length : Nat) : Int) ≤ 9223372036854775807 := by unfold bigL at hbig; omega
 rw [← hsz] at hold hs
 have hr := run_append_grow_src w tt tx ty e i z ht hi hz base n cap olds hold x ys.length news hs hg h63 hfit
 have hcat : CatR (CellsD ι t) (xs ++ ys) (olds ++ news) := hxs.append hys
 have hl := hcat.length (fun _ _ => CellsD.length)
 have hge := grownCap_ge w (n + ys.length) cap e
 obtain ⟨μ', m1, m0, m2, m3⟩ := lay_arr (nid := nid) (rest := (Builtin.zeroCells z.cells (grownCap w (n + ys.length) cap e - (n + ys.length))).toList) h.drew hn hcat e (grownCap w (n + ys.length) cap e)
  (by simp [hxl]; exact hge) (by
   have hzc : (Builtin.zeroCells z.cells (grownCap w (n + ys.length) cap e - (n + ys.length))).toList.length = (grownCap w (n + ys.length) cap e - (n + ys.length)) * t.sz := by
    rw [Array.length_toList, size_zeroCells, hzs, hsz]
   rw [hl, hzc, List.length_append, hxl, ← Nat.add_mul]
   exact Nat.mul_le_mul_right _ (by omega))
 refine ⟨μ', _, _, hr, m1, m0, ?_, ?_⟩
 ·have : (olds ++ news ++ (Builtin.zeroCells z.cells (grownCap w (n + ys.length) cap e - (n + ys.length))).toList).toArray =
    (olds ++ news).toArray ++ Builtin.zeroCells z.cells (grownCap w (n + ys.length) cap e - (n + ys.length)) := by
   apply Array.ext'; simp
  rw [this] at m2; exact m2
 ·simpa [hxl] using m3
theorem append_sound (h : Inv P Y ι μ H w) {nid : Nat} (hn : μ nid = none) {env : List (Nat × V)} {tt tx ty e e' : TypeId} {k : Nat} {sO xO : O} {s x : Value} {ob : List Bool} {v : V} {u : Upd}
  (ht : P.underlying tt = some (.slice e)) (htx : P.underlying tx = some (.slice e')) (he : elemOk P e = some k)
  (hs : Rel ι μ (sO.ev env) s) (hx : Rel ι μ (xO.ev env) x) (hev : evI (mkAr c1 c2 c3 c4 c5) (.append k sO xO) env H.bl nid = some (ob, v, u)) (hob : AllT ob) :
  ∃ μ' y w', (Builtin.append_ #[tt, tx] ty #[s, x]).run P w = .ok y w' ∧ μ.le μ' ∧ (∀ id, id ≠ nid → μ' id = μ id) ∧ Inv P Y ι μ' ⟨max H.next (nid + 1), bupd u H.bl⟩ w' ∧ Rel ι μ' v y := by
 -- a slice with no element and no room
 have empty : ∀ {t : Ty} {ys : List t.den} (a : Option Addr) (bl : Blks), (∀ id B, bget id bl = some B → bget id H.bl = some B) → t.sz = k → elems (mkAr c1 c2 c3 c4 c5) H.bl t (xO.ev env) = some ys → ys.length < bigL →
   ∃ μ' y w', (Builtin.append_ #[tt, tx] ty #[.slice a 0 0, x]).run P w = .ok y w' ∧ μ.le μ' ∧ (∀ id, id ≠ nid → μ' id = μ id) ∧ Inv P Y ι μ' ⟨max H.next (nid + 1), (nid, .arr t ys false) :: bdel nid bl⟩ w' ∧ Rel ι μ' (.sl nid t 0 ys.length) y := by
  intro t ys a bl hbl hk hy hbig
  subst hk
  obtain ⟨news, hsrc, hcat⟩ := elems_src h htx hy hx
  have hI : Inv P Y ι μ ⟨H.next, bl⟩ w := h.sub hbl
  by_cases hm : ys.length = 0
  ·have : ys = [] := List.length_eq_zero_iff.1 hm
   subst this
   have hn : news = [] := hcat
   subst hn
   obtain ⟨i, z, hi, hz, hby, hzs, hsz⟩ := elemOk_some he
   refine ⟨μ, .slice a 0 0, w, ?_, Mu.le_refl _, fun _ _ => rfl, hI.phantom hn t false, .sl0 _ _ _ a⟩
   rw [← hsz] at hsrc
   have hlen := hsrc.len w
   have hcells := hsrc.cells
   simp only [List.length_nil] at hcells hlen
   cases a <;> simp [Builtin.append_, run_underlying ht, run_underlying htx, sizeOf, typeInfo, hi, hlen, hcells, storeCells]
  ·have hf : (Builtin.firstCells t.sz 0 (.slice a 0 0)).run P w.drew = .ok ([] : List Value).toArray w.drew := by
    cases a with
    | none => exact run_firstCells_none _ _ _ _ _
    | some a => exact run_firstCells_some _ _ _ _ _ _ [] (by simp) (fun j u h => by simp at h)
   obtain ⟨μ', y, w', r1, r2, r0, r3, r4⟩ := append_new (ty := ty) hI hn ht htx he (n := 0) (xs := []) (ys := ys) rfl rfl hf hsrc hcat (by omega) (by omega)
   exact ⟨μ', y, w', r1, r2, r0, r3, by simpa using r4⟩
 simp only [evI] at hev
 split at hev <;> try (cases hev; done)
 ·rename_i hse
  rw [hse] at hs
  split at hev <;> try (cases hev; done)
  rename_i t hty
  split at hev <;> try (cases hev; done)
  rename_i hk
  split at hev <;> try (cases hev; done)
  rename_i ys hy
  cases hev
  cases hs with
  | nsl a =>
   have hbig : ys.length < bigL := by simpa using hob _ (List.mem_singleton.2 rfl)
   exact empty a H.bl (fun _ _ h => h) hk hy hbig
 ·rename_i id t lo n hse
  rw [hse] at hs
  split at hev <;> try (cases hev; done)
  rename_i hk
  split at hev <;> try (cases hev; done)
  rename_i t' xs hb
  split at hev <;> try (cases hev; done)
  rename_i e1; subst e1
  split at hev <;> try (cases hev; done)
  rename_i xs' hc
  split at hev <;> try (cases hev; done)
  rename_i ys hy
  cases hev
  obtain ⟨e1, hz⟩ := castL_some hc
  subst hz
  have hbig : n + ys.length < bigL := by simpa using hob _ (List.mem_singleton.2 rfl)
  have hdel : ∀ i B, bget i (bdel id H.bl) = some B → bget i H.bl = some B := fun i B hB => by rw [bget_bdel] at hB; split at hB <;> simp_all
  simp only [bupd]
  cases hs with
  | sl0 _ _ _ a =>
   have := empty a _ hdel hk hy (by omega)
   simpa using this
  | sl _ _ _ _ cap L hm h1 h2 h3 =>
   rcases h.live _ _ hb with ⟨_, hn⟩ | ⟨L', vs, hM, hR, hl⟩
   ·rw [hn] at hm; cases hm
   ·rw [hM.mu] at hm; cases hm
    subst hk
    obtain ⟨news, hsrc, hcat⟩ := elems_src h htx hy hx
    have hlen : ((xs'.drop lo).take n).length = n := by simp; omega
    have holds := (hR.drop (fun _ _ => CellsD.length) lo).take (fun _ _ => CellsD.length) n
    have hl2 := holds.length (fun _ _ => CellsD.length)
    rw [hlen] at hl2
    have hrg : w.rangeAt L.b (L.ba + lo * t'.sz) ((vs.drop (lo * t'.sz)).take (n * t'.sz)) := rangeAt_sub hM.rangeAt _ _
    by_cases hroom : n + ys.length ≤ cap
    ·obtain ⟨i, z, hi, hz, hby, hzs, hsz⟩ := elemOk_some he
     have hcl := hcat.length (fun _ _ => CellsD.length)
     have hone := hcat.one (fun _ _ => CellsD.one)
     have hfitc : L.ba + lo * t'.sz + n * t'.sz + news.length ≤ L.tot := by
      rw [hcl]
      have : lo * t'.sz + n * t'.sz + ys.length * t'.sz ≤ (lo + cap) * t'.sz := by
       rw [← Nat.add_mul, ← Nat.add_mul]; exact Nat.mul_le_mul_right _ (by omega)
      omega
     have hth : w.there L.b (L.ba + lo * t'.sz + n * t'.sz) news.length := hM.there (by omega) hfitc
     rw [← hsz] at hsrc
     have hr := run_append_room_src w tt tx ty e i ht hi L.b (L.ba + lo * t'.sz) n cap x ys.length news hsrc hroom
      (fun j hj => by rw [hsz]; exact (hth j hj).1) (fun j hj => by rw [hsz]; exact (hth j hj).2)
     rw [hsz] at hr
     let L2 : Loc := ⟨L.b, L.ba + lo * t'.sz, L.tot, n + ys.length⟩
     have hle := Mu.le_set (L := L2) hn
     have hmu : μ.set nid L2 nid = some L2 := by simp [Mu.set]
     refine ⟨_, _, _, hr, hle, Mu.set_ne, h.move hn (L' := L2) hb hM.mu rfl (hM.fzF rfl) (os_setCells _ _ _ _).1 (os_setCells _ _ _ _).2.1 (os_setCells _ _ _ _).2.2 (size_setCells _ _ _ _)
      (fun k hk => heap_setCells_ne _ _ _ _ _ hk) (.inr ⟨L2, (vs.drop (lo * t'.sz)).take (n * t'.sz) ++ news, ?_, ?_, ?_⟩), ?_⟩
     ·-- the memory: the old cells from 'lo' on, the new ones behind them
      obtain ⟨c, ec, hc1, hc2, hc3⟩ := hM.row
      have hset := fun (j : Nat) (hj : j < news.length) => World.cell?_setCells_in L.b news (L.ba + lo * t'.sz + n * t'.sz) w (fun j hj => (hth j hj).1) j hj
      have hout := fun (a : Addr) h => World.cell?_setCells_out L.b news (L.ba + lo * t'.sz + n * t'.sz) w a h
      have hrow : ∃ c' : Array Value, (w.setCells L.b (L.ba + lo * t'.sz + n * t'.sz) news).heap[L.b]? = some (.cells c' ec (0, 0)) ∧ c'.size = c.size := by
       have key : ∀ (us : List Value) (o : Nat) (w : World) (c : Array Value), w.heap[L.b]? = some (.cells c ec (0, 0)) → ∃ c' : Array Value, (w.setCells L.b o us).heap[L.b]? = some (.cells c' ec (0, 0)) ∧ c'.size = c.size := by
        intro us
        induction us with
        | nil => intro o w c hc; exact ⟨c, hc, rfl⟩
        | cons u us ih =>
         intro o w c hc
         obtain ⟨c', e1, e2⟩ := ih (o + 1) (w.setCell ⟨L.b, o, none⟩ u) (c.setIfInBounds o u) (by simp [World.setCell, Array.getElem?_modify, hc])
         exact ⟨c', e1, by simpa using e2⟩
       exact key _ _ _ _ hc1
      obtain ⟨c', hc4, hc5⟩ := hrow
      refine ⟨hmu, hM.old, ⟨c', ec, hc4, by rw [hc5]; exact hc2, fun j v hv => ?_⟩, by simp only [L2, List.length_append, hl2]; omega, ?_, (fun e => by cases e), fun _ => hM.fzF rfl⟩
      ·have hcell : (w.setCells L.b (L.ba + lo * t'.sz + n * t'.sz) news).cell? ⟨L.b, L.ba + lo * t'.sz + j, none⟩ = some v := by
        by_cases hj : j < n * t'.sz
        ·rw [List.getElem?_append_left (by omega)] at hv
         rw [hout _ (fun _ _ => .inl (by show L.ba + lo * t'.sz + j < _; omega))]
         exact hrg j v hv
        ·rw [List.getElem?_append_right (by omega), hl2] at hv
         have hj2 := (List.getElem?_eq_some_iff.1 hv).1
         have := hset (j - n * t'.sz) hj2
         rw [show L.ba + lo * t'.sz + n * t'.sz + (j - n * t'.sz) = L.ba + lo * t'.sz + j by omega] at this
         rw [this, ← hv, List.getElem?_eq_getElem hj2]
       simp [World.cell?, hc4] at hcell
       exact hcell
      ·intro v hv
       rcases List.mem_append.1 hv with hv | hv
       ·exact hM.one v (List.mem_of_mem_drop (List.mem_of_mem_take hv))
       ·exact hone v hv
     ·exact holds.append hcat
     ·simp only [L2, List.length_append, hlen]
     ·have := Rel.sl (ι := ι) (μ := μ.set nid L2) nid t' 0 (n + ys.length) cap L2 hmu hroom (by simp only [L2, Nat.zero_add]; have : (lo + cap) * t'.sz = lo * t'.sz + cap * t'.sz := Nat.add_mul _ _ _; omega) (by simp [L2])
      simpa [L2] using this
    ·have hf : (Builtin.firstCells t'.sz n (.slice (some ⟨L.b, L.ba + lo * t'.sz, none⟩) n cap)).run P w.drew = .ok ((vs.drop (lo * t'.sz)).take (n * t'.sz)).toArray w.drew :=
      run_firstCells_some _ _ _ _ _ _ _ hl2 (fun j u hu => by rw [Addr.add_mid, World.cell?_drew]; exact hrg j u hu)
     exact append_new (ty := ty) (h.sub hdel) hn ht htx he hlen holds hf hsrc hcat (by omega) hbig
end
end Go.AM
end
section
namespace Go.AM
section
variable {P : Program} {Y : Ctx} {ι ι' : Iota} {μ μ' : Mu} {H : Heap} {w w' : World}
 {c1 : Nat → List V → Heap → (V → Heap → Prop) → Prop} {c2 : Nat → List V → V → Prop} {c3 : C → St → (Ex → St → Prop) → Prop}
 {c4 : Nat → List V → Heap → (V → Heap → Prop) → Prop} {c5 : O → List Nat → C → C → St → (Ex → St → Prop) → Prop}
theorem asB_rel {v : V} {b : Bool} {x : Value} (h : asB v = some b) (hr : Rel ι μ v x) : x = .bool b := by
 cases v <;> simp [asB] at h <;> (subst h; cases hr; rfl)
theorem run_eqGuard_plain (op : BinOp) (t : TypeId) (x y : Operand) {a b : Value} (h : a ≠ .nilIface) (ha : ∀ cs, a ≠ .agg cs) : (eqGuard op t x y a b).run P w = .ok () w := by
 cases op <;> try rfl
 all_goals cases a <;> first | rfl | exact absurd rfl h | exact absurd rfl (ha _)
theorem bin_sound {op : BinOp} {bo : IBin} (hb : binOf op = some bo) {t : TypeId} {xo yo : Operand} {v1 v2 : V} {a b : Value} (h1 : Rel ι μ v1 a) (h2 : Rel ι μ v2 b) {x y : O} {env : List (Nat × V)}
  (hx : x.ev env = v1) (hy : y.ev env = v2) {bl : Blks} {n : Nat} {ob : List Bool} {v : V} {u : Upd} (hev : evI (mkAr c1 c2 c3 c4 c5) (.bin bo x y) env bl n = some (ob, v, u)) (hob : AllT ob) :
  u = [] ∧ ∃ z, (do eqGuard op t xo yo a b; binOp op t a b : Sem Value).run P w = .ok z w ∧ Rel ι μ v z := by
 simp only [evI, hx, hy] at hev
 split at hev
 ·rename_i k m k' m' 
  cases h1; cases h2
  have hg := run_eqGuard_plain (P := P) (w := w) op t xo yo (a := .int k m) (b := .int k' m') (by simp) (by simp)
  split at hev
  ·cases op <;> simp [binOf] at hb
   simp only [shBin] at hev
   cases hev
   have e1 := hob _ (List.mem_cons_self)
   have e2 := hob _ (List.mem_cons_of_mem _ (List.mem_cons_self))
   simp at e1
   refine ⟨rfl, .int k (m * 2 ^ m'.toNat), ?_, .int _ _⟩
   have hw := wrap_rng e2
   simp [hg, binOp, Op.shift, show ¬ m' < 0 by omega, Nat.min_eq_left (show m'.toNat ≤ k.bits by omega), hw]
  ·cases op <;> simp [binOf] at hb
   simp only [shBin] at hev
   cases hev
   have e1 := hob _ (List.mem_cons_self)
   simp at e1
   refine ⟨rfl, .int k (m.fdiv (2 ^ m'.toNat)), ?_, .int _ _⟩
   simp [hg, binOp, Op.shift, show ¬ m' < 0 by omega, Nat.min_eq_left (show m'.toNat ≤ k.bits by omega)]
  ·split at hev <;> try (cases hev; done)
   rename_i hk; subst hk
   cases op <;> cases hb <;> simp only [intBin] at hev <;> first | (cases hev; done) | skip
   all_goals
    cases hev
    refine ⟨rfl, ?_⟩
    first
     | (refine ⟨_, ?_, .bool _⟩; simp [hg, binOp, Op.intCmp]; done)
     | (refine ⟨_, ?_, .bool _⟩; simp [hg, binOp, Op.intCmp, bne]; done)
     | (refine ⟨_, ?_, .int _ _⟩; simp [hg, binOp, Op.intBits]; done)
     | (refine ⟨_, ?_, .int _ _⟩; have e1 := wrap_rng (hob _ (List.mem_singleton.2 rfl)); simp [hg, binOp, Op.intArith, e1]; done)
     | (refine ⟨_, ?_, .int _ _⟩; have e1 := hob _ (List.mem_cons_self); have e2 := wrap_rng (hob _ (List.mem_cons_of_mem _ (List.mem_cons_self))); simp at e1; simp [hg, binOp, Op.intDiv, e1, e2]; done)
     | (refine ⟨_, ?_, .int _ _⟩; have e1 := hob _ (List.mem_cons_self); simp at e1; simp [hg, binOp, Op.intDiv, e1]; done)
 ·rename_i s1 s2
  cases h1; cases h2
  have hg := run_eqGuard_plain (P := P) (w := w) op t xo yo (a := .string s1) (b := .string s2) (by simp) (by simp)
  cases op <;> cases hb <;> simp only [strBin] at hev <;> first | (cases hev; done) | skip
  all_goals
   cases hev
   refine ⟨rfl, ?_⟩
  all_goals
   have hor : (if Op.bytesLess s1.toList s2.toList = true then true else s1.toList == s2.toList) = (Op.bytesLess s1.toList s2.toList || s1.toList == s2.toList) := by
    cases Op.bytesLess s1.toList s2.toList <;> simp
   try rw [hor]
   refine ⟨_, ?_, .bool _⟩
   simp [hg, binOp, Op.stringOp]
 ·cases hev
theorem eqCells_cons {k : Kd} {ks : List Kd} {as bs : List V} {c : Bool} (h : eqCells (mkAr c1 c2 c3 c4 c5) (k :: ks) as bs = some c) : ∃ a as' b bs', as = a :: as' ∧ bs = b :: bs' := by
 cases as with
 | nil => cases k <;> simp [eqCells] at h
 | cons a as =>
  cases bs with
  | nil => cases k <;> cases a <;> simp [eqCells] at h
  | cons b bs => exact ⟨a, as, b, bs, rfl, rfl⟩
theorem eqCells_rel {d : Nat} {xs ys : Array Value} : ∀ {fs : List Field} {n : Nat} {ks : List Kd} {as bs : List V} {c : Bool}, flatF P n fs = some ks → RelL ι μ as (xs.toList.drop n) → RelL ι μ bs (ys.toList.drop n) →
  eqCells (mkAr c1 c2 c3 c4 c5) ks as bs = some c → (Op.eqFields (d + 1) xs ys fs).run P w = .ok c w
 | [], n, ks, as, bs, c, hf, ha, hb, h => by
  cases hf
  cases as <;> cases bs <;> simp [eqCells] at h
  subst h; rfl
 | f :: r, n, ks, as, bs, c, hf, ha, hb, h => by
  unfold flatF at hf
  split at hf <;> try (cases hf; done)
  rename_i hn
  obtain ⟨hname, hoff⟩ := hn
  have step : ∀ {x y : Value} {xs' ys' : List Value} {b rest : Bool} {dsc : TypeDesc}, P.underlying f.type = some dsc → (match dsc with | .struct _ => false | .array _ _ => false | _ => true) = true → xs.toList.drop n = x :: xs' → ys.toList.drop n = y :: ys' →
    (Op.equalIn (d + 1) f.type x y).run P w = .ok b w → (Op.eqFields (d + 1) xs ys r).run P w = .ok rest w → (Op.eqFields (d + 1) xs ys (f :: r)).run P w = .ok (b && rest) w := by
   intro x y xs' ys' b rest dsc hu hd hx hy he hr
   have hagg : (isAgg f.type).run P w = .ok false w := by
    unfold isAgg
    rw [Sem.run_bind, run_underlying hu w]
    cases dsc <;> simp_all
   have hx0 : xs[n]? = some x := by
    have : (xs.toList.drop n)[0]? = some x := by rw [hx]; rfl
    simpa using this
   have hy0 : ys[n]? = some y := by
    have : (ys.toList.drop n)[0]? = some y := by rw [hy]; rfl
    simpa using this
   have p1 : (part f.type xs f.offset).run P w = .ok x w := by simp [part, hagg, hoff, hx0]
   have p2 : (part f.type ys f.offset).run P w = .ok y w := by simp [part, hagg, hoff, hy0]
   simp only [Op.eqFields, if_pos hname, Sem.run_bind, p1, p2, Result.andThen_ok, he]
   cases b <;> simp [hr]
  split at hf <;> try (cases hf; done)
  all_goals
   rename_i ks' hu hks
   cases hf
   obtain ⟨a, as', b, bs', e1, e2⟩ := eqCells_cons h
   subst e1; subst e2
   obtain ⟨x, xs', hx, ha1, ha2⟩ := ha.uncons
   obtain ⟨y, ys', hy, hb1, hb2⟩ := hb.uncons
   have ha3 : RelL ι μ as' (xs.toList.drop (n + 1)) := by rw [← List.drop_drop (i := 1), hx]; exact ha2
   have hb3 : RelL ι μ bs' (ys.toList.drop (n + 1)) := by rw [← List.drop_drop (i := 1), hy]; exact hb2
  ·simp only [eqCells] at h
   split at h <;> try (cases h; done)
   rename_i p q hp hq
   split at h <;> try (cases h; done)
   rename_i rest hrest
   cases h
   rw [asB_rel hp ha1] at hx
   rw [asB_rel hq hb1] at hy
   exact step hu rfl hx hy (run_equalIn_bool' w d f.type p q hu) (eqCells_rel hks ha3 hb3 hrest)
  ·cases a <;> cases b <;> simp only [eqCells] at h <;> try (cases h; done)
   split at h <;> try (cases h; done)
   rename_i hkk; subst hkk
   split at h <;> try (cases h; done)
   rename_i rest hrest
   cases h
   cases ha1; cases hb1
   exact step hu rfl hx hy (run_equalIn_int w d f.type _ _ _ _ hu) (eqCells_rel hks ha3 hb3 hrest)
  ·cases a <;> cases b <;> simp only [eqCells] at h <;> try (cases h; done)
   split at h <;> try (cases h; done)
   rename_i rest hrest
   cases h
   cases ha1; cases hb1
   exact step hu rfl hx hy (run_equalIn_string w d f.type _ _ hu) (eqCells_rel hks ha3 hb3 hrest)
end
end Go.AM
end
section
namespace Go.AM
section
variable {P : Program} {Y : Ctx} {ι ι' : Iota} {μ μ' : Mu} {H : Heap} {w w' : World}
 {c1 : Nat → List V → Heap → (V → Heap → Prop) → Prop} {c2 : Nat → List V → V → Prop} {c3 : C → St → (Ex → St → Prop) → Prop}
 {c4 : Nat → List V → Heap → (V → Heap → Prop) → Prop} {c5 : O → List Nat → C → C → St → (Ex → St → Prop) → Prop}
theorem offP_append : ∀ {t t1 : Ty} {p : List Bool} (q : List Bool), t.atP p = some t1 → t.offP (p ++ q) = t.offP p + t1.offP q
 | t, t1, [], q, h => by
  have : t = t1 := by cases t <;> (simp [Ty.atP] at h; exact h)
  subst this
  have h0 : t.offP [] = 0 := by cases t <;> rfl
  simp [h0]
 | .prod a b, t1, false :: p, q, h => by simp only [Ty.atP] at h; simp only [List.cons_append, Ty.offP]; exact offP_append q h
 | .prod a b, t1, true :: p, q, h => by simp only [Ty.atP] at h; simp only [List.cons_append, Ty.offP]; rw [offP_append q h]; omega
 | .unit, t1, b :: p, q, h => by cases b <;> simp [Ty.atP] at h
 | .bool, t1, b :: p, q, h => by cases b <;> simp [Ty.atP] at h
 | .str, t1, b :: p, q, h => by cases b <;> simp [Ty.atP] at h
 | .int k, t1, b :: p, q, h => by cases b <;> simp [Ty.atP] at h
 | .list k, t1, b :: p, q, h => by cases b <;> simp [Ty.atP] at h
theorem fld_sound {off : Nat} {path : List Bool} {x : O} {env : List (Nat × V)} {bl : Blks} {n : Nat} {ob : List Bool} {v : V} {u : Upd} {px : Value} (hx : Rel ι μ (x.ev env) px)
  (hev : evI (mkAr c1 c2 c3 c4 c5) (.fld off path x) env bl n = some (ob, v, u)) : u = [] ∧ ∃ b o, px = .pointer (some ⟨b, o, none⟩) ∧ Rel ι μ v (.pointer (some ⟨b, o + off, none⟩)) := by
 simp only [evI] at hev
 split at hev <;> try (cases hev; done)
 ·rename_i id o hxe
  rw [hxe] at hx
  cases hev
  cases hx with
  | ptr _ _ L hL => exact ⟨rfl, _, _, rfl, by rw [Nat.add_assoc]; exact .ptr id (o + off) L hL⟩
 ·rename_i cs hxe
  rw [hxe] at hx
  split at hev <;> try (cases hev; done)
  rename_i hle
  cases hev
  cases hx with
  | ipc _ b o g h1 h2 h3 =>
   refine ⟨rfl, _, _, rfl, .ipc _ b (o + off) (fun i => g (off + i)) (fun i hi => ?_) (fun i v hv => ?_) (fun i => h3 _)⟩
   ·rw [Nat.add_assoc]; exact h1 _ (by simp at hi; omega)
   ·exact h2 _ v (by simpa using hv)
 ·rename_i id t i p hxe
  rw [hxe] at hx
  split at hev <;> try (cases hev; done)
  rename_i t1 hat
  split at hev <;> try (cases hev; done)
  rename_i hoff
  split at hev <;> try (cases hev; done)
  cases hev
  cases hx with
  | ep _ _ _ _ L hL =>
   refine ⟨rfl, _, _, rfl, ?_⟩
   have := Rel.ep (ι := ι) id t i (p ++ path) L hL
   rw [offP_append path hat, hoff, ← Nat.add_assoc] at this
   exact this
 ·rename_i t y hxe
  rw [hxe] at hx
  split at hev <;> try (cases hev; done)
  rename_i hoff
  split at hev <;> try (cases hev; done)
  rename_i t2 z hget
  cases hev
  cases hx with
  | ip _ _ b o us h1 h2 =>
   obtain ⟨g1, g2, _⟩ := getP_rel hget h2
   rw [hoff] at g1
   exact ⟨rfl, _, _, rfl, .ip t2 z b (o + off) _ (h1.sub off t2.sz) g1⟩
theorem idx_sound {esz : Nat} {x i : O} {env : List (Nat × V)} {bl : Blks} {n : Nat} {ob : List Bool} {v : V} {u : Upd} {px iv : Value} (hx : Rel ι μ (x.ev env) px) (hi : Rel ι μ (i.ev env) iv)
  (hev : evI (mkAr c1 c2 c3 c4 c5) (.idx esz x i) env bl n = some (ob, v, u)) (hob : AllT ob) :
  u = [] ∧ ∃ k m b o len cap, iv = .int k m ∧ px = .slice (some ⟨b, o, none⟩) len cap ∧ 0 ≤ m ∧ m < len ∧ Rel ι μ v (.pointer (some ⟨b, o + m.toNat * esz, none⟩)) := by
 simp only [evI] at hev
 split at hev <;> try (cases hev; done)
 rename_i k m hie
 rw [hie] at hi
 cases hi
 split at hev <;> try (cases hev; done)
 ·rename_i id t lo len hxe
  rw [hxe] at hx
  split at hev <;> try (cases hev; done)
  rename_i hsz
  cases hev
  have hb := hob _ (List.mem_singleton.2 rfl)
  simp only [decide_eq_true_eq] at hb
  have hb1 : m < (len : Int) := hb.2
  cases hx with
  | sl0 => omega
  | sl _ _ _ _ cap L hL h1 h2 h3 =>
   refine ⟨rfl, k, m, _, _, _, _, rfl, rfl, hb.1, hb1, ?_⟩
   have := Rel.ep (ι := ι) id t (lo + m.toNat) [] L hL
   have h0 : t.offP [] = 0 := by cases t <;> rfl
   rw [h0, Nat.add_mul, Nat.add_zero, ← Nat.add_assoc, hsz] at this
   rw [hsz]; exact this
 ·rename_i t xs hxe
  rw [hxe] at hx
  split at hev <;> try (cases hev; done)
  rename_i hsz
  cases hev
  have hb := hob _ (List.mem_singleton.2 rfl)
  simp only [decide_eq_true_eq] at hb
  have hb1 : m < (xs.length : Int) := hb.2
  cases hx with
  | lst _ _ _ hd =>
   obtain ⟨a, cap, e, hle, hd⟩ := hd
   cases e
   rcases hd with rfl | ⟨b, o, us, rfl, hrd, hc⟩
   ·simp at hb1; omega
   ·have hxi : xs[m.toNat]? = some (xs.getD m.toNat t.zero) := by simp [List.getD, show m.toNat < xs.length by omega]
    have hcell := hc.at (fun _ _ => CellsD.length) hxi
    refine ⟨rfl, k, m, _, _, _, _, rfl, rfl, hb.1, hb1, ?_⟩
    rw [← hsz]
    exact .ip t _ b _ _ (hrd.sub (m.toNat * t.sz) t.sz) hcell
theorem minmax_max {k : IntKind} : ∀ {a z : Int} {vs : List V} {xs : List Value}, minmaxI (mkAr c1 c2 c3 c4 c5) true k a vs = some z → RelL ι μ vs xs → (xs.foldlM Builtin.max2 (.int k a)).run P w = .ok (.int k z) w
 | a, z, [], xs, h, hr => by cases h; rw [hr.of_nil]; rfl
 | a, z, v :: r, xs, h, hr => by
  obtain ⟨x, xs', rfl, h1, h2⟩ := hr.uncons
  cases v <;> simp only [minmaxI] at h <;> try (cases h; done)
  split at h <;> try (cases h; done)
  rename_i hk; subst hk
  cases h1
  simp only [List.foldlM_cons, Builtin.max2, Sem.run_bind, Sem.run_pure, Result.andThen_ok]
  exact minmax_max h h2
theorem minmax_min {k : IntKind} : ∀ {a z : Int} {vs : List V} {xs : List Value}, minmaxI (mkAr c1 c2 c3 c4 c5) false k a vs = some z → RelL ι μ vs xs → (xs.foldlM Builtin.min2 (.int k a)).run P w = .ok (.int k z) w
 | a, z, [], xs, h, hr => by cases h; rw [hr.of_nil]; rfl
 | a, z, v :: r, xs, h, hr => by
  obtain ⟨x, xs', rfl, h1, h2⟩ := hr.uncons
  cases v <;> simp only [minmaxI] at h <;> try (cases h; done)
  split at h <;> try (cases h; done)
  rename_i hk; subst hk
  cases h1
  simp only [List.foldlM_cons, Builtin.min2, Sem.run_bind, Sem.run_pure, Result.andThen_ok]
  exact minmax_min h h2
theorem zero1_rel {t : Ty} {v : Value} (h : zero1 t v = true) : CellsD ι t t.zero [v] := by
 unfold zero1 at h
 split at h <;> try (cases h; done)
 ·simp at h; subst h; rfl
 ·rename_i s
  have : s = ByteArray.empty := ByteArray.size_eq_zero_iff.1 (by simpa using h)
  subst this; rfl
 ·simp at h; obtain ⟨rfl, rfl⟩ := h; rfl
 ·exact ⟨none, 0, rfl, Nat.le_refl _, .inl rfl⟩
theorem zeroOk_rel : ∀ {t : Ty} {vs r : List Value}, zeroOk t vs = some r → ∃ us, vs = us ++ r ∧ CellsD ι t t.zero us
 | .unit, vs, r, h => by cases h; exact ⟨[], rfl, rfl⟩
 | .bool, vs, r, h => by
  cases vs <;> simp [zeroOk] at h
  obtain ⟨h, rfl⟩ := h; exact ⟨[_], rfl, zero1_rel h⟩
 | .str, vs, r, h => by
  cases vs <;> simp [zeroOk] at h
  obtain ⟨h, rfl⟩ := h; exact ⟨[_], rfl, zero1_rel h⟩
 | .int k, vs, r, h => by
  cases vs <;> simp [zeroOk] at h
  obtain ⟨h, rfl⟩ := h; exact ⟨[_], rfl, zero1_rel h⟩
 | .list t, vs, r, h => by
  cases vs <;> simp [zeroOk] at h
  obtain ⟨h, rfl⟩ := h; exact ⟨[_], rfl, zero1_rel h⟩
 | .prod a b, vs, r, h => by
  simp only [zeroOk] at h
  split at h <;> try (cases h; done)
  rename_i r1 h1
  obtain ⟨us, rfl, hu⟩ := zeroOk_rel h1
  obtain ⟨ws, rfl, hw⟩ := zeroOk_rel h
  exact ⟨us ++ ws, by simp, us, ws, rfl, hu, hw⟩
end
end Go.AM
end
section
namespace Go.AM
section
variable {P : Program} {Y : Ctx} {ι ι' : Iota} {μ μ' : Mu} {H : Heap} {w w' : World}
 {c1 : Nat → List V → Heap → (V → Heap → Prop) → Prop} {c2 : Nat → List V → V → Prop} {c3 : C → St → (Ex → St → Prop) → Prop}
 {c4 : Nat → List V → Heap → (V → Heap → Prop) → Prop} {c5 : O → List Nat → C → C → St → (Ex → St → Prop) → Prop}
theorem intLit_rel {v : V} {z : Int} {x : Value} (h : intLit v = some z) (hr : Rel ι μ v x) : ∃ k, x = .int k z := by
 cases v <;> simp [intLit] at h
 subst h; cases hr; exact ⟨_, rfl⟩
theorem optInt_rel {env : List (Nat × V)} {a : Act} (he : EnvR ι μ env a.tmps) {d z : Int} {o : Option O} {oo : Option Operand} (ht : trOO oo = some o) (h : optInt env d o = some z) :
  (oo = none ∧ z = d) ∨ ∃ x k, oo = some x ∧ a.eval x = .int k z := by
 cases oo with
 | none => cases ht; simp [optInt] at h; exact .inl ⟨rfl, h.symm⟩
 | some x =>
  simp only [trOO] at ht
  cases hx : trO x with
  | none => simp [hx] at ht
  | some y =>
   simp [hx] at ht; subst ht
   simp only [optInt] at h
   obtain ⟨k, hk⟩ := intLit_rel h (trO_rel he hx)
   exact .inr ⟨x, k, rfl, hk⟩
theorem slice_sound {env : List (Nat × V)} {a : Act} (he : EnvR ι μ env a.tmps) {t e : TypeId} {esz : Nat} (ht : P.underlying t = some (.slice e)) (hsz : sizeT P e = some esz) {x : O} {px : Value} (hx : Rel ι μ (x.ev env) px)
  {lo hi mx : Option O} {lo' hi' mx' : Option Operand} (h1 : trOO lo' = some lo) (h2 : trOO hi' = some hi) (h3 : trOO mx' = some mx) {bl : Blks} {n : Nat} {ob : List Bool} {v : V} {u : Upd}
  (hev : evI (mkAr c1 c2 c3 c4 c5) (.slice esz x lo hi mx) env bl n = some (ob, v, u)) (hob : AllT ob) :
  u = [] ∧ ∃ y, (Instr.sliceAt t px (lo'.map a.eval) (hi'.map a.eval) (mx'.map a.eval)).run P w = .ok y w ∧ Rel ι μ v y := by
 have hsize : ∀ w : World, (sizeOf e).run P w = .ok esz w := fun w => by
  unfold sizeT at hsz
  cases hq : P.info? e with
  | none => simp [hq] at hsz
  | some i => simp [hq] at hsz; subst hsz; simp [sizeOf, typeInfo, hq]
 -- the run, between bounds
 have run : ∀ (base : Option Addr) (len cap : Nat) (l h : Nat), (∃ z : Int, z.toNat = l ∧ 0 ≤ z ∧ ((lo' = none ∧ z = 0) ∨ ∃ x k, lo' = some x ∧ a.eval x = .int k z)) →
   (∃ z : Int, z.toNat = h ∧ 0 ≤ z ∧ ((hi' = none ∧ z = len) ∨ ∃ x k, hi' = some x ∧ a.eval x = .int k z)) → l ≤ h → h ≤ len → len ≤ cap → mx' = none →
   (Instr.sliceAt t (.slice base len cap) (lo'.map a.eval) (hi'.map a.eval) (mx'.map a.eval)).run P w = .ok (.slice (if cap = l then base else base.map (·.add (l * esz))) (h - l) (cap - l)) w := by
  intro base len cap l h hl hh hlh hhl hlc hm
  subst hm
  obtain ⟨zl, rfl, hl0, hl⟩ := hl
  obtain ⟨zh, rfl, hh0, hh⟩ := hh
  simp only [Instr.sliceAt, Instr.slice, Sem.run_bind, run_underlying ht, Result.andThen_ok, Instr.sliceBounds]
  rcases hl with ⟨rfl, rfl⟩ | ⟨xl, kl, rfl, hl⟩ <;> rcases hh with ⟨rfl, rfl⟩ | ⟨xh, kh, rfl, hh⟩
  ·simp [hsize]
  ·have q1 : zh ≤ (cap : Int) := by omega
   simp [hsize, hh, Instr.sliceBound, asIntOf, hh0, q1]
  ·have q1 : zl ≤ (len : Int) := by omega
   simp [hsize, hl, Instr.sliceBound, asIntOf, hl0, q1]
  ·have q1 : zh ≤ (cap : Int) := by omega
   have q2 : zl ≤ zh := by omega
   simp [hsize, hl, hh, Instr.sliceBound, asIntOf, hl0, hh0, q1, q2]
   intro hc; omega
 simp only [evI] at hev
 split at hev
 ·rename_i mO
  split at hev <;> try (cases hev; done)
  rename_i hO
  split at hev <;> try (cases hev; done)
  rename_i za zb zc hza hzb hzc
  -- the run with a bound on the capacity: nothing is left
  have fin : ∀ (base : Option Addr) (len cap : Nat), za = 0 → zb = 0 → zc = 0 → (Instr.sliceAt t (.slice base len cap) (lo'.map a.eval) (hi'.map a.eval) (mx'.map a.eval)).run P w = .ok (.slice base 0 0) w := by
   intro base len cap e1 e2 e3
   subst e1; subst e2; subst e3
   have g1 := optInt_rel he (d := 0) h1 hzc
   have g2 : ∃ x k, hi' = some x ∧ a.eval x = .int k 0 := by
    rcases optInt_rel he (d := 1) h2 (z := 0) (by simpa [optInt] using hzb) with ⟨e, e'⟩ | h
    ·cases e'
    ·exact h
   have g3 : ∃ x k, mx' = some x ∧ a.eval x = .int k 0 := by
    rcases optInt_rel he (d := 1) h3 (z := 0) (by simpa [optInt] using hza) with ⟨e, e'⟩ | h
    ·cases e'
    ·exact h
   obtain ⟨xh, kh, rfl, hh⟩ := g2
   obtain ⟨xm, km, rfl, hm⟩ := g3
   simp only [Instr.sliceAt, Instr.slice, Sem.run_bind, run_underlying ht, Result.andThen_ok, Instr.sliceBounds]
   rcases g1 with ⟨rfl, _⟩ | ⟨xl, kl, rfl, hl⟩
   ·simp [hsize, hh, hm, Instr.sliceBound, asIntOf]
   ·simp [hsize, hh, hm, hl, Instr.sliceBound, asIntOf]
  have obs : ob = [za == 0, zb == 0, zc == 0] → za = 0 ∧ zb = 0 ∧ zc = 0 := fun e => by
   subst e
   have e1 := hob _ (List.mem_cons_self)
   have e2 := hob _ (List.mem_cons_of_mem _ (List.mem_cons_self))
   have e3 := hob _ (List.mem_cons_of_mem _ (List.mem_cons_of_mem _ (List.mem_cons_self)))
   simp at e1 e2 e3; exact ⟨e1, e2, e3⟩
  split at hev <;> try (cases hev; done)
  ·rename_i hxe; rw [hxe] at hx
   cases hev
   obtain ⟨e1, e2, e3⟩ := obs rfl
   cases hx with
   | sl => exact ⟨rfl, _, fin _ _ _ e1 e2 e3, .nsl _⟩
   | sl0 => exact ⟨rfl, _, fin _ _ _ e1 e2 e3, .nsl _⟩
  ·rename_i hxe; rw [hxe] at hx
   cases hev
   obtain ⟨e1, e2, e3⟩ := obs rfl
   cases hx with
   | lst _ _ _ hd =>
    obtain ⟨b, cap, e, _⟩ := hd
    cases e
    exact ⟨rfl, _, fin _ _ _ e1 e2 e3, .nsl _⟩
  ·rename_i hxe; rw [hxe] at hx
   cases hev
   obtain ⟨e1, e2, e3⟩ := obs rfl
   cases hx with
   | nsl => exact ⟨rfl, _, fin _ _ _ e1 e2 e3, .nsl _⟩
 ·have hmx : mx' = none := by
   cases mx' with
   | none => rfl
   | some q => simp only [trOO] at h3; cases hq : trO q <;> simp [hq] at h3
  split at hev <;> try (cases hev; done)
  ·rename_i id te l len hxe
   rw [hxe] at hx
   split at hev <;> try (cases hev; done)
   rename_i hsz'
   split at hev <;> try (cases hev; done)
   rename_i za zb hza hzb
   cases hev
   have e1 := hob _ (List.mem_cons_self)
   have e2 := hob _ (List.mem_cons_of_mem _ (List.mem_cons_self))
   have e3 := hob _ (List.mem_cons_of_mem _ (List.mem_cons_of_mem _ (List.mem_cons_self)))
   simp only [decide_eq_true_eq] at e1 e2 e3
   have e3' : zb ≤ (len : Int) := e3
   have g1 := optInt_rel he h1 hza
   have g2 := optInt_rel he h2 hzb
   refine ⟨rfl, ?_⟩
   cases hx with
   | sl0 _ _ _ base =>
    refine ⟨_, run base 0 0 za.toNat zb.toNat ⟨za, rfl, e1, g1⟩ ⟨zb, rfl, by omega, g2⟩ (by omega) (by omega) (by omega) hmx, ?_⟩
    have ha : za.toNat = 0 := by omega
    have hb : zb.toNat = 0 := by omega
    simp only [ha, hb, Nat.sub_self, if_true]
    exact .sl0 _ _ _ _
   | sl _ _ _ _ cap L hL q1 q2 q3 =>
    refine ⟨_, run _ len cap za.toNat zb.toNat ⟨za, rfl, e1, g1⟩ ⟨zb, rfl, by omega, g2⟩ (by omega) (by omega) q1 hmx, ?_⟩
    by_cases hc : cap = za.toNat
    ·rw [if_pos hc, show zb.toNat - za.toNat = 0 by omega, show cap - za.toNat = 0 by omega]
     exact .sl0 _ _ _ _
    ·rw [if_neg hc]
     have := Rel.sl (ι := ι) id te (l + za.toNat) (zb.toNat - za.toNat) (cap - za.toNat) L hL (by omega)
      (by rw [show l + za.toNat + (cap - za.toNat) = l + cap by omega]; exact q2) (by omega)
     simp only [Option.map_some, Addr.add_mid]
     rw [Nat.add_mul, ← Nat.add_assoc, hsz'] at this
     rw [hsz']; exact this
  ·rename_i te xs hxe
   rw [hxe] at hx
   split at hev <;> try (cases hev; done)
   rename_i hsz'
   split at hev <;> try (cases hev; done)
   rename_i za zb hza hzb
   cases hev
   have e1 := hob _ (List.mem_cons_self)
   have e2 := hob _ (List.mem_cons_of_mem _ (List.mem_cons_self))
   have e3 := hob _ (List.mem_cons_of_mem _ (List.mem_cons_of_mem _ (List.mem_cons_self)))
   simp only [decide_eq_true_eq] at e1 e2 e3
   have e3' : zb ≤ (xs.length : Int) := e3
   have g1 := optInt_rel he h1 hza
   have g2 := optInt_rel he h2 hzb
   refine ⟨rfl, ?_⟩
   cases hx with
   | lst _ _ _ hd =>
    obtain ⟨base, cap, e, hle, hd⟩ := hd
    cases e
    refine ⟨_, run base xs.length cap za.toNat zb.toNat ⟨za, rfl, e1, g1⟩ ⟨zb, rfl, by omega, g2⟩ (by omega) (by omega) hle hmx, ?_⟩
    have hlen : ((xs.drop za.toNat).take (zb.toNat - za.toNat)).length = zb.toNat - za.toNat := by simp; omega
    refine .lst _ _ _ ⟨_, _, by rw [hlen], by omega, ?_⟩
    by_cases hz : zb.toNat - za.toNat = 0
    ·left; rw [hz]; simp
    ·right
     rcases hd with rfl | ⟨b, o, us, rfl, hrd, hc⟩
     ·simp at e3'; omega
     ·rw [if_neg (by omega)]
      refine ⟨b, o + za.toNat * esz, (us.drop (za.toNat * te.sz)).take ((zb.toNat - za.toNat) * te.sz), by simp [Addr.add_mid], ?_, ?_⟩
      ·rw [← hsz']; exact hrd.sub _ _
      ·exact (hc.drop (fun _ _ => CellsD.length) _).take (fun _ _ => CellsD.length) _
end
end Go.AM
end
section
namespace Go.AM
section
variable {P : Program} {Y : Ctx} {ι ι' : Iota} {μ μ' : Mu} {H : Heap} {w w' : World}
 {c1 : Nat → List V → Heap → (V → Heap → Prop) → Prop} {c2 : Nat → List V → V → Prop} {c3 : C → St → (Ex → St → Prop) → Prop}
 {c4 : Nat → List V → Heap → (V → Heap → Prop) → Prop} {c5 : O → List Nat → C → C → St → (Ex → St → Prop) → Prop}
theorem fieldAtT_some {s : TypeId} {f n : Nat} {fd : Field} (h : fieldAtT P s f = some (fd, n)) : ∃ fs, P.underlying s = some (.struct fs) ∧ fs[f]? = some fd := by
 unfold fieldAtT at h
 split at h <;> try (cases h; done)
 rename_i fs hu
 split at h <;> try (cases h; done)
 rename_i fd' hf
 cases h
 exact ⟨fs, hu, hf⟩
theorem sizeT_run {t : TypeId} {k : Nat} (h : sizeT P t = some k) : ∃ i, P.info? t = some i ∧ i.size = k ∧ ∀ w : World, (sizeOf t).run P w = .ok k w := by
 unfold sizeT at h
 cases hq : P.info? t with
 | none => simp [hq] at h
 | some i => simp [hq] at h; subst h; exact ⟨i, rfl, rfl, fun w => by simp [sizeOf, typeInfo, hq]⟩
theorem aggT_run {t : TypeId} {g : Bool} (h : aggT P t = some g) : ∀ w : World, (isAgg t).run P w = .ok g w := by
 intro w
 unfold aggT at h
 split at h
 ·rename_i hu; cases h; unfold isAgg; rw [Sem.run_bind, run_underlying hu w]; rfl
 ·rename_i hu; cases h; unfold isAgg; rw [Sem.run_bind, run_underlying hu w]; rfl
 ·rename_i d h1 h2 hu
  cases h; unfold isAgg; rw [Sem.run_bind, run_underlying hu w]
  cases d <;> simp_all
 ·cases h
theorem wrapX_false {xs : List Value} {y : Value} (h : wrapX false xs = some y) : xs = [y] := by
 match xs, h with
 | [c], h => cases h; rfl
/-- The elements of a literal, in their order. -/
theorem inOrder_rel {env : List (Nat × V)} {a : Act} (he : EnvR ι μ env a.tmps) : ∀ {parts : List (Nat × Operand)} {n : Nat} {xs : List O}, inOrder n parts = some xs →
  RelL ι μ (xs.map (·.ev env)) (parts.map fun p => a.eval p.2) ∧ (parts.map fun (i, x) => (i, a.eval x)) = ((parts.map fun p => a.eval p.2).zipIdx n).map fun (v, i) => (i, v)
 | [], n, xs, h => by cases h; exact ⟨.nil, rfl⟩
 | (i, x) :: r, n, xs, h => by
  unfold inOrder at h
  split at h <;> try (cases h; done)
  rename_i hi; subst hi
  split at h <;> try (cases h; done)
  rename_i y ys hy hys
  cases h
  obtain ⟨h1, h2⟩ := inOrder_rel he hys
  exact ⟨.cons (trO_rel he hy) h1, by simp [h2]⟩
theorem rep_flatten (zs : List Value) : ∀ (m : Nat), ((Array.range (m * zs.length)).map (fun i => zs.toArray[i % zs.toArray.size]!)).toList = (List.replicate m zs).flatten := by
 intro m
 apply List.ext_getElem?
 intro i
 induction m generalizing i with
 | zero => simp
 | succ m ih =>
  rw [List.replicate_succ, List.flatten_cons]
  by_cases hi : i < zs.length
  ·rw [List.getElem?_append_left hi]
   have : i < (m + 1) * zs.length := by rw [Nat.add_mul]; omega
   simp [this, Nat.mod_eq_of_lt hi, hi]
  ·rw [List.getElem?_append_right (by omega), ← ih]
   by_cases h2 : i < (m + 1) * zs.length
   ·have h3 : i - zs.length < m * zs.length := by rw [Nat.add_mul, Nat.one_mul] at h2; omega
    have h4 : i % zs.length = (i - zs.length) % zs.length := by
     rw [Nat.mod_eq_sub_mod (by omega)]
    simp [h2, h3, h4]
   ·have h3 : ¬ i - zs.length < m * zs.length := by rw [Nat.add_mul, Nat.one_mul] at h2; omega
    simp [h2, h3]
theorem mkslice_sound (h : Inv P Y ι μ H w) {nid : Nat} (hn : μ nid = none) {t e : TypeId} {ty : Ty} {k : Nat} {i : TypeInfo} {z : Value} (ht : P.underlying t = some (.slice e)) (he : elemOk P e = some k) (hi : P.info? e = some i) (hz : i.zero = some z)
  (h0 : zeroOk ty z.cells.toList = some []) (hk : ty.sz = k) {kk : IntKind} {m : Int} (hm0 : 0 ≤ m) (hm : m < (bigL : Int)) :
  ∃ μ' x w', (Instr.makeSlice t (.int kk m) (.int kk m)).run P w = .ok x w' ∧ μ.le μ' ∧ (∀ id, id ≠ nid → μ' id = μ id) ∧ Inv P Y ι μ' ⟨max H.next (nid + 1), (nid, .arr ty (List.replicate m.toNat ty.zero) false) :: bdel nid H.bl⟩ w' ∧
   Rel ι μ' (.sl nid ty 0 m.toNat) x := by
 obtain ⟨i', z', hi', hz', hby, hzs, hsz⟩ := elemOk_some he
 rw [hi] at hi'; cases hi'
 rw [hz] at hz'; cases hz'
 obtain ⟨us, hus, hcell⟩ := zeroOk_rel (ι := ι) h0
 simp only [List.append_nil] at hus
 have hw : IntKind.i64.wrap m = m := by
  apply wrap_rng
  unfold bigL at hm
  simp [IntKind.min, IntKind.max, IntKind.bits, IntKind.signed]
  omega
 have hby2 : (i.bytes : Int) * m ≤ 2 ^ 48 := by
  have h1 : (i.bytes : Int) ≤ 1024 := by unfold maxBytes at hby; omega
  have h2 : m ≤ 1073741824 := by unfold bigL at hm; omega
  have := Int.mul_le_mul h1 h2 hm0 (by omega)
  omega
 have hlt : ¬ (2 ^ 48 < (i.bytes : Int) * m) := by omega
 have hcat := CatR.rep (D := CellsD ι ty) (hus ▸ hcell) m.toNat
 obtain ⟨μ', m1, m0, m2, m3⟩ := lay_arr (rest := []) h hn hcat e m.toNat (by simp) (by simp [hcat.length (fun _ _ => CellsD.length)])
 have hrep := rep_flatten z.cells.toList m.toNat
 refine ⟨μ', .slice (some ⟨w.heap.size, 0, none⟩) m.toNat m.toNat, _, ?_, m1, m0, m2, by simpa using m3⟩
 have harr : ((List.replicate m.toNat z.cells.toList).flatten ++ []).toArray = (Array.range (m.toNat * i.size)).map (fun j => z.cells[j % z.cells.size]!) := by
  apply Array.ext'
  rw [List.append_nil, ← hrep]
  simp [hzs]
 rw [harr]
 simp only [Instr.makeSlice, Sem.run_bind, run_underlying ht, Result.andThen_ok, asInt, asIntOf, Sem.run_pure, typeInfo, run_program, hi, hw]
 rw [if_neg (by simp; omega)]
 simp only [run_askRoom, Result.andThen_ok, sizeOf, Sem.run_bind, typeInfo, run_program, hi, Sem.run_pure]
 split
 ·rename_i h0
  have hr0 : Array.range 0 = #[] := rfl
  simp [h0, newRow, hr0]
 ·simp [zeroValue, typeInfo, hi, hz, newRow]
/-- The two ways in which an operation ends. -/
theorem evI_sound (h : Inv P Y ι μ H w) {nid : Nat} (hn : μ nid = none) {env : List (Nat × V)} {a : Act} (he : EnvR ι μ env a.tmps) {o : Oper} {i : I} (hI : trI P o.op = some i) {ob : List Bool} {v : V} {u : Upd}
  (hev : evI (mkAr c1 c2 c3 c4 c5) i env H.bl nid = some (ob, v, u)) (hob : AllT ob) : OpOk P Y ι μ H w nid (execOp a.eval o) v u i.lays := by
 obtain ⟨dst, op, ty, pos, after, guard⟩ := o
 simp only at hI
 cases op <;> simp only [trI] at hI <;> try (cases hI; done)
 case move x =>
  cases hx : trO x <;> simp [hx] at hI
  subst hI; cases hev
  exact .pure h rfl (trO_rel he hx)
 case assign x =>
  cases hx : trO x <;> simp [hx] at hI
  subst hI; cases hev
  exact .pure h rfl (trO_rel he hx)
 case pick c x y =>
  split at hI <;> try (cases hI; done)
  rename_i c' x' y' hc hx hy
  cases hI
  have rc := trO_rel he hc
  have rx := trO_rel he hx
  have ry := trO_rel he hy
  simp only [evI] at hev
  split at hev <;> try (cases hev; done)
  ·rename_i hce; rw [hce] at rc; cases hev
   generalize hg : a.eval c = cv at rc
   cases rc
   exact .pure h (by simp [execOp, hg, asBool]) rx
  ·rename_i hce; rw [hce] at rc; cases hev
   generalize hg : a.eval c = cv at rc
   cases rc
   exact .pure h (by simp [execOp, hg, asBool]) ry
  ·rename_i b hce; rw [hce] at rc
   split at hev <;> try (cases hev; done)
   rename_i p q hp hq
   cases hev
   generalize hg : a.eval c = cv at rc
   cases rc
   have ex := asB_rel hp rx
   have ey := asB_rel hq ry
   exact .pure h (x := .bool (if b then p else q)) (by cases b <;> simp [execOp, hg, asBool, ex, ey]) (.bool _)
 case alloc e =>
  split at hI <;> try (cases hI; done)
  rename_i inf hinf
  split at hI <;> try (cases hI; done)
  rename_i z hz
  cases hcs : ofCs z.cells.toList <;> simp [hcs] at hI
  subst hI; cases hev
  obtain ⟨μ', m1, m0, m2, m3⟩ := lay_cells h hn (ofCs_rel hcs) (ofCs_one hcs) e
  exact ⟨ι, μ', _, _, .inl (by simp [execOp, Instr.alloc, zeroValue, typeInfo, hinf, hz, newVar, newRow]; rfl), Iota.le_refl _, m1, m0, by simpa [bupd, I.lays, nextOf] using m2, m3⟩
 case box e x =>
  cases hx : trO x <;> simp [hx] at hI
  subst hI
  simp only [evI] at hev
  split at hev <;> try (cases hev; done)
  rename_i cs hcs
  cases hev
  obtain ⟨r1, r2⟩ := (trO_rel he hx).cells hcs
  obtain ⟨μ', m1, m0, m2, m3⟩ := lay_cells h hn r1 r2 e
  exact ⟨ι, μ', _, _, .inl (by simp [execOp, Instr.box, newVar, newRow]; rfl), Iota.le_refl _, m1, m0, by simpa [bupd, I.lays, nextOf] using m2, m3⟩
 case build t parts =>
  split at hI <;> try (cases hI; done)
  rename_i it fields hit hu
  split at hI <;> try (cases hI; done)
  rename_i z places hz hp
  split at hI <;> try (cases hI; done)
  rename_i zs ps hzs hps
  cases hI
  simp only [evI] at hev
  split at hev <;> try (cases hev; done)
  rename_i cs hcs
  cases hev
  obtain ⟨out, f1, f2, f3⟩ := partsOf_rel he hps hcs (ofCs_rel hzs) (ofCs_one hzs)
  have hb : P.built t (parts.map fun (i, x) => (i, a.eval x)).toList = some out := by
   simp only [Program.built, hit, hu, hz, hp]
   rw [Array.toList_map]; exact f1
  have hr := run_build (P := P) w t (parts.map fun (i, x) => (i, a.eval x)) out hb
  refine .pure h (x := .agg out) ?_ (.agg _ _ (by simpa using f2.1) (fun i v x hv hx => f2.2 i v x hv (by simpa using hx)) f3)
  simp only [execOp, Sem.run_bind, hr]; rfl
 case buildSlice t n parts =>
  split at hI <;> try (cases hI; done)
  rename_i e hu
  split at hI <;> try (cases hI; done)
  rename_i tye k xs hty hek hin
  split at hI <;> try (cases hI; done)
  rename_i hcond
  obtain ⟨hsz, hlen, hbig⟩ := hcond
  cases hI
  simp only [evI] at hev
  split at hev <;> try (cases hev; done)
  rename_i ys u0 hvl
  cases hev
  obtain ⟨q1, q2⟩ := inOrder_rel he hin
  obtain ⟨z1, z2, z3, z4⟩ := ofVl_rel hvl q1
  obtain ⟨ι', hle, hI', hF⟩ := freezeAll z1 h
  have hcat := z4 ι' hle hF
  obtain ⟨inf, zv, hi, hz, _, hzs, hisz⟩ := elemOk_some hek
  have hvl' : (parts.toList.map fun p => a.eval p.2).length = n := by have := q1.1; simp at this; simp; omega
  obtain ⟨out, f1, f2⟩ := fill_order (k := k) (parts.toList.map fun p => a.eval p.2) 0
   ((Array.range (n * k)).map fun j => (if n * k = 0 then #[] else zv.cells)[j % (if n * k = 0 then #[] else zv.cells).size]!) (fun v hv => by rw [z3 v hv, hsz]) (by simp [← hvl'])
  obtain ⟨μ', m1, m0, m2, m3⟩ := lay_arr (rest := []) hI' hn hcat e ys.length (Nat.le_refl _) (by rw [hcat.length (fun _ _ => CellsD.length)]; simp)
  have hn : ys.length = xs.length := by simpa using z2
  refine ⟨ι', μ', .slice (some ⟨w.heap.size, 0, none⟩) n n, (w.alloc (.cells ((List.flatMap (fun (x : Value) => x.cells.toList) (List.map (fun (p : Nat × Operand) => a.eval p.2) parts.toList)) ++ []).toArray e)), .inl ?_, hle, m1, m0, ?_, ?_⟩
  rotate_left
  ·rw [bupd_append]; simpa [bupd, I.lays, nextOf] using m2
  ·simpa [hn, hlen] using m3
  ·have hout : ((List.flatMap (fun (x : Value) => x.cells.toList) (List.map (fun (p : Nat × Operand) => a.eval p.2) parts.toList)) ++ []).toArray = out := by
    apply Array.ext'; simp [f2]
   rw [hout]
   rw [← q2, ← hisz] at f1
   have hif : (if n * inf.size = 0 then #[] else zv.cells) = (if n * k = 0 then #[] else zv.cells) := by rw [hisz]
   have hmap : (parts.map fun (i, x) => (i, a.eval x)).toList = parts.toList.map fun (i, x) => (i, a.eval x) := by simp
   simp only [execOp, Instr.buildSlice, Sem.run_bind, run_underlying hu, Result.andThen_ok, sizeOf, typeInfo, run_program, hi, Sem.run_pure]
   rw [if_neg (by rw [hisz]; omega)]
   by_cases h0 : n * inf.size = 0
   ·have h0' : n * k = 0 := by rw [← hisz]; exact h0
    rw [hisz] at f1
    simp [h0'] at f1
    simp [h0', hisz, f1, newRow]
   ·have h0' : ¬ n * k = 0 := by rw [← hisz]; exact h0
    rw [hisz] at f1
    simp [h0'] at f1
    simp [h0', hisz, zeroValue, typeInfo, hi, hz, f1, newRow]
 case load t x =>
  split at hI <;> try (cases hI; done)
  rename_i k g x' hk hg hx
  cases hI
  obtain ⟨rfl, y, hy, hr⟩ := load_sound h hk hg (trO_rel he hx) hev hob
  exact .pure h (by simp only [execOp, Sem.run_bind, hy]; rfl) hr
 case store t pa x =>
  split at hI <;> try (cases hI; done)
  rename_i k a' x' hk ha hx
  cases hI
  obtain ⟨ι', w', hy, hle, hinv, rfl⟩ := store_sound h hk (trO_rel he hx) (trO_rel he ha) hev hob
  exact ⟨ι', μ, undef, w', .inr ⟨by simp only [execOp, Sem.run_bind, hy]; rfl, rfl⟩, hle, Mu.le_refl _, fun _ _ => rfl, hinv, .any _⟩
 case binOp op t x y yt =>
  split at hI <;> try (cases hI; done)
  rename_i x' y' hx hy
  have rx := trO_rel he hx
  have ry := trO_rel he hy
  split at hI
  ·rename_i ks hks
   split at hI <;> try (cases hI; done)
   rename_i ng hng
   cases hI
   simp only [evI] at hev
   split at hev <;> try (cases hev; done)
   rename_i as bs hxe hye
   rw [hxe] at rx
   rw [hye] at ry
   split at hev <;> try (cases hev; done)
   rename_i c hc
   cases hev
   generalize hgx : a.eval x = xv at rx
   generalize hgy : a.eval y = yv at ry
   cases rx with
   | agg _ xa p1 p2 p3 =>
   cases ry with
   | agg _ ya q1 q2 q3 =>
   unfold structEq at hks
   split at hks <;> try (cases hks; done)
   rename_i fs hu
   split at hks <;> try (cases hks; done)
   rename_i hcond
   have hfo : P.fieldsOf t = fs := by simp [Program.fieldsOf, hu]
   have hrun : (Op.equal t (.agg xa) (.agg ya)).run P w = .ok c w := by
    have e1 := run_equalIn_struct (P := P) w 9999 t xa ya (by rw [hfo]; exact hu) hcond.2
    rw [hfo] at e1
    have e2 := eqCells_rel (d := 9998) (w := w) (P := P) (ι := ι) (μ := μ) hks (xs := xa) (ys := ya) ⟨by simpa using p1, fun i v x hv hx => p2 i v x hv (by simpa using hx)⟩
     ⟨by simpa using q1, fun i v x hv hx => q2 i v x hv (by simpa using hx)⟩ hc
    exact e1.trans e2
   have hguard : ∀ op', (eqGuard op' t x y (.agg xa) (.agg ya)).run P w = .ok () w := fun op' => by
    cases op' <;> first | rfl | simp [eqGuard, hcond.1]
   cases op <;> simp [eqlOp] at hng <;> subst hng
   ·exact .pure h (x := .bool c) (by simp only [execOp, Sem.run_bind, hgx, hgy, hguard, Result.andThen_ok, binOp, hrun]; rfl) (.bool _)
   ·exact .pure h (x := .bool (!c)) (by simp only [execOp, Sem.run_bind, hgx, hgy, hguard, Result.andThen_ok, binOp, hrun]; rfl) (.bool _)
  ·split at hI <;> try (cases hI; done)
   ·rename_i hu
    cases hb : eqlOp op <;> simp [hb] at hI
    subst hI
    simp only [evI] at hev
    split at hev <;> try (cases hev; done)
    rename_i p q hp hq
    cases hev
    have ex := asB_rel hp rx
    have ey := asB_rel hq ry
    have hg := run_eqGuard_plain (P := P) (w := w) op t x y (a := .bool p) (b := .bool q) (by simp) (by simp)
    have heq : (Op.equal t (.bool p) (.bool q)).run P w = .ok (p == q) w := run_equalIn_bool' w 9999 t p q hu
    cases op <;> simp [eqlOp] at hb <;> subst hb
    ·exact .pure h (x := .bool (p == q)) (by simp only [execOp, Sem.run_bind, ex, ey, hg, Result.andThen_ok, binOp, heq]; rfl) (.bool _)
    ·exact .pure h (x := .bool (!(p == q))) (by simp only [execOp, Sem.run_bind, ex, ey, hg, Result.andThen_ok, binOp, heq]; rfl) (.bool _)
   ·cases hb : binOf op <;> simp [hb] at hI
    subst hI
    obtain ⟨rfl, z, hz, hr⟩ := bin_sound (w := w) hb (t := t) (xo := x) (yo := y) rx ry rfl rfl hev hob
    exact .pure h (by simp only [execOp, Sem.run_bind] at hz ⊢; rw [hz]; rfl) hr
   ·cases hb : binOf op <;> simp [hb] at hI
    subst hI
    obtain ⟨rfl, z, hz, hr⟩ := bin_sound (w := w) hb (t := t) (xo := x) (yo := y) rx ry rfl rfl hev hob
    exact .pure h (by simp only [execOp, Sem.run_bind] at hz ⊢; rw [hz]; rfl) hr
 case unOp op t x =>
  cases op <;> simp only [trI] at hI <;> try (cases hI; done)
  all_goals
   cases hx : trO x <;> simp [hx] at hI
   subst hI
   have rx := trO_rel he hx
   simp only [evI] at hev
   generalize hg : a.eval x = xv at rx
  ·split at hev <;> try (cases hev; done)
   rename_i k n hxe
   rw [hxe] at rx
   cases hev
   cases rx
   have hw := wrap_rng (hob _ (List.mem_singleton.2 rfl))
   simp only [Int.zero_sub] at hw
   exact .pure h (x := .int k (0 - n)) (by simp [execOp, hg, Op.unary, Op.intArith, hw]) (.int _ _)
  ·split at hev <;> try (cases hev; done)
   ·rename_i b hxe
    rw [hxe] at rx
    cases hev
    cases rx
    exact .pure h (x := .bool (!b)) (by simp [execOp, hg, Op.unary]) (.tf _)
   ·rename_i b hxe
    rw [hxe] at rx
    cases hev
    cases rx
    exact .pure h (x := .bool (!b)) (by simp [execOp, hg, Op.unary]) (.bool _)
 case convert s d x =>
  split at hI <;> try (cases hI; done)
  rename_i k0 k hs hd
  cases hx : trO x <;> simp [hx] at hI
  subst hI
  have rx := trO_rel he hx
  simp only [evI] at hev
  generalize hg : a.eval x = xv at rx
  split at hev <;> try (cases hev; done)
  rename_i k1 n hxe
  rw [hxe] at rx
  cases hev
  cases rx
  have hw := wrap_rng (hob _ (List.mem_singleton.2 rfl))
  exact .pure h (x := .int k n) (by simp [execOp, hg, convert, run_underlying hs, run_underlying hd, Conv.intToInt, hw]) (.int _ _)
 case makeFunc f fs cs =>
  cases f <;> simp only [trI] at hI <;> try (cases hI; done)
  rename_i fid
  split at hI <;> try (cases hI; done)
  rename_i fs' cs' h1 h2
  cases hI; cases hev
  have r1 := trOs_rel he h1
  have r2 := trOs_rel he h2
  refine .pure h (x := .func (.func fid) (fs.map a.eval) (cs.map a.eval)) (by simp [execOp, Instr.makeFunc]) ?_
  exact .fn _ _ _ _ _ (by simpa using r1.1) (fun i v x hv hx => r1.2 i v x hv (by simpa using hx)) (by simpa using r2.1) (fun i v x hv hx => r2.2 i v x hv (by simpa using hx))
 case makeSlice t n m =>
  cases n <;> cases m <;> simp only [trI] at hI <;> try (cases hI; done)
  rename_i n m
  split at hI <;> try (cases hI; done)
  rename_i hnm; subst hnm
  split at hI <;> try (cases hI; done)
  rename_i e hu
  split at hI <;> try (cases hI; done)
  rename_i tye k inf hty hek hinf
  split at hI <;> try (cases hI; done)
  rename_i z hz
  split at hI <;> try (cases hI; done)
  rename_i hz0
  split at hI <;> try (cases hI; done)
  rename_i hcond
  cases hI
  simp only [evI] at hev
  split at hev <;> try (cases hev; done)
  rename_i kk mm hxe
  cases hev
  have rx := he n
  have hxe' : get n env = .int kk mm := hxe
  rw [hxe'] at rx
  have hb := hob _ (List.mem_singleton.2 rfl)
  simp only [decide_eq_true_eq] at hb
  generalize hg : a.tmps.getD n undef = xv at rx
  cases rx
  obtain ⟨μ', x, w', r1, r2, r0, r3, r4⟩ := mkslice_sound h hn hu hek hinf hz hz0 hcond.1 (kk := kk) hb.1 hb.2
  refine ⟨ι, μ', x, w', .inl ?_, Iota.le_refl _, r2, r0, by simpa [bupd, I.lays, nextOf] using r3, r4⟩
  have hev : a.eval (.tmp n) = .int kk mm := hg
  simp only [execOp, hev, Sem.run_bind, r1]; rfl
 case slice t x lo hi mx =>
  split at hI <;> try (cases hI; done)
  rename_i e hu
  split at hI <;> try (cases hI; done)
  rename_i k x' lo' hi' mx' hk hx h1 h2 h3
  cases hI
  obtain ⟨rfl, y, hy, hr⟩ := slice_sound (w := w) he hu hk (trO_rel he hx) h1 h2 h3 hev hob
  exact .pure h (by simp only [execOp, Sem.run_bind, hy]; rfl) hr
 case fieldAddr s x f =>
  split at hI <;> try (cases hI; done)
  rename_i fd n hfd
  split at hI <;> try (cases hI; done)
  rename_i k x' hk hx
  cases hI
  obtain ⟨fs, hu, hf⟩ := fieldAtT_some hfd
  obtain ⟨rfl, b, o, hp, hr⟩ := fld_sound (trO_rel he hx) hev
  obtain ⟨_, _, _, hsz⟩ := sizeT_run hk
  refine .pure h ?_ hr
  simp [execOp, Instr.fieldAt, run_underlying hu, hf, hp, Instr.sureAddr, fieldPlace, hsz, Addr.add_mid]
 case field s x f =>
  split at hI <;> try (cases hI; done)
  rename_i fd n hfd
  split at hI <;> try (cases hI; done)
  rename_i k g x' hk hg hx
  cases hI
  obtain ⟨fs, hu, hf⟩ := fieldAtT_some hfd
  have rx := trO_rel he hx
  simp only [evI] at hev
  split at hev <;> try (cases hev; done)
  rename_i cs hxe
  rw [hxe] at rx
  split at hev <;> try (cases hev; done)
  rename_i vs hcut
  split at hev <;> try (cases hev; done)
  rename_i v' hwr
  cases hev
  generalize hgx : a.eval x = xv at rx
  cases rx with
  | agg _ xa p1 p2 p3 =>
   have hR : RelL ι μ cs xa.toList := ⟨by simpa using p1, fun i v x hv hx => p2 i v x hv (by simpa using hx)⟩
   obtain ⟨r1, r2, r3⟩ := hR.map_cut hcut
   obtain ⟨y, hy, hv⟩ := wrapC_rel hwr r1 (fun u hu => p3 u (List.mem_of_mem_drop (List.mem_of_mem_take hu)))
   obtain ⟨_, _, _, hsz⟩ := sizeT_run hk
   have hagg := aggT_run hg
   refine .pure h (x := y) ?_ hv
   cases g with
   | true =>
    cases hy
    have : (List.take k (List.drop fd.offset xa.toList)).toArray = xa.extract fd.offset (fd.offset + k) := by
     apply Array.ext'; simp [List.extract_eq_take_drop]
    simp [execOp, hgx, Instr.field, run_underlying hu, hf, asAgg, part, hagg, hsz, this]
   | false =>
    have hl := wrapX_false hy
    have hc : xa[fd.offset]? = some y := by
     have h0 : (List.take k (List.drop fd.offset xa.toList))[0]? = some y := by rw [hl]; rfl
     rw [List.getElem?_take] at h0
     split at h0
     ·simpa using h0
     ·cases h0
    simp [execOp, hgx, Instr.field, run_underlying hu, hf, asAgg, part, hagg, hc]
 case indexAddr t x i =>
  split at hI <;> try (cases hI; done)
  ·rename_i e x' i' hu hx hi
   cases hk : sizeT P e <;> simp [hk] at hI
   subst hI
   rename_i k
   obtain ⟨rfl, kk, m, b, o, len, cap, e1, e2, h0, h1, hr⟩ := idx_sound (trO_rel he hx) (trO_rel he hi) hev hob
   obtain ⟨_, _, _, hsz⟩ := sizeT_run hk
   refine .pure h ?_ hr
   simp [execOp, Instr.indexAt, e1, e2, asIntOf, run_underlying hu, h0, h1, hsz, Addr.add_mid]
  ·rename_i n e x' kk m hu hx hi
   split at hI <;> try (cases hI; done)
   rename_i k hk
   split at hI <;> try (cases hI; done)
   rename_i hmn
   cases hI
   obtain ⟨rfl, b, o, hp, hr⟩ := fld_sound (trO_rel he hx) hev
   obtain ⟨_, _, _, hsz⟩ := sizeT_run hk
   have ri := trO_rel he hi
   simp only [O.ev] at ri
   generalize hgi : a.eval i = iv at ri
   cases ri
   have hm' : (m : Int) < n := by omega
   refine .pure h ?_ hr
   simp [execOp, Instr.indexAt, hgi, hp, asIntOf, run_underlying hu, hsz, Addr.add_mid, Instr.sureAddr, hmn]
  ·rename_i n e x' i' _ hu hx hi
   cases hk : sizeT P e <;> simp [hk] at hI
   subst hI
   rename_i k
   obtain ⟨_, _, _, hsz⟩ := sizeT_run hk
   have rx := trO_rel he hx
   have ri := trO_rel he hi
   simp only [evI] at hev
   split at hev <;> try (cases hev; done)
   rename_i kk m hie
   rw [hie] at ri
   split at hev <;> try (cases hev; done)
   rename_i hmn
   generalize hgi : a.eval i = iv at ri
   cases ri
   have hm' : (m : Int) < n := by omega
   split at hev <;> try (cases hev; done)
   ·rename_i id off hxe
    rw [hxe] at rx
    cases hev
    generalize hgx : a.eval x = xv at rx
    cases rx with
    | ptr _ _ L hL =>
     refine .pure h (x := .pointer (some ⟨L.b, L.ba + off + m * k, none⟩)) ?_ (by rw [Nat.add_assoc]; exact .ptr _ _ L hL)
     simp [execOp, Instr.indexAt, hgi, hgx, asIntOf, run_underlying hu, hsz, Addr.add_mid, Instr.sureAddr, hmn]
   ·rename_i cs hxe
    rw [hxe] at rx
    split at hev <;> try (cases hev; done)
    rename_i hle
    cases hev
    generalize hgx : a.eval x = xv at rx
    cases rx with
    | ipc _ b o g h1 h2 h3 =>
     refine .pure h (x := .pointer (some ⟨b, o + m * k, none⟩)) ?_ (.ipc _ b (o + m * k) (fun i => g (m * k + i)) (fun i hi => ?_) (fun i v hv => ?_) (fun i => h3 _))
     ·simp [execOp, Instr.indexAt, hgi, hgx, asIntOf, run_underlying hu, hsz, Addr.add_mid, Instr.sureAddr, hmn]
     ·rw [Nat.add_assoc]; exact h1 _ (by simp at hi; omega)
     ·exact h2 _ v (by simpa using hv)
 case extract x k =>
  cases hx : trO x <;> simp [hx] at hI
  subst hI
  have rx := trO_rel he hx
  simp only [evI] at hev
  split at hev <;> try (cases hev; done)
  rename_i vs hxe
  rw [hxe] at rx
  split at hev <;> try (cases hev; done)
  rename_i v' hv
  cases hev
  generalize hgx : a.eval x = xv at rx
  cases rx with
  | tup _ xa p1 p2 =>
   have hk := (List.getElem?_eq_some_iff.1 hv).1
   have hxk : xa[k]? = some (xa[k]'(by omega)) := by simp
   exact .pure h (x := xa[k]'(by omega)) (by simp only [execOp, hgx, Instr.extract, hxk]; rfl) (p2 k _ _ hv hxk)
 case call c =>
  obtain ⟨callee, args, argTypes⟩ := c
  cases callee <;> simp only [trI] at hI <;> try (cases hI; done)
  rename_i b
  obtain ⟨args, rfl⟩ : ∃ l : List Operand, l.toArray = args := ⟨args.toList, by simp⟩
  obtain ⟨argTypes, rfl⟩ : ∃ l : List TypeId, l.toArray = argTypes := ⟨argTypes.toList, by simp⟩
  simp only at hI
  unfold trB at hI
  split at hI <;> try (cases hI; done)
  ·-- len
   rename_i t x
   split at hI <;> try (cases hI; done)
   ·rename_i hu
    cases hx : trO x <;> simp [hx] at hI
    subst hI
    have rx := trO_rel he hx
    simp only [evI] at hev
    generalize hgx : a.eval x = xv at rx
    split at hev <;> try (cases hev; done)
    rename_i s hxe
    rw [hxe] at rx
    cases hev
    cases rx
    exact .pure h (x := .int .i64 s.size) (by simp [execOp, resolve, invoke, builtin, Builtin.len_, hgx, run_underlying hu, goInt]) (.int _ _)
   ·rename_i e hu
    cases hx : trO x <;> simp [hx] at hI
    subst hI
    have rx := trO_rel he hx
    simp only [evI] at hev
    generalize hgx : a.eval x = xv at rx
    split at hev <;> try (cases hev; done)
    ·rename_i _ _ _ m hxe
     rw [hxe] at rx
     cases hev
     cases rx with
     | sl => exact .pure h (x := .int .i64 m) (by simp [execOp, resolve, invoke, builtin, Builtin.len_, hgx, run_underlying hu, goInt]) (.int _ _)
     | sl0 => exact .pure h (x := .int .i64 (0 : Nat)) (by simp [execOp, resolve, invoke, builtin, Builtin.len_, hgx, run_underlying hu, goInt]) (.int _ _)
    ·rename_i t' xs hxe
     rw [hxe] at rx
     cases hev
     cases rx with
     | lst _ _ _ hd =>
      obtain ⟨b, cap, e', _⟩ := hd
      cases e'
      exact .pure h (x := .int .i64 xs.length) (by simp [execOp, resolve, invoke, builtin, Builtin.len_, hgx, run_underlying hu, goInt]) (.int _ _)
    ·rename_i hxe
     rw [hxe] at rx
     cases hev
     cases rx
     exact .pure h (x := .int .i64 0) (by simp [execOp, resolve, invoke, builtin, Builtin.len_, hgx, run_underlying hu, goInt]) (.int _ _)
   ·rename_i n e hu
    cases hI; cases hev
    exact .pure h (x := .int .i64 n) (by simp [execOp, resolve, invoke, builtin, Builtin.len_, run_underlying hu, goInt]) (.int _ _)
   ·rename_i arr hu
    split at hI <;> try (cases hI; done)
    rename_i n e hu2
    cases hI; cases hev
    exact .pure h (x := .int .i64 n) (by simp [execOp, resolve, invoke, builtin, Builtin.len_, run_underlying hu, run_underlying hu2, goInt]) (.int _ _)
  ·-- append
   rename_i t u' x y
   split at hI <;> try (cases hI; done)
   rename_i e e' hu hu'
   split at hI <;> try (cases hI; done)
   rename_i k x' y' hk hx hy
   cases hI
   obtain ⟨μ', z, w', r1, r2, r0, r3, r4⟩ := append_sound (ty := ty) h hn hu hu' hk (trO_rel he hx) (trO_rel he hy) hev hob
   exact ⟨ι, μ', z, w', .inl (by simp [execOp, resolve, invoke, builtin, r1]), Iota.le_refl _, r2, r0, by simpa [I.lays, nextOf] using r3, r4⟩
  ·-- max
   rename_i x r
   split at hI <;> try (cases hI; done)
   rename_i x' ys hx hys
   cases hI
   have rx := trO_rel he hx
   have rys := trOs_rel he hys
   simp only [evI] at hev
   split at hev <;> try (cases hev; done)
   rename_i k m hxe
   rw [hxe] at rx
   split at hev <;> try (cases hev; done)
   rename_i z hz
   cases hev
   generalize hgx : a.eval x = xv at rx
   cases rx
   have := minmax_max (w := w) (P := P) hz rys
   exact .pure h (x := .int k z) (by simp [execOp, resolve, invoke, builtin, Builtin.max_, hgx, this]) (.int _ _)
  ·-- min
   rename_i x r
   split at hI <;> try (cases hI; done)
   rename_i x' ys hx hys
   cases hI
   have rx := trO_rel he hx
   have rys := trOs_rel he hys
   simp only [evI] at hev
   split at hev <;> try (cases hev; done)
   rename_i k m hxe
   rw [hxe] at rx
   split at hev <;> try (cases hev; done)
   rename_i z hz
   cases hev
   generalize hgx : a.eval x = xv at rx
   cases rx
   have := minmax_min (w := w) (P := P) hz rys
   exact .pure h (x := .int k z) (by simp [execOp, resolve, invoke, builtin, Builtin.min_, hgx, this]) (.int _ _)
end
end Go.AM
end
section
namespace Go.AM
def Ctx.F (Y : Ctx) : Fence := { Fence.wide with round := Y.ro }
def MarksR (μ : Mu) : List Nat → List Deferred → Prop
 | [], ds => ds = []
 | id :: r, ds => ∃ L d ds', ds = d :: ds' ∧ μ id = some L ∧ d = { target := .collected L.b, args := #[] } ∧ MarksR μ r ds'
structure Rep (P : Program) (N : Nat) (Y : Ctx) (ι : Iota) (μ : Mu) (S : St) (a : Act) (w : World) : Prop where
 env : EnvR ι μ S.env a.tmps
 sz : a.tmps.size = N
 inv : Inv P Y ι μ S.H w
 ms : MarksR μ S.ms a.defers
def ExR : Ex → Exit → Prop
 | .normal, e => e = .normal
 | .exit id, e => e = .exit id
 | .ret, e => e = .ret
/-- Where the names of the caller end. -/
def Ctx.base (Y : Ctx) (b : Nat) : Prop := ∀ id, b ≤ id → Y.m0 id = none
def Post (P : Program) (N : Nat) (Y : Ctx) (Q : Ex → St → Prop) : Exit → Act → World → Prop := fun e a w => ∃ ι μ S e', Rep P N Y ι μ S a w ∧ ExR e' e ∧ Q e' S
/-- Within no round, or within one of the loop of that name. -/
def OutOk (Y : Ctx) : Option Nat → Prop
 | none => Y.ro = none
 | some id => ∃ L, Y.m0 id = some L ∧ Y.ro = some L.b
/-- Code, from whatever the state stands for. 'out': not within a round. -/
def awp (P : Program) (N : Nat) (out : Option Nat) (base : Nat) (c : Code) (S : St) (Q : Ex → St → Prop) : Prop :=
 ∀ Y ι μ a w, OutOk Y out → Y.base base → Rep P N Y ι μ S a w → c.wpIn Y.F 0 P (Post P N Y Q) a w
def Enters (P : Program) (f : Nat) : Prop := ∀ args w, (callFunc f args).run P w = .ok (.enter f args) w
def EndR (P : Program) (Y : Ctx) (ι : Iota) (μ : Mu) (Q : V → Heap → Prop) : Ending → World → Prop := fun e w' =>
 ∃ v ι' μ' r H', e = .returned v ∧ ι.le ι' ∧ μ.le μ' ∧ Inv P Y ι' μ' H' w' ∧ Rel ι' μ' r v ∧ Q r H'
/-- A call of a function. -/
def acall (P : Program) (f : Nat) (vs : List V) (H : Heap) (Q : V → Heap → Prop) : Prop :=
 Enters P f ∧ ∀ Y ι μ w (args : Array Value), Inv P Y ι μ H w → RelL ι μ vs args.toList → CallsIn Fence.wide 0 P f args w (EndR P Y ι μ Q)
/-- A call of yield. -/
def around (P : Program) (id : Nat) (vs : List V) (H : Heap) (Q : V → Heap → Prop) : Prop :=
 ∀ Y ι μ w (args : Array Value) L, Inv P Y ι μ H w → RelL ι μ vs args.toList → μ id = some L →
  ∃ f tmps as bd w1, (Instr.yield L.b args).run P w = .ok (.round L.b f tmps as bd) w1 ∧ RoundIn Fence.wide 0 P L.b f tmps as bd w1 (EndR P Y ι μ Q)
def Readable (ι : Iota) (w : World) : Prop := ∀ b o x, ι b o = some x → w.cell? ⟨b, o, none⟩ = some x
/-- A call whose arguments and result are data. -/
def pcall (P : Program) (f : Nat) (vs : List V) (r : V) : Prop :=
 Enters P f ∧ ∀ ι w (args : Array Value), Readable ι w → RelL ι (fun _ => none) vs args.toList → CallsIn Fence.wide 0 P f args w fun e w' =>
  ∃ v ι', e = .returned v ∧ ι.le ι' ∧ (∀ b o, b < w.heap.size → ι' b o = ι b o) ∧ Readable ι' w' ∧ RowKit.Below w.heap.size w w' ∧ Rel ι' (fun _ => none) r v
def std (P : Program) (N : Nat) (out : Option Nat) (base : Nat) : Ar := mkAr (acall P) (pcall P)
 (fun c S K => ∀ body, trC P N body = some c → awp P N out base (.loop body) S K)
 (around P)
 (fun f ps a b S K => ∀ fo pso ao bo, trO fo = some f → pso.toList = ps → trC P N ao = some a → trC P N bo = some b → awp P N out base (.rangeFunc fo pso ao bo) S K)
section
variable {P : Program} {N : Nat} {Y : Ctx} {ι ι' : Iota} {μ μ' : Mu} {H : Heap} {w w' : World} {out : Option Nat} {base : Nat}
theorem MarksR.mono (hm : μ.le μ') : ∀ {ids : List Nat} {ds : List Deferred}, MarksR μ ids ds → MarksR μ' ids ds
 | [], _, h => h
 | _ :: _, _, ⟨L, d, ds', h1, h2, h3, h4⟩ => ⟨L, d, ds', h1, hm _ _ h2, h3, h4.mono hm⟩
theorem EnvR.put {env : List (Nat × V)} {a : Act} (he : EnvR ι μ env a.tmps) (hsz : a.tmps.size = N) {d : Option Nat} (hd : dstOk N d = true) {v : V} {x : Value} (hv : Rel ι μ v x) :
  EnvR ι μ (put d v env) (a.put d x).tmps ∧ (a.put d x).tmps.size = N ∧ (a.put d x).defers = a.defers := by
 cases d with
 | none => exact ⟨he, hsz, rfl⟩
 | some d =>
  have hd' : d < N := by simpa [dstOk] using hd
  refine ⟨fun t => ?_, by simp [Act.put, hsz], rfl⟩
  simp only [AM.put, get_setE, Act.put]
  by_cases h : d = t
  ·subst h
   rw [if_pos rfl]
   have : (a.tmps.setIfInBounds d x).getD d undef = x := by simp [Array.getD, hsz, hd']
   rw [this]; exact hv
  ·rw [if_neg h]
   have : (a.tmps.setIfInBounds d x).getD t undef = a.tmps.getD t undef := by
    simp only [Array.getD_eq_getD_getElem?]
    rw [Array.getElem?_setIfInBounds_ne h]
   rw [this]; exact he t
theorem Rep.put {S : St} {a : Act} (h : Rep P N Y ι μ S a w) {d : Option Nat} (hd : dstOk N d = true) {ι' : Iota} {μ' : Mu} (hi : ι.le ι') (hm : μ.le μ') {H' : Heap} {w' : World} (hinv : Inv P Y ι' μ' H' w')
  {v : V} {x : Value} (hv : Rel ι' μ' v x) : Rep P N Y ι' μ' ⟨AM.put d v S.env, H', S.ms⟩ (a.put d x) w' := by
 obtain ⟨h1, h2, h3⟩ := (h.env.mono hi hm).put h.sz hd hv
 exact ⟨h1, h2, hinv, by rw [h3]; exact h.ms.mono hm⟩
theorem yielded_of {env : List (Nat × V)} {a : Act} (he : EnvR ι μ env a.tmps) {ops : Array Oper} {j d : Nat} {o : Oper} (ho : ops[j]? = some o) (hd : o.dst = some d) {b : Bool}
  (hv : get d env = .tf b ∨ get d env = .bool b) : yielded ops a.tmps j = some b := by
 have hr := he d
 have : a.tmps.getD d undef = .bool b := by
  generalize a.tmps.getD d undef = x at hr
  rcases hv with hv | hv <;> rw [hv] at hr <;> cases hr <;> rfl
 rw [Array.getD_eq_getD_getElem?] at this
 unfold yielded
 simp only [ho, Option.bind_some, hd]
 cases hq : a.tmps[d]? with
 | none => rw [hq] at this; cases this
 | some x => rw [hq] at this; simp at this; subst this; rfl
theorem yielded_tup {env : List (Nat × V)} {a : Act} (he : EnvR ι μ env a.tmps) {ops : Array Oper} {j d : Nat} {o : Oper} (ho : ops[j]? = some o) (hd : o.dst = some d) {vs : List V}
  (hv : get d env = .tup vs) : yielded ops a.tmps j = none := by
 have hr := he d
 have : ∃ xs, a.tmps.getD d undef = .tuple xs := by
  generalize a.tmps.getD d undef = x at hr
  rw [hv] at hr; cases hr; exact ⟨_, rfl⟩
 obtain ⟨xs, this⟩ := this
 rw [Array.getD_eq_getD_getElem?] at this
 unfold yielded
 simp only [ho, Option.bind_some, hd]
 cases hq : a.tmps[d]? with
 | none => rfl
 | some x => rw [hq] at this; simp at this; subst this; rfl
theorem Rel.und : Rel ι μ (.tup []) undef := .tup [] _ rfl (fun i v x hv => by simp at hv)
theorem AllB_iff : ∀ {ob : List Bool}, AllB ob → AllT ob
 | [], _ => fun b h => by cases h
 | [b], h => fun b' h' => by cases List.mem_singleton.1 h'; exact h
 | b :: c :: r, h => fun b' h' => by
  rcases List.mem_cons.1 h' with rfl | h'
  ·exact h.1
  ·exact AllB_iff h.2 b' h'
theorem wpOp_iff {ar : Ar} {dst : Option Nat} {i : I} {S : St} {K : St → Prop} (h : wpOp ar dst i S K) : ∃ ob v u, evI ar i S.env S.H.bl S.H.next = some (ob, v, u) ∧ AllT ob ∧
  K ⟨put dst v S.env, ⟨nextOf i.lays S.H.next S.H.next, bupd u S.H.bl⟩, S.ms⟩ := by
 have hn : nx1 i.lays S.H.next = nextOf i.lays S.H.next S.H.next := by
  unfold nextOf nx1; cases i.lays <;> simp
 unfold wpOp at h
 split at h
 ·rename_i v u hev
  rw [hn] at h
  exact ⟨[], v, u, hev, (fun b hb => by cases hb), h⟩
 ·rename_i ob v u _ hev
  rw [hn] at h
  exact ⟨ob, v, u, hev, AllB_iff h.1, h.2⟩
 ·exact h.elim
/-- What is asked of the rest of a region. -/
def Next (P : Program) (N : Nat) (Y : Ctx) (K : St → Prop) (next : Act → World → Prop) : Prop := ∀ ι μ S a w, Rep P N Y ι μ S a w → K S → next a w
theorem run_call_fn {a : Act} {f : Operand} {args : Array Operand} {tys : Array TypeId} {o : Oper} (ho : o.op = .call { callee := .value f, args := args, argTypes := tys }) {fid : Nat} {xs ys : Array Value}
  (hf : a.eval f = .func (.func fid) xs ys) (hent : Enters P fid) (w : World) : (execOp a.eval o).run P w = .ok (.enter fid (xs ++ args.map a.eval ++ ys)) w := by
 have := hent (xs ++ args.map a.eval ++ ys) w
 simp only [Array.append_assoc] at this
 simp [execOp, ho, resolve, hf, Deferred.ofValue, invoke, this]
theorem op_ok {F : Fence} (hF : ∀ f, F.fn f) (hdep : F.depth = none) {ops : Array Oper} {i : Nat} {rest : List Nat} {o : Oper} (ho : ops[i]? = some o) {a : Act} {w : World} {Q : Exit → Act → World → Prop}
  (hw : Region.wanted o (yielded ops a.tmps) = true) (hdef : ∀ c, o.op ≠ .defer c) {x : Value} {w' : World}
  (hrun : (execOp a.eval o).run P w = .ok (.value x) w' ∨ ((execOp a.eval o).run P w = .ok .skip w' ∧ x = undef)) (hk : wpOpsIn F 0 P ops Q rest (a.put o.dst x) w') :
  wpOpsIn F 0 P ops Q (i :: rest) a w := by
 simp only [wpOpsIn, ho, hw, if_true, Oper.wpIn]
 refine ⟨fun f _ => hF f, ?_⟩
 rw [Oper.semAt_eq _ _ _ hdef]
 rcases hrun with h | ⟨h, rfl⟩ <;> rw [h] <;> exact hk
theorem op_skip {F : Fence} (hF : ∀ f, F.fn f) {ops : Array Oper} {i : Nat} {rest : List Nat} {o : Oper} (ho : ops[i]? = some o) {a : Act} {w : World} {Q : Exit → Act → World → Prop}
  (hw : Region.wanted o (yielded ops a.tmps) = false) (hk : wpOpsIn F 0 P ops Q rest (a.put o.dst undef) w) :
  wpOpsIn F 0 P ops Q (i :: rest) a w := by
 simp only [wpOpsIn, ho, hw, Bool.false_eq_true, if_false]
 exact ⟨fun f _ => hF f, hk⟩
theorem trI_defer {op : Op} {i : I} (h : trI P op = some i) : ∀ c, op ≠ .defer c := fun c e => by subst e; simp [trI] at h
/-- A call, of a function or of yield, as a region's item. -/
theorem call_ok {ops : Array Oper} {i : Nat} {rest : List Nat} {o : Oper} (ho : ops[i]? = some o) {a : Act} {w : World} {Q : Exit → Act → World → Prop} {S : St} (hR : Rep P N Y ι μ S a w)
  (hw : Region.wanted o (yielded ops a.tmps) = true) {f : Operand} {args : Array Operand} {tys : Array TypeId} (hop : o.op = .call { callee := .value f, args := args, argTypes := tys })
  {fo : O} {as : List O} (hf : trO f = some fo) (ha : trOs args.toList = some as) (hd : dstOk N o.dst = true) {ts : List (Option Ty)} {K : St → Prop} (hK : wpCall (std P N out base) o.dst fo as ts S K)
  (hn : Next P N Y K (wpOpsIn Y.F 0 P ops Q rest)) : wpOpsIn Y.F 0 P ops Q (i :: rest) a w := by
 simp only [wpOpsIn, ho, hw, if_true, Oper.wpIn]
 refine ⟨fun f _ => trivial, ?_⟩
 rw [Oper.semAt_eq _ _ _ (by rw [hop]; simp)]
 have rf := trO_rel hR.env hf
 have ra := trOs_rel hR.env ha
 unfold wpCall at hK
 split at hK
 ·rename_i fid fs cs hfe
  rw [hfe] at rf
  generalize hg : a.eval f = fv at rf
  cases rf with
  | fn _ _ _ xs ys h1 h2 h3 h4 =>
   obtain ⟨hent, hcall⟩ := hK
   rw [run_call_fn hop hg hent]
   have rl : RelL ι μ (fs ++ normL ts (as.map (·.ev S.env)) ++ cs) (xs ++ args.map a.eval ++ ys).toList := by
    have r1 : RelL ι μ fs xs.toList := ⟨by simpa using h1, fun i v x hv hx => h2 i v x hv (by simpa using hx)⟩
    have r2 : RelL ι μ cs ys.toList := ⟨by simpa using h3, fun i v x hv hx => h4 i v x hv (by simpa using hx)⟩
    have := (r1.append (normL_rel (ts := ts) ra)).append r2
    simpa using this
   refine ⟨fun h => by simp [Ctx.F, Fence.wide] at h, ?_⟩
   refine CallsIn.mono (F := Y.F) (hcall Y ι μ w _ hR.inv rl) ?_
   rintro e w' ⟨v, ι', μ', r, H', rfl, hi, hm, hinv, hv, hq⟩
   exact hn _ _ _ _ _ (hR.put hd hi hm hinv hv) hq
 ·rename_i id hfe
  rw [hfe] at rf
  generalize hg : a.eval f = fv at rf
  cases rf with
  | yl _ L hL =>
   obtain ⟨f', tmps, as', bd, w1, hy, hround⟩ := hK Y ι μ w (args.map a.eval) L hR.inv (by simpa using normL_rel (ts := ts) ra) hL
   have : (execOp a.eval o).run P w = .ok (.round L.b f' tmps as' bd) w1 := by
    simp [execOp, hop, resolve, hg, Deferred.ofValue, invoke, hy]
   rw [this]
   refine ⟨fun h => by simp [Ctx.F, Fence.wide] at h, ?_⟩
   refine RoundIn.mono (F := Y.F) hround ?_
   rintro e w' ⟨v, ι', μ', r, H', rfl, hi, hm, hinv, hv, hq⟩
   exact hn _ _ _ _ _ (hR.put hd hi hm hinv hv) hq
 ·exact hK.elim
/-- A guard: run, or passed over. -/
theorem guard_ok {ops : Array Oper} {i : Nat} {rest : List Nat} {o : Oper} (ho : ops[i]? = some o) {a : Act} {w : World} {Q : Exit → Act → World → Prop} {S : St} (hR : Rep P N Y ι μ S a w)
  {g : Option (Nat × Bool)} (hg : trG ops o.guard = some g) (hd : dstOk N o.dst = true) {K : St → Prop} {run : St → Prop} (h : wpGuard g o.dst S K run)
  (hn : Next P N Y K (wpOpsIn Y.F 0 P ops Q rest))
  (hrun : ∀ S', Rep P N Y ι μ S' a w → run S' → Region.wanted o (yielded ops a.tmps) = true → wpOpsIn Y.F 0 P ops Q (i :: rest) a w) : wpOpsIn Y.F 0 P ops Q (i :: rest) a w := by
 cases hog : o.guard with
 | none =>
  rw [hog] at hg; cases hg
  exact hrun S hR h (by simp [Region.wanted, hog])
 | some jb =>
  obtain ⟨j, b⟩ := jb
  rw [hog] at hg
  simp only [trG] at hg
  split at hg <;> try (cases hg; done)
  rename_i oj hoj
  split at hg <;> try (cases hg; done)
  rename_i d hdj
  cases hg
  have want : ∀ c, (get d S.env = .tf c ∨ get d S.env = .bool c) → Region.wanted o (yielded ops a.tmps) = (c == b) := fun c hc => by
   simp only [Region.wanted, hog, yielded_of hR.env hoj hdj hc]
   cases c <;> cases b <;> rfl
  have skip : ∀ S', Rep P N Y ι μ S' a w → Region.wanted o (yielded ops a.tmps) = false → K ⟨put o.dst (.tup []) S'.env, S'.H, S'.ms⟩ → wpOpsIn Y.F 0 P ops Q (i :: rest) a w := fun S' hR' hw hk =>
   op_skip (fun _ => trivial) ho hw (hn _ _ _ _ _ (hR'.put hd (Iota.le_refl _) (Mu.le_refl _) hR'.inv Rel.und) hk)
  have rw2ok : ∀ c, get d S.env = .bool c → Rep P N Y ι μ (rw2 d c S) a w := fun c hc =>
   ⟨fun t => by
    simp only [rw2, get_setE]
    by_cases ht : d = t
    ·subst ht; rw [if_pos rfl]
     have := hR.env d; rw [hc] at this
     generalize hx : a.tmps.getD d undef = x at this
     cases this; exact .tf _
    ·rw [if_neg ht]; exact hR.env t, hR.sz, hR.inv, hR.ms⟩
  simp only [wpGuard] at h
  split at h
  ·rename_i c hc
   have hw := want c (.inl hc)
   cases c <;> cases b <;> simp only at h
   ·exact hrun S hR h (by rw [hw]; rfl)
   ·exact skip S hR (by rw [hw]; rfl) h
   ·exact skip S hR (by rw [hw]; rfl) h
   ·exact hrun S hR h (by rw [hw]; rfl)
  ·rename_i c hc
   have hw := want c (.inr hc)
   have hr2 := rw2ok c hc
   obtain ⟨h1, h2⟩ := h
   cases c with
   | true =>
    have h1 := h1 rfl
    cases b
    ·exact skip _ hr2 (by rw [hw]; rfl) h1
    ·exact hrun _ hr2 h1 (by rw [hw]; rfl)
   | false =>
    have h2 := h2 rfl
    cases b
    ·exact hrun _ hr2 h2 (by rw [hw]; rfl)
    ·exact skip _ hr2 (by rw [hw]; rfl) h2
  ·rename_i vs hc
   exact skip S hR (by simp only [Region.wanted, hog, yielded_tup hR.env hoj hdj hc]; rfl) h
  ·exact h.elim
theorem items_ok {ops : Array Oper} {Q : Exit → Act → World → Prop} {K : St → Prop} (hend : Next P N Y K (Q .normal)) : ∀ {os : List Oper} {is : List Itm} {k : Nat}, trItms P N ops os = some is →
  (∀ j, os[j]? = ops[k + j]?) → ∀ {S : St} {a : Act} {w : World} {ι : Iota} {μ : Mu}, Rep P N Y ι μ S a w → wpItms (std P N out base) is S K → wpOpsIn Y.F 0 P ops Q (List.range' k os.length) a w
 | [], is, k, h, _, S, a, w, ι, μ, hR, hK => by cases h; exact hend _ _ _ _ _ hR hK
 | o :: os, is, k, h, hk, S, a, w, ι, μ, hR, hK => by
  unfold trItms at h
  split at h <;> try (cases h; done)
  rename_i it its hit hits
  cases h
  have ho : ops[k]? = some o := by have := hk 0; simpa using this.symm
  have hk' : ∀ j, os[j]? = ops[k + 1 + j]? := fun j => by have := hk (j + 1); rw [show k + (j + 1) = k + 1 + j by omega] at this; simpa using this
  have hn : Next P N Y (fun S => wpItms (std P N out base) its S K) (wpOpsIn Y.F 0 P ops Q (List.range' (k + 1) os.length)) := fun ι μ S a w hR hK => items_ok hend hits hk' hR hK
  simp only [List.length_cons, List.range'_succ]
  unfold trItm at hit
  split at hit <;> try (cases hit; done)
  rename_i hd
  split at hit <;> try (cases hit; done)
  rename_i g hg
  split at hit
  ·rename_i f args tys hop
   split at hit <;> try (cases hit; done)
   rename_i fo as hf ha
   cases hit
   refine guard_ok ho hR hg hd hK hn fun S' hR' hrun hw => ?_
   exact call_ok ho hR' hw hop hf ha hd hrun hn
  ·rename_i op _
   split at hit <;> try (cases hit; done)
   rename_i i hi
   cases hit
   refine guard_ok ho hR hg hd hK hn fun S' hR' hrun hw => ?_
   obtain ⟨ob, v, u, hev, hob, hk⟩ := wpOp_iff hrun
   have hnone := hR'.inv.nx S'.H.next (Nat.le_refl _)
   obtain ⟨ι', μ', x, w', hx, hi', hm, _, hinv, hv⟩ := evI_sound hR'.inv hnone hR'.env hi hev hob
   exact op_ok (fun _ => trivial) rfl ho hw (trI_defer hi) hx (hn _ _ _ _ _ (hR'.put hd hi' hm hinv hv) hk)
end
end Go.AM
end
section
namespace Go.AM
section
variable {P : Program} {N : Nat} {Y : Ctx} {ι ι' : Iota} {μ μ' : Mu} {H : Heap} {w w' : World} {out : Option Nat} {base : Nat}
theorem Post.mono {Q Q' : Ex → St → Prop} (h : ∀ e S, Q e S → Q' e S) {e : Exit} {a : Act} (hp : Post P N Y Q e a w) : Post P N Y Q' e a w :=
 let ⟨ι, μ, S, e', hR, he, hq⟩ := hp; ⟨ι, μ, S, e', hR, he, h _ _ hq⟩
theorem awp.mono {c : Code} {S : St} {Q Q' : Ex → St → Prop} (h : awp P N out base c S Q) (hq : ∀ e S, Q e S → Q' e S) : awp P N out base c S Q' :=
 fun Y ι μ a w ho hb hR => wpIn_mono (h Y ι μ a w ho hb hR) fun _ _ _ hp => hp.mono hq
/-- A loop, by what holds at its head for some x, the less the nearer to its end. -/
theorem wpIn_loop_ghost {α : Type} {F : Fence} {n : Nat} {c : Code} {Q : Exit → Act → World → Prop} (I : α → Act → World → Prop) (m : α → Nat) {x : α} {a : Act} {w : World} (h₀ : I x a w)
  (round : ∀ x a w, I x a w → c.wpIn F n P (Exit.then (fun a' w' => ∃ y, I y a' w' ∧ m y < m x) Q) a w) : (Code.loop c).wpIn F n P Q a w := by
 intro b k cs hro hb hr
 have key : ∀ j x a w, m x = j → I x a w →
   ∃ e a' w', Q e a' w' ∧ ArrivesIn (Machine.fenced P F) P (lone (b.atR a (.code c :: .inLoop c :: k)) cs w) b k cs e a' w' := by
  intro j
  induction j using Nat.strongRecOn with
  | _ j ih =>
   intro x a w hn hI
   obtain ⟨e, a₁, w₁, hq, harr⟩ := round x a w hI b (.inLoop c :: k) cs hro hb hr
   cases e with
   | normal =>
    obtain ⟨y, hI₁, hlt⟩ := hq
    obtain ⟨e₂, a₂, w₂, hq₂, harr₂⟩ := ih (m y) (hn ▸ hlt) y a₁ w₁ rfl hI₁
    have h0 : (lone (b.atR a₁ (.inLoop c :: k)) cs w₁).fenced P F := fenced_calm hb hr rfl
    exact ⟨e₂, a₂, w₂, hq₂, .of_steps (StepsIn.trans harr (.one h0 stepR_inLoop)) harr₂⟩
   | exit id => exact ⟨_, a₁, w₁, hq, .pass (x := .inLoop c) rfl (fun _ _ => .inl (by simp)) harr⟩
   | goto l => exact ⟨_, a₁, w₁, hq, .pass (x := .inLoop c) rfl (fun _ _ => .inl (by simp)) harr⟩
   | ret => exact ⟨_, a₁, w₁, hq, .pass (x := .inLoop c) rfl (fun _ _ => .inl (by simp)) harr⟩
   | panic ch => exact ⟨_, a₁, w₁, hq, .pass (x := .inLoop c) rfl (fun _ _ => .inl (by simp)) harr⟩
   | outgrown => exact ⟨_, a₁, w₁, hq, .pass (x := .inLoop c) rfl (fun _ _ => .inl (by simp)) harr⟩
 obtain ⟨e, a', w', hq, harr⟩ := key _ x a w rfl h₀
 exact ⟨e, a', w', hq, .of_steps (.one (fenced_calm hb hr rfl) stepR_loop) harr⟩
theorem stepR_scope {b : Frame} {a : Act} {k : List Item} {cs : List Frame} {c : Code} : step P (lone (b.atR a (.code (.scope c) :: k)) cs w) = .next (lone (b.atR a (.code c :: .inScope c :: k)) cs w) :=
 step_lone_go (by simp [stepG, stepG.exec, Frame.atR])
theorem stepR_inScope {b : Frame} {a : Act} {k : List Item} {cs : List Frame} {c : Code} : step P (lone (b.atR a (.inScope c :: k)) cs w) = .next (lone (b.atR a k) cs w) :=
 step_lone_go (by simp [stepG, stepG.exec, Frame.atR])
theorem wpIn_scope {F : Fence} {n : Nat} {c : Code} {Q : Exit → Act → World → Prop} {a : Act} {w : World} (h : c.wpIn F n P Q a w) (hg : ∀ l a w, ¬ Q (.goto l) a w) : (Code.scope c).wpIn F n P Q a w := by
 intro b k cs hro hb hr
 obtain ⟨e, a₁, w₁, hq, harr⟩ := h b (.inScope c :: k) cs hro hb hr
 have h0 : ∀ a w k, (lone (b.atR a (.code (.scope c) :: k)) cs w).fenced P F := fun a w k => fenced_calm hb hr rfl
 have h1 : ∀ a w k, (lone (b.atR a (.inScope c :: k)) cs w).fenced P F := fun a w k => fenced_calm hb hr rfl
 cases e with
 | normal => exact ⟨.normal, a₁, w₁, hq, .head (h0 _ _ _) stepR_scope (StepsIn.trans harr (.one (h1 _ _ _) stepR_inScope))⟩
 | exit id => exact ⟨.exit id, a₁, w₁, hq, fun k' hk => .head (h0 _ _ _) stepR_scope (harr.1 k' (by simp [exitTo, hk])), fun hro' hk =>
   let ⟨k₁, e1, e2⟩ := harr.2 hro' (by simp [exitTo, hk]); ⟨k₁, e1, .head (h0 _ _ _) stepR_scope e2⟩⟩
 | goto l => exact absurd hq (hg _ _ _)
 | ret => exact ⟨_, a₁, w₁, hq, .of_steps (.one (h0 _ _ _) stepR_scope) harr⟩
 | panic ch => exact ⟨_, a₁, w₁, hq, .of_steps (.one (h0 _ _ _) stepR_scope) harr⟩
 | outgrown => exact ⟨_, a₁, w₁, hq, .of_steps (b := b) (k := k) (cs := cs) (e := .outgrown) (.one (h0 _ _ _) stepR_scope) harr⟩
/-- What a drawn region asks: it is owed apart. -/
def DrawOk (P : Program) (N : Nat) (out : Option Nat) (base : Nat) : Prop := ∀ (id : Nat) (ops : Array Oper) (is : List Itm), trItms P N ops ops.toList = some is → slotsOk (predsOf ops) is = true → edgesOk ops = true →
 ∀ S K, wpDraw (std P N out base) (predsOf ops) is S K → awp P N out base (.region id ops true) S fun e S => match e with | .normal => K S | _ => False
theorem wpE_sound (hdraw : DrawOk P N out base) : ∀ (code : Code) {c : C}, trC P N code = some c → ∀ {S : St} {K : Ex → St → Prop}, wpE (std P N out base) c S K → awp P N out base code S K := by
 intro code
 induction code with
 | skip => 
  intro c h S K hK Y ι μ a w ho hb hR
  cases h; exact wpIn_skip ⟨ι, μ, S, .normal, hR, rfl, hK⟩
 | label l =>
  intro c h S K hK Y ι μ a w ho hb hR
  cases h; exact wpIn_label ⟨ι, μ, S, .normal, hR, rfl, hK⟩
 | ret =>
  intro c h S K hK Y ι μ a w ho hb hR
  cases h; exact wpIn_ret ⟨ι, μ, S, .ret, hR, rfl, hK⟩
 | exit id =>
  intro c h S K hK Y ι μ a w ho hb hR
  cases h; exact wpIn_exit ⟨ι, μ, S, .exit id, hR, rfl, hK⟩
 | goto l => intro c h; cases h
 | refuse why => intro c h; cases h
 | scope b ih =>
  intro c h S K hK Y ι μ a w ho hb hR
  refine wpIn_scope (ih h hK Y ι μ a w ho hb hR) fun l a w hq => ?_
  obtain ⟨_, _, _, e', _, he, _⟩ := hq
  cases e' <;> cases he
 | region id ops draw =>
  intro c h S K hK Y ι μ a w ho hb hR
  simp only [trC] at h
  split at h <;> try (cases h; done)
  rename_i is his
  cases draw with
  | true =>
   simp only at h
   split at h <;> try (cases h; done)
   rename_i hchk
   cases h
   simp only [wpE] at hK
   refine wpIn_mono (hdraw id ops is his hchk.1 hchk.2 S _ hK Y ι μ a w ho hb hR) fun e a w hp => ?_
   obtain ⟨ι', μ', S', e', h1, h2, h3⟩ := hp
   cases e' <;> simp at h3
   exact ⟨ι', μ', S', .normal, h1, h2, h3⟩
  | false =>
   cases h
   simp only [wpE] at hK
   refine wpIn_region ?_
   have := items_ok (Y := Y) (Q := Post P N Y K) (K := fun S => K .normal S) (out := out) (base := base) (fun ι μ S a w hR hK => ⟨ι, μ, S, .normal, hR, rfl, hK⟩) (k := 0) his (fun j => by simp) hR hK
   rwa [Array.length_toList, ← List.range_eq_range'] at this
 | seq x y ihx ihy =>
  intro c h S K hK Y ι μ a w ho hb hR
  simp only [trC] at h
  split at h <;> try (cases h; done)
  rename_i cx cy hx hy
  cases h
  simp only [wpE] at hK
  refine wpIn_seq (wpIn_mono (ihx hx hK Y ι μ a w ho hb hR) fun e a' w' hp => ?_)
  obtain ⟨ι', μ', S', e', h1, h2, h3⟩ := hp
  cases e' with
  | normal => cases h2; exact ihy hy h3 Y ι' μ' a' w' ho hb h1
  | exit id => cases h2; exact ⟨ι', μ', S', .exit id, h1, rfl, h3⟩
  | ret => cases h2; exact ⟨ι', μ', S', .ret, h1, rfl, h3⟩
 | cond c0 x y ihx ihy =>
  intro c h S K hK Y ι μ a w ho hb hR
  simp only [trC] at h
  split at h <;> try (cases h; done)
  rename_i co cx cy hc hx hy
  cases h
  simp only [wpE] at hK
  have rc := trO_rel hR.env hc
  generalize hg : a.eval c0 = cv at rc
  split at hK
  ·rename_i hce; rw [hce] at rc; cases rc
   exact wpIn_cond hg (ihx hx hK Y ι μ a w ho hb hR)
  ·rename_i hce; rw [hce] at rc; cases rc
   exact wpIn_cond hg (ihy hy hK Y ι μ a w ho hb hR)
  ·rename_i t hce; rw [hce] at rc; cases rc
   obtain ⟨k1, k2⟩ := hK
   have hrw : Rep P N Y ι μ (rwO co t S) a w := by
    cases co with
    | c v => exact hR
    | t d =>
     refine ⟨fun i => ?_, hR.sz, hR.inv, hR.ms⟩
     simp only [rwO, rw2, get_setE]
     by_cases hi : d = i
     ·subst hi; rw [if_pos rfl]
      have := hR.env d
      have e1 : get d S.env = .bool t := hce
      rw [e1] at this
      generalize a.tmps.getD d undef = x at this
      cases this; exact .tf _
     ·rw [if_neg hi]; exact hR.env i
   cases t with
   | true => exact wpIn_cond hg (ihx hx (k1 rfl) Y ι μ a w ho hb hrw)
   | false => exact wpIn_cond hg (ihy hy (k2 rfl) Y ι μ a w ho hb hrw)
  ·exact hK.elim
 | block id b ih =>
  intro c h S K hK Y ι μ a w ho hb hR
  simp only [trC] at h
  cases hx : trC P N b <;> simp [hx] at h
  subst h
  simp only [wpE] at hK
  refine wpIn_block (wpIn_mono (ih hx hK Y ι μ a w ho hb hR) fun e a' w' hp => ?_)
  obtain ⟨ι', μ', S', e', h1, h2, h3⟩ := hp
  cases e' with
  | normal => cases h2; exact ⟨ι', μ', S', .normal, h1, rfl, h3⟩
  | exit id' =>
   cases h2
   simp only [Exit.inBlock]
   simp only at h3
   split at h3
   ·rename_i hbeq
    rw [if_pos (Nat.eq_of_beq_eq_true hbeq)]
    exact ⟨ι', μ', S', .normal, h1, rfl, h3⟩
   ·rename_i hbeq
    rw [if_neg (fun e => by subst e; rw [Nat.beq_refl] at hbeq; cases hbeq)]
    exact ⟨ι', μ', S', .exit id', h1, rfl, h3⟩
  | ret => cases h2; exact ⟨ι', μ', S', .ret, h1, rfl, h3⟩
 | loop b ih =>
  intro c h S K hK
  simp only [trC] at h
  cases hx : trC P N b <;> simp [hx] at h
  subst h
  exact hK b hx
 | rangeFunc f ps x y ihx ihy =>
  intro c h S K hK
  simp only [trC] at h
  split at h <;> try (cases h; done)
  rename_i fo cx cy hf hx hy
  cases h
  exact hK f ps x y hf rfl hx hy
end
end Go.AM
end
section
namespace Go.AM
def loadV (bl : Blks) (g : Bool) (k : Nat) : V → Option V
 | .ptr id off => match bget id bl with
  | some (.cells cs _) => match cut off k cs with
   | some vs => wrapC g vs
   | none => none
  | _ => none
 | .ipc cs => match cut 0 k cs with
  | some vs => wrapC g vs
  | none => none
 | _ => none
def resV (S : St) : List RV → Option (List V)
 | [] => some []
 | .t n :: r => match resV S r with
  | some vs => some (get n S.env :: vs)
  | none => none
 | .cell n g k :: r => match loadV S.H.bl g k (get n S.env) with
  | some v => match resV S r with
   | some vs => some (v :: vs)
   | none => none
  | none => none
def mkRes : List V → V
 | [v] => v
 | vs => .tup vs
/-- The blocks for deferred calls are there, and go. -/
def shutAll : List Nat → Blks → Option Blks
 | [], bl => some bl
 | id :: r, bl => match bget id bl with
  | some .dfr => shutAll r (bdel id bl)
  | _ => none
/-- At a function's end: its result as data goes to K. -/
def RetD (ar : Ar) (res : List RV) (tys : List (Option Ty)) (K : V → Prop) : Ex → St → Prop := fun e S => match e with
 | .exit _ => False
 | .normal => RetS ar res tys K S
 | .ret => RetS ar res tys K S
where RetS (ar : Ar) (res : List RV) (tys : List (Option Ty)) (K : V → Prop) (S : St) : Prop := match shutAll S.ms S.H.bl with
 | some bl => match resV ⟨S.env, ⟨S.H.next, bl⟩, []⟩ res with
  | some vs => match fin ar bl 8 (mkRes (normL tys vs)) with
   | some r => K r
   | none => False
  | none => False
 | none => False
/-- At a function's end: its result goes to K, with the heap. -/
def RetH (res : List RV) (tys : List (Option Ty)) (K : V → Heap → Prop) : Ex → St → Prop := fun e S => match e with
 | .exit _ => False
 | .normal => RetS res tys K S
 | .ret => RetS res tys K S
where RetS (res : List RV) (tys : List (Option Ty)) (K : V → Heap → Prop) (S : St) : Prop := match shutAll S.ms S.H.bl with
 | some bl => match resV ⟨S.env, ⟨S.H.next, bl⟩, []⟩ res with
  | some vs => K (mkRes (normL tys vs)) ⟨S.H.next, bl⟩
  | none => False
 | none => False
section
variable {P : Program} {N : Nat} {Y : Ctx} {ι ι' : Iota} {μ μ' : Mu} {H : Heap} {w w' : World} {out : Option Nat} {base : Nat}
 {c1 : Nat → List V → Heap → (V → Heap → Prop) → Prop} {c2 : Nat → List V → V → Prop} {c3 : C → St → (Ex → St → Prop) → Prop}
theorem isData_rel : ∀ {n : Nat} {v : V} {x : Value}, isData n v = true → Rel ι μ v x → Rel ι μ' v x
 | 0, v, x, h, _ => by cases h
 | n + 1, v, x, h, hr => by
  have all : ∀ {cs : List V} {i : Nat} {v : V}, cs.all (isData n) = true → cs[i]? = some v → isData n v = true := fun h hv => List.all_eq_true.1 h _ (List.mem_of_getElem? hv)
  cases hr <;> simp only [isData] at h <;> try (cases h; done)
  case any => exact .any _
  case tf => exact .tf _
  case bool => exact .bool _
  case int => exact .int _ _
  case str => exact .str _
  case nilp => exact .nilp
  case nilfn => exact .nilfn
  case nili => exact .nili
  case lst t xs hd => exact .lst t xs _ hd
  case nsl => exact .nsl _
  case ipc cs b o g h1 h2 h3 => exact .ipc cs b o g h1 (fun i v hv => isData_rel (all h hv) (h2 i v hv)) h3
  case ip t x b o us h1 h2 => exact .ip t x b o us h1 h2
  case fn f fs cs xs ys h1 h2 h3 h4 =>
   simp only [Bool.and_eq_true] at h
   exact .fn f fs cs xs ys h1 (fun i v x hv hx => isData_rel (all h.1 hv) (h2 i v x hv hx)) h3 (fun i v x hv hx => isData_rel (all h.2 hv) (h4 i v x hv hx))
  case agg cs xs h1 h2 h3 => exact .agg cs xs h1 (fun i v x hv hx => isData_rel (all h hv) (h2 i v x hv hx)) h3
  case tup cs xs h1 h2 => exact .tup cs xs h1 (fun i v x hv hx => isData_rel (all h hv) (h2 i v x hv hx))
  case ifc t v x hv => exact .ifc t v x (isData_rel h hv)
/-- All that lies in new blocks is read for ever. -/
noncomputable def Iota.all (ι : Iota) (B : Nat → Prop) (w : World) : Iota := by
 classical exact fun b o => if B b then w.cell? ⟨b, o, none⟩ else ι b o
theorem Iota.all_own {ι : Iota} {B : Nat → Prop} {w : World} {b o : Nat} (h : B b) : ι.all B w b o = w.cell? ⟨b, o, none⟩ := by unfold Iota.all; rw [if_pos h]
theorem Iota.all_not {ι : Iota} {B : Nat → Prop} {w : World} {b o : Nat} (h : ¬ B b) : ι.all B w b o = ι b o := by unfold Iota.all; rw [if_neg h]
theorem Iota.all_rd {ι : Iota} {B : Nat → Prop} {w : World} (hr : ∀ b o x, ι b o = some x → w.cell? ⟨b, o, none⟩ = some x) {b o : Nat} {x : Value} (h : ι.all B w b o = some x) : w.cell? ⟨b, o, none⟩ = some x := by
 unfold Iota.all at h; split at h
 ·exact h
 ·exact hr _ _ _ h
theorem Iota.le_all (h : ∀ b o x, ι b o = some x → w.cell? ⟨b, o, none⟩ = some x) {B : Nat → Prop} : ι.le (ι.all B w) := fun b o x hx => by
 unfold Iota.all; split
 ·exact h _ _ _ hx
 ·exact hx
theorem mapO_rel {g : V → Option V} (hg : ∀ v r x, g v = some r → Rel ι μ v x → Rel ι' μ' r x) : ∀ {cs ds : List V} {xs : List Value}, mapO g cs = some ds → RelL ι μ cs xs → RelL ι' μ' ds xs
 | [], ds, xs, h, hr => by cases h; rw [hr.of_nil]; exact .nil
 | v :: r, ds, xs, h, hr => by
  unfold mapO at h
  obtain ⟨x, xs', rfl, h1, h2⟩ := hr.uncons
  split at h <;> try (cases h; done)
  rename_i y hy
  split at h <;> try (cases h; done)
  rename_i ys hys
  cases h
  exact .cons (hg _ _ _ hy h1) (mapO_rel hg hys h2)
theorem fin_rel {ar : Ar} (hsub : ∀ {α : Type} (xs : List α) lo n, ar.sub' xs lo n = (xs.drop lo).take n) {bl : Blks} {nx : Nat} (hI : Inv P Y ι μ ⟨nx, bl⟩ w) :
  ∀ {n : Nat} {v r : V} {x : Value}, fin ar bl n v = some r → Rel ι μ v x → Rel (ι.all Y.own w) (fun _ => none) r x
 | 0, v, r, x, h, _ => by cases h
 | n + 1, v, r, x, h, hr => by
  have hle := Iota.le_all (B := Y.own) hI.rd
  have hreads : ∀ {L : Loc} {vs : List Value} {fz : Bool} {id : Nat}, Mem Y.own ι μ id fz w L vs → Reads (ι.all Y.own w) L.b L.ba vs := fun hM j v hv => by
   rw [Iota.all_own hM.old]
   exact hM.rangeAt j v hv
  have g : ∀ v r x, fin ar bl n v = some r → Rel ι μ v x → Rel (ι.all Y.own w) (fun _ => none) r x := fun v r x h hr => fin_rel hsub hI h hr
  have conv : ∀ {cs ds : List V} {xs : Array Value}, mapO (fin ar bl n) cs = some ds → cs.length = xs.size → (∀ (i : Nat) v x, cs[i]? = some v → xs[i]? = some x → Rel ι μ v x) → RelL (ι.all Y.own w) (fun _ => none) ds xs.toList :=
   fun hm h1 h2 => mapO_rel g hm ⟨by simpa using h1, fun i v x hv hx => h2 i v x hv (by simpa using hx)⟩
  cases hr <;> simp only [fin] at h <;> try (cases h; done)
  case any => cases h; exact .any _
  case tf => cases h; exact .tf _
  case bool => cases h; exact .bool _
  case int => cases h; exact .int _ _
  case str => cases h; exact .str _
  case nilp => cases h; exact .nilp
  case nilfn => cases h; exact .nilfn
  case nili => cases h; exact .nili
  case lst t xs hd => cases h; exact .lst t xs _ (CellsD.mono (t := .list t) hle hd)
  case nsl => cases h; exact .nsl _
  case sl id t lo m cap L hL h1 h2 h3 =>
   split at h <;> try (cases h; done)
   rename_i t' xs fz hb
   split at h <;> try (cases h; done)
   rename_i e; subst e
   cases h
   rw [hsub]
   have hF : Frozen (ι.all Y.own w) μ id t xs := by
    rcases hI.live _ _ hb with ⟨e, hn⟩ | ⟨L', vs, hM, hR, hl⟩
    ·exact .inl ⟨e, hn⟩
    ·exact .inr ⟨L', vs, hM.mu, hreads hM, CatR.mono (fun _ _ => CellsD.mono hle) hR, hl⟩
   exact .lst _ _ _ (hF.slice (.sl (ι := ι) id t lo m cap L hL h1 h2 h3))
  case sl0 id t lo a =>
   split at h <;> try (cases h; done)
   rename_i t' xs fz hb
   split at h <;> try (cases h; done)
   rename_i e; subst e
   cases h
   rw [hsub]
   exact .lst _ _ _ ⟨a, 0, by simp, by simp, .inl (by simp)⟩
  case ptr id off L hL =>
   split at h <;> try (cases h; done)
   rename_i cs fz hb
   split at h <;> try (cases h; done)
   rename_i ds hds
   split at h <;> try (cases h; done)
   rename_i hoff
   cases h
   obtain ⟨L', vs, hM, hR⟩ := hI.live _ _ hb
   rw [hM.mu] at hL; cases hL
   have hR' := mapO_rel g hds hR
   have hrd := hreads hM
   refine .ipc _ L.b (L.ba + off) (fun i => vs.getD (off + i) .nilIface) (fun i hi => ?_) (fun i v hv => ?_) (fun i => ?_)
   ·have hlt : off + i < vs.length := by have := hR'.1; simp at hi; omega
    have : vs[off + i]? = some (vs.getD (off + i) .nilIface) := by simp [List.getD, hlt]
    rw [Nat.add_assoc]; exact hrd _ _ this
   ·have hv' : ds[off + i]? = some v := by simpa using hv
    obtain ⟨y, hy, hry⟩ := hR'.at hv'
    simp only [List.getD, hy, Option.getD_some]; exact hry
   ·by_cases hlt : off + i < vs.length
    ·have : vs.getD (off + i) .nilIface = vs[off + i] := by simp [List.getD, hlt]
     rw [this]; exact hM.one _ (List.getElem_mem hlt)
    ·have : vs.getD (off + i) .nilIface = .nilIface := by simp [List.getD, List.getElem?_eq_none (show vs.length ≤ off + i by omega)]
     rw [this]; rfl
  case ipc cs b o gf h1 h2 h3 =>
   split at h <;> try (cases h; done)
   rename_i hall
   cases h
   exact .ipc cs b o gf (fun i hi => hle _ _ _ (h1 i hi)) (fun i v hv => (isData_rel (List.all_eq_true.1 hall _ (List.mem_of_getElem? hv)) (h2 i v hv)).mono hle (Mu.le_refl _)) h3
  case ip t y b o us h1 h2 => cases h; exact .ip t y b o us (h1.mono hle) (CellsD.mono hle h2)
  case fn f fs cs xs ys h1 h2 h3 h4 =>
   split at h <;> try (cases h; done)
   rename_i as bs ha hb
   cases h
   have r1 := conv ha h1 h2
   have r2 := conv hb h3 h4
   exact .fn f as bs xs ys (by simpa using r1.1) (fun i v x hv hx => r1.2 i v x hv (by simpa using hx)) (by simpa using r2.1) (fun i v x hv hx => r2.2 i v x hv (by simpa using hx))
  case agg cs xs h1 h2 h3 =>
   split at h <;> try (cases h; done)
   rename_i ds hds
   cases h
   have r1 := conv hds h1 h2
   exact .agg ds xs (by simpa using r1.1) (fun i v x hv hx => r1.2 i v x hv (by simpa using hx)) h3
  case tup cs xs h1 h2 =>
   split at h <;> try (cases h; done)
   rename_i ds hds
   cases h
   have r1 := conv hds h1 h2
   exact .tup ds xs (by simpa using r1.1) (fun i v x hv hx => r1.2 i v x hv (by simpa using hx))
  case ifc t v x hv =>
   split at h <;> try (cases h; done)
   rename_i r' hr'
   cases h
   exact .ifc t r' x (g _ _ _ hr' hv)
end
end Go.AM
end
section
namespace Go.AM
section
variable {P : Program} {N : Nat} {Y : Ctx} {ι ι' : Iota} {μ μ' : Mu} {H : Heap} {w w' : World} {out : Option Nat} {base : Nat}
/-- A block for deferred calls is shut, and known no more. -/
theorem Inv.shut {bl : Blks} {n id : Nat} {L : Loc} (h : Inv P Y ι μ ⟨n, bl⟩ w) (hb : bget id bl = some .dfr) (hL : μ id = some L) : Inv P Y ι μ ⟨n, bdel id bl⟩ (w.putObj L.b (.deferred none)) := by
 obtain ⟨L', h1, h2, h3⟩ := h.live id _ hb
 rw [hL] at h1; cases h1
 have hlt : L.b < w.heap.size := (Array.getElem?_eq_some_iff.1 h3).1
 have hother : ∀ k, k ≠ L.b → (w.putObj L.b (.deferred none)).heap[k]? = w.heap[k]? := fun k hk => World.putObj_heap_other hk
 have hsub := h.del id
 refine ⟨⟨h.below.os, h.below.tape, h.below.output, by rw [World.putObj_size]; exact h.below.size, fun k hk hx => ?_⟩, h.i0, h.iB, fun b o x hx => ?_, h.m0, h.nx, fun i B hB => ?_, hsub.inj, hsub.lt⟩
 ·rw [hother k (Ctx.own_ne h2 hk hx)]; exact h.below.block k hk hx
 ·have := h.rd b o x hx
  have hne : b ≠ L.b := fun e => by subst e; simp [World.cell?, h3] at this
  unfold World.cell? at this ⊢
  simp only at this ⊢
  rw [hother b hne]; exact this
 ·simp only at hB
  rw [bget_bdel] at hB
  split at hB
  ·cases hB
  ·rename_i e
   refine (h.live i B hB).mono (Iota.le_refl _) (Mu.le_refl _) (fun h => h) (fun L' hL' => hother _ (fun e' => e (h.inj i id B _ L' L hB hb hL' hL e'))) (fun _ _ h => h)
theorem loadV_ev {ar : Ar} {bl : Blks} {g : Bool} {k : Nat} {v y : V} (h : loadV bl g k v = some y) : evI ar (.load g k (.c v)) [] bl 0 = some ([], y, []) := by
 unfold loadV at h
 simp only [evI, O.ev]
 split at h <;> try (cases h; done)
 ·split at h <;> try (cases h; done)
  rename_i hb
  split at h <;> try (cases h; done)
  rename_i hc
  simp only [hb, hc, h]
 ·split at h <;> try (cases h; done)
  rename_i hc
  simp only [hc, h]
/-- One result. -/
def resOne (tmps : Array Value) : ResultVar → Sem Value
 | .tmp t => pure (tmps.getD t undef)
 | .cell a t => do loadVar t (← asAddr (tmps.getD a undef))
theorem results_eq (fn : Func) (tmps : Array Value) : results fn tmps = (do
  let vs ← fn.results.mapM (resOne tmps)
  pure (if h : vs.size = 1 then vs[0] else .tuple vs)) := rfl
theorem resV_run (hI : Inv P Y ι μ H w) {env : List (Nat × V)} {ms : List Nat} {tmps : Array Value} (he : EnvR ι μ env tmps) : ∀ {rs : List ResultVar} {res : List RV} {vs : List V}, trR P rs = some res → resV ⟨env, H, ms⟩ res = some vs →
  ∃ xs, (rs.mapM (resOne tmps)).run P w = .ok xs w ∧ RelL ι μ vs xs
 | [], res, vs, h, hv => by cases h; cases hv; exact ⟨[], rfl, .nil⟩
 | .tmp t :: rs, res, vs, h, hv => by
  simp only [trR] at h
  cases hr : trR P rs <;> simp [hr] at h
  subst h
  simp only [resV] at hv
  split at hv <;> try (cases hv; done)
  rename_i vs' hvs
  cases hv
  obtain ⟨xs, h1, h2⟩ := resV_run hI he hr hvs
  exact ⟨tmps.getD t undef :: xs, by simp only [List.mapM_cons, resOne, Sem.run_bind, Sem.run_pure, Result.andThen_ok, h1], .cons (he t) h2⟩
 | .cell a t :: rs, res, vs, h, hv => by
  simp only [trR] at h
  split at h <;> try (cases h; done)
  rename_i k g rs' hk hg hr
  cases h
  simp only [resV] at hv
  split at hv <;> try (cases hv; done)
  rename_i v hl
  split at hv <;> try (cases hv; done)
  rename_i vs' hvs
  cases hv
  obtain ⟨xs, h1, h2⟩ := resV_run hI he hr hvs
  have hev := loadV_ev (ar := std P 0 none 0) hl
  obtain ⟨_, y, hy, hry⟩ := load_sound (env := []) (x := .c (get a env)) hI hk hg (he a) hev (fun b hb => by cases hb)
  have hp : ∃ ad, tmps.getD a undef = .pointer (some ad) := by
   have := he a
   unfold loadV at hl
   split at hl <;> try (cases hl; done)
   ·rename_i hge; rw [hge] at this; generalize tmps.getD a undef = x at this; cases this; exact ⟨_, rfl⟩
   ·rename_i hge; rw [hge] at this; generalize tmps.getD a undef = x at this; cases this; exact ⟨_, rfl⟩
  obtain ⟨ad, hp⟩ := hp
  rw [hp] at hy
  have hy' : (loadVar t ad).run P w = .ok y w := by simpa [Instr.loadAt, Instr.sureAddr] using hy
  exact ⟨y :: xs, by simp only [List.mapM_cons, resOne, Sem.run_bind, hp, asAddr, Sem.run_pure, Result.andThen_ok, hy', h1], .cons hry h2⟩
theorem results_run (hI : Inv P Y ι μ H w) {env : List (Nat × V)} {ms : List Nat} {tmps : Array Value} (he : EnvR ι μ env tmps) {func : Func} {res : List RV} {vs : List V} (h : trR P func.results.toList = some res)
  (hv : resV ⟨env, H, ms⟩ res = some vs) : ∃ x, (results func tmps).run P w = .ok x w ∧ ∀ tys, Rel ι μ (mkRes (normL tys vs)) x := by
 obtain ⟨xs, h1, h2⟩ := resV_run hI he h hv
 have hm : (func.results.mapM (resOne tmps)).run P w = .ok xs.toArray w := by
  rw [Array.mapM_eq_mapM_toList]
  simp [h1]
 refine ⟨if h : xs.toArray.size = 1 then xs.toArray[0] else .tuple xs.toArray, ?_, ?_⟩
 ·rw [results_eq, Sem.run_bind, hm]
  rfl
 ·intro tys
  replace h2 := normL_rel (ts := tys) h2
  generalize normL tys vs = vs at h2
  match xs, vs, h2 with
  | [], vs, h2 => 
   have : vs = [] := List.length_eq_zero_iff.1 h2.1
   subst this
   exact .tup _ _ rfl (fun i v x hv => by simp at hv)
  | [x], [v], h2 => 
   obtain ⟨x', r, e, h3, _⟩ := h2.uncons
   cases e; exact h3
  | x :: y :: r, v :: v' :: r', h2 =>
   rw [dif_neg (by simp)]
   exact .tup _ _ (by simpa using h2.1) (fun i v x hv hx => h2.2 i v x hv (by simpa using hx))
  | [x], [], h2 => exact absurd h2.1 (by simp)
  | [x], v :: v' :: r', h2 => exact absurd h2.1 (by simp)
  | x :: y :: r, [], h2 => exact absurd h2.1 (by simp)
  | x :: y :: r, [v], h2 => exact absurd h2.1 (by simp)
/-- A function leaves. -/
theorem leaves_ok {func : Func} {res : List RV} (hres : trR P func.results.toList = some res) {R : Ending → World → Prop} {tmps : Array Value} {env : List (Nat × V)} {n : Nat} {vs : List V} :
  ∀ {ms : List Nat} {bl bl' : Blks} {ds : List Deferred} {w : World}, Inv P Y ι μ ⟨n, bl⟩ w → EnvR ι μ env tmps → MarksR μ ms ds → shutAll ms bl = some bl' → resV ⟨env, ⟨n, bl'⟩, []⟩ res = some vs →
   (∀ x w', Inv P Y ι μ ⟨n, bl'⟩ w' → (∀ tys, Rel ι μ (mkRes (normL tys vs)) x) → R (.returned x) w') → LeavesInM Fence.wide 0 P func tmps R ds .returning w
 | [], bl, bl', ds, w, hI, he, hm, hs, hv, hR => by
  cases hs; cases hm
  obtain ⟨x, h1, h2⟩ := results_run hI he hres hv
  exact ⟨x, h1, hR x w hI h2⟩
 | id :: ms, bl, bl', ds, w, hI, he, ⟨L, d, ds', e1, hL, e2, hm⟩, hs, hv, hR => by
  subst e1; subst e2
  unfold shutAll at hs
  split at hs <;> try (cases hs; done)
  rename_i hb
  obtain ⟨L', h1, h2, h3⟩ := hI.live id _ hb
  rw [hL] at h1; cases h1
  exact ⟨by simp, .inl ⟨L.b, _, rfl, run_takeDeferred h3, leaves_ok hres (hI.shut hb hL) he hm hs hv hR⟩⟩
theorem args_get : ∀ {vs : List V} {n t : Nat}, get t (args n vs) = if n ≤ t then vs.getD (t - n) .any else .any
 | [], n, t => by simp [args, get]
 | v :: r, n, t => by
  rw [args, get_cons]
  by_cases h : n = t
  ·subst h; simp
  ·rw [if_neg h, args_get]
   by_cases h2 : n ≤ t
   ·rw [if_pos (by omega), if_pos h2, show t - n = (t - (n + 1)) + 1 by omega]; rfl
   ·rw [if_neg (by omega), if_neg h2]
theorem enters_of {f : Nat} {func : Func} (hf : P.funcs[f]? = some func) (hb : func.body.isSome = true) (hn : (func.name == "runtime.NumGoroutine") = false) : Enters P f := fun args w => by
 have h1 : ¬ func.body = none := by cases h : func.body <;> simp_all
 have h2 : ¬ func.name = "runtime.NumGoroutine" := by simpa using hn
 simp [callFunc, hf, h1, h2]
/-- A function's body, run from its arguments. -/
theorem body_ok {f : Nat} {func : Func} {fn : Fn} (hf : P.funcs[f]? = some func) (htr : trF P func = some fn) (hdraw : DrawOk P fn.N none base) {vs : List V} {H : Heap} (hlen : vs.length ≤ fn.np) {Q : Ex → St → Prop}
  (h : wpE (std P fn.N none base) fn.body ⟨args 0 vs, H, []⟩ Q) {Y : Ctx} {ι : Iota} {μ : Mu} {w : World} {as : Array Value} (hro : Y.ro = none) (hbase : Y.base base) (hI : Inv P Y ι μ H w) (hr : RelL ι μ vs as.toList)
  {R : Ending → World → Prop} (hR : ∀ ι' μ' S' a' w' e', Rep P fn.N Y ι' μ' S' a' w' → Q e' S' → (e' = .normal ∨ e' = .ret) ∧ LeavesInM Fence.wide 0 P func a'.tmps R a'.defers .returning w') :
  CallsIn Fence.wide 0 P f as w R := by
 unfold trF at htr
 split at htr <;> try (cases htr; done)
 rename_i c hb
 split at htr <;> try (cases htr; done)
 rename_i b rs hc hrs
 split at htr <;> try (cases htr; done)
 rename_i hnp
 cases htr
 simp only at *
 have hF : Y.F = Fence.wide := by simp [Ctx.F, hro, Fence.wide]
 have hsize : as.size = vs.length := by have := hr.1; simp at this; omega
 have hrep : Rep P func.ntmps Y ι μ ⟨args 0 vs, H, []⟩ { tmps := as ++ Array.replicate (func.ntmps - as.size) undef, defers := [] } w := by
  refine ⟨fun t => ?_, by simp; omega, hI, rfl⟩
  simp only [args_get, Nat.zero_le, if_true, Nat.sub_zero]
  by_cases ht : t < vs.length
  ·have hv : vs[t]? = some (vs.getD t .any) := by simp [List.getD, ht]
   obtain ⟨x, hx, hrx⟩ := hr.at hv
   have : (as ++ Array.replicate (func.ntmps - as.size) undef).getD t undef = x := by
    rw [Array.getD_eq_getD_getElem?, Array.getElem?_append_left (by omega)]
    simp at hx; simp [hx]
   rw [this]; exact hrx
  ·have : vs.getD t .any = .any := by simp [List.getD, List.getElem?_eq_none (show vs.length ≤ t by omega)]
   rw [this]; exact .any _
 refine callsIn_of_wp_marks hf hb trivial ?_
 have hwp := wpE_sound hdraw c hc h Y ι μ _ w hro hbase hrep
 rw [hF] at hwp
 refine wpIn_mono hwp fun e a' w' hp => ?_
 obtain ⟨ι', μ', S', e', h1, h2, h3⟩ := hp
 obtain ⟨h4, h5⟩ := hR ι' μ' S' a' w' e' h1 h3
 rcases h4 with rfl | rfl <;> cases h2 <;> exact h5
end
end Go.AM
end
section
namespace Go.AM
/-- New names to old ones. -/
def renV (π : List Nat) : Nat → V → Option V
 | 0, _ => none
 | n + 1, v => match v with
  | .sl id t lo m => match π[id]? with
   | some i => some (.sl i t lo m)
   | none => none
  | .ptr id o => match π[id]? with
   | some i => some (.ptr i o)
   | none => none
  | .ep id t j p => match π[id]? with
   | some i => some (.ep i t j p)
   | none => none
  | .yl id => match π[id]? with
   | some i => some (.yl i)
   | none => none
  | .ipc cs => match mapO (renV π n) cs with
   | some cs => some (.ipc cs)
   | none => none
  | .fn f a b => match mapO (renV π n) a with
   | some a => match mapO (renV π n) b with
    | some b => some (.fn f a b)
    | none => none
   | none => none
  | .agg cs => match mapO (renV π n) cs with
   | some cs => some (.agg cs)
   | none => none
  | .tup cs => match mapO (renV π n) cs with
   | some cs => some (.tup cs)
   | none => none
  | .ifc t v => match renV π n v with
   | some v => some (.ifc t v)
   | none => none
  | v => some v
def EntV (π : List Nat) (v' v : V) : Prop := match v' with
 | .any => True
 | v' => match renV π 8 v' with
  | some u => v = u
  | none => False
def EntE (π : List Nat) (env : List (Nat × V)) : List (Nat × V) → Prop
 | [] => True
 | [(t, v)] => EntV π v (get t env)
 | (t, v) :: r => EntV π v (get t env) ∧ EntE π env r
def renB (π : List Nat) : Blk → Option Blk
 | .cells cs fz => match mapO (renV π 8) cs with
  | some cs => some (.cells cs fz)
  | none => none
 | .arr t xs fz => some (.arr t xs fz)
 | .dfr => some .dfr
 | .loop _ _ _ _ _ _ _ _ => none
def EntB (π : List Nat) (bl : Blks) : Blks → Prop
 | [] => True
 | (id, b) :: r => (match π[id]? with
  | some i => match renB π b with
   | some b' => bget i bl = some b'
   | none => False
  | none => False) ∧ EntB π bl r
/-- What S stands for, S' stands for, too; 'π': the old names of S''s blocks. -/
def Ent (base : Nat) (π : List Nat) (S S' : St) : Prop :=
 (π.take base = List.range base ∧ π.Nodup ∧ S'.H.next = π.length ∧ S'.ms.map (fun i => π[i]?) = S.ms.map some) ∧ EntE π S.env S'.env ∧ EntB π S.H.bl S'.H.bl
section
variable {P : Program} {N : Nat} {Y : Ctx} {ι ι' : Iota} {μ μ' : Mu} {H : Heap} {w w' : World} {out : Option Nat} {base : Nat} {π : List Nat}
def Mu.ren (μ : Mu) (π : List Nat) : Mu := fun id => (π[id]?).bind μ
theorem mapO_ren {g : V → Option V} (hg : ∀ v u x, g v = some u → Rel ι μ u x → Rel ι' μ' v x) : ∀ {cs ds : List V} {xs : List Value}, mapO g cs = some ds → RelL ι μ ds xs → RelL ι' μ' cs xs
 | [], ds, xs, h, hr => by cases h; rw [hr.of_nil]; exact .nil
 | v :: r, ds, xs, h, hr => by
  unfold mapO at h
  split at h <;> try (cases h; done)
  rename_i y hy
  split at h <;> try (cases h; done)
  rename_i ys hys
  cases h
  obtain ⟨x, xs', rfl, h1, h2⟩ := hr.uncons
  exact .cons (hg _ _ _ hy h1) (mapO_ren hg hys h2)
theorem renV_rel : ∀ {n : Nat} {v u : V} {x : Value}, renV π n v = some u → Rel ι μ u x → Rel ι (μ.ren π) v x
 | 0, v, u, x, h, _ => by cases h
 | n + 1, v, u, x, h, hr => by
  have g : ∀ v u x, renV π n v = some u → Rel ι μ u x → Rel ι (μ.ren π) v x := fun v u x h hr => renV_rel h hr
  have lift : ∀ {cs ds : List V} {xs : Array Value}, mapO (renV π n) cs = some ds → ds.length = xs.size → (∀ (i : Nat) v x, ds[i]? = some v → xs[i]? = some x → Rel ι μ v x) → RelL ι (μ.ren π) cs xs.toList :=
   fun hm h1 h2 => mapO_ren g hm ⟨by simpa using h1, fun i v x hv hx => h2 i v x hv (by simpa using hx)⟩
  cases v <;> simp only [renV] at h
  case any => exact .any _
  case tf => cases h; cases hr; exact .tf _
  case bool => cases h; cases hr; exact .bool _
  case int => cases h; cases hr; exact .int _ _
  case str => cases h; cases hr; exact .str _
  case nilp => cases h; cases hr; exact .nilp
  case nilfn => cases h; cases hr; exact .nilfn
  case nili => cases h; cases hr; exact .nili
  case lst t xs => cases h; cases hr with | lst _ _ _ hd => exact .lst t xs _ hd
  case nsl => cases h; cases hr; exact .nsl _
  case sl id t lo m =>
   split at h <;> try (cases h; done)
   rename_i i hi; cases h
   cases hr with
   | sl _ _ _ _ cap L hL h1 h2 h3 => exact .sl id t lo m cap L (by simp [Mu.ren, hi, hL]) h1 h2 h3
   | sl0 => exact .sl0 _ _ _ _
  case ptr id o =>
   split at h <;> try (cases h; done)
   rename_i i hi; cases h
   cases hr with | ptr _ _ L hL => exact .ptr id o L (by simp [Mu.ren, hi, hL])
  case ep id t j p =>
   split at h <;> try (cases h; done)
   rename_i i hi; cases h
   cases hr with | ep _ _ _ _ L hL => exact .ep id t j p L (by simp [Mu.ren, hi, hL])
  case yl id =>
   split at h <;> try (cases h; done)
   rename_i i hi; cases h
   cases hr with | yl _ L hL => exact .yl id L (by simp [Mu.ren, hi, hL])
  case ipc cs =>
   split at h <;> try (cases h; done)
   rename_i ds hds; cases h
   cases hr with
   | ipc _ b o gf h1 h2 h3 =>
    have hR : RelL ι μ ds ((List.range ds.length).map gf) := ⟨by simp, fun i v x hv hx => by
     have hi := (List.getElem?_eq_some_iff.1 hv).1
     simp [hi] at hx; subst hx; exact h2 i v hv⟩
    have hR' := mapO_ren g hds hR
    have hl : cs.length = ds.length := by have := hR'.1; simpa using this
    exact .ipc cs b o gf (fun i hi => h1 i (by omega)) (fun i v hv => hR'.2 i v (gf i) hv (by
     have hi := (List.getElem?_eq_some_iff.1 hv).1
     simp [show i < ds.length by omega])) h3
  case ip t y => cases h; cases hr with | ip _ _ b o us h1 h2 => exact .ip t y b o us h1 h2
  case fn f fs cs =>
   split at h <;> try (cases h; done)
   rename_i as ha
   split at h <;> try (cases h; done)
   rename_i bs hb; cases h
   cases hr with
   | fn _ _ _ xs ys h1 h2 h3 h4 =>
    have r1 := lift ha h1 h2
    have r2 := lift hb h3 h4
    exact .fn f fs cs xs ys (by simpa using r1.1) (fun i v x hv hx => r1.2 i v x hv (by simpa using hx)) (by simpa using r2.1) (fun i v x hv hx => r2.2 i v x hv (by simpa using hx))
  case agg cs =>
   split at h <;> try (cases h; done)
   rename_i ds hds; cases h
   cases hr with
   | agg _ xs h1 h2 h3 =>
    have r1 := lift hds h1 h2
    exact .agg cs xs (by simpa using r1.1) (fun i v x hv hx => r1.2 i v x hv (by simpa using hx)) h3
  case tup cs =>
   split at h <;> try (cases h; done)
   rename_i ds hds; cases h
   cases hr with
   | tup _ xs h1 h2 =>
    have r1 := lift hds h1 h2
    exact .tup cs xs (by simpa using r1.1) (fun i v x hv hx => r1.2 i v x hv (by simpa using hx))
  case ifc t v =>
   split at h <;> try (cases h; done)
   rename_i u' hu; cases h
   cases hr with | ifc _ _ x hx => exact .ifc t v x (g _ _ _ hu hx)
theorem EntV_rel {v' v : V} {x : Value} (h : EntV π v' v) (hr : Rel ι μ v x) : Rel ι (μ.ren π) v' x := by
 unfold EntV at h
 split at h
 ·exact .any _
 ·split at h
  ·rename_i u hu; subst h; exact renV_rel hu hr
  ·exact h.elim
theorem EntE_rel {tmps : Array Value} {env : List (Nat × V)} (he : EnvR ι μ env tmps) : ∀ {env' : List (Nat × V)}, EntE π env env' → EnvR ι (μ.ren π) env' tmps
 | [], _ => fun t => .any _
 | [(t, v)], h => fun i => by
  rw [get_cons]; split
  ·rename_i e; subst e; exact EntV_rel h (he _)
  ·exact .any _
 | (t, v) :: p :: r, h => fun i => by
  rw [get_cons]; split
  ·rename_i e; subst e; exact EntV_rel h.1 (he _)
  ·exact EntE_rel he h.2 i
theorem EntB_get : ∀ {bl bl' : Blks}, EntB π bl bl' → ∀ {id : Nat} {b : Blk}, bget id bl' = some b → ∃ i b', π[id]? = some i ∧ renB π b = some b' ∧ bget i bl = some b'
 | bl, [], _, id, b, hb => by simp [bget] at hb
 | bl, (s, c) :: r, h, id, b, hb => by
  rw [bget_cons] at hb
  split at hb
  ·rename_i e; subst e; cases hb
   have h1 := h.1
   split at h1
   ·rename_i i hi
    split at h1
    ·rename_i b' hb'; exact ⟨i, b', hi, hb', h1⟩
    ·exact h1.elim
   ·exact h1.elim
  ·exact EntB_get h.2 hb
theorem Ent.rep {S S' : St} (h : Ent base π S S') (hbase : Y.base base) {a : Act} (hR : Rep P N Y ι μ S a w) : Rep P N Y ι (μ.ren π) S' a w := by
 obtain ⟨⟨h1, h2, h3, h4⟩, h5, h6⟩ := h
 have hI := hR.inv
 have hle : Y.m0.le (μ.ren π) := fun id L hL => by
  have hlt : id < base := by
   rcases Nat.lt_or_ge id base with h | h
   ·exact h
   ·rw [hbase id h] at hL; cases hL
  have : π[id]? = some id := by
   have e1 : (π.take base)[id]? = (List.range base)[id]? := by rw [h1]
   rw [List.getElem?_take, if_pos hlt, List.getElem?_range hlt] at e1
   exact e1
  simp [Mu.ren, this, hI.m0 id L hL]
 refine ⟨EntE_rel hR.env h5, hR.sz, ⟨hI.below, hI.i0, hI.iB, hI.rd, hle, fun id hid => ?_, fun id B hB => ?_, ?_, fun id B hB => ?_⟩, ?_⟩
 ·have : π[id]? = none := List.getElem?_eq_none (by omega)
  simp [Mu.ren, this]
 ·obtain ⟨i, b', e1, e2, e3⟩ := EntB_get h6 hB
  have hb := hI.live i b' e3
  have hmu : (μ.ren π) id = μ i := by simp [Mu.ren, e1]
  cases B with
  | cells cs fz =>
   simp only [renB] at e2
   split at e2 <;> try (cases e2; done)
   rename_i ds hds
   cases e2
   obtain ⟨L, vs, hM, hRL⟩ := hb
   exact ⟨L, vs, ⟨by rw [hmu]; exact hM.mu, hM.old, hM.row, hM.fits, hM.one, hM.fzT, hM.fzF⟩, mapO_ren (fun _ _ _ h hr => renV_rel h hr) hds hRL⟩
  | arr t xs fz =>
   cases e2
   rcases hb with ⟨e, hn⟩ | ⟨L, vs, hM, hc, hl⟩
   ·exact .inl ⟨e, by rw [hmu]; exact hn⟩
   ·exact .inr ⟨L, vs, ⟨by rw [hmu]; exact hM.mu, hM.old, hM.row, hM.fits, hM.one, hM.fzT, hM.fzF⟩, hc, hl⟩
  | loop => cases e2
  | dfr =>
   cases e2
   obtain ⟨L, q1, q2, q3⟩ := hb
   exact ⟨L, by rw [hmu]; exact q1, q2, q3⟩
 ·intro id id' B B' L L' hb hb' hm hm' e
  obtain ⟨i, b, e1, _, e3⟩ := EntB_get h6 hb
  obtain ⟨i', b', e1', _, e3'⟩ := EntB_get h6 hb'
  have hmu : (μ.ren π) id = μ i := by simp [Mu.ren, e1]
  have hmu' : (μ.ren π) id' = μ i' := by simp [Mu.ren, e1']
  rw [hmu] at hm; rw [hmu'] at hm'
  have := hI.inj i i' b b' L L' e3 e3' hm hm' e
  subst this
  obtain ⟨hlt, q1⟩ := List.getElem?_eq_some_iff.1 e1
  obtain ⟨hlt', q2⟩ := List.getElem?_eq_some_iff.1 e1'
  exact (List.getElem_inj h2).1 (q1.trans q2.symm)
 ·obtain ⟨i, b', e1, _, _⟩ := EntB_get h6 hB
  have := (List.getElem?_eq_some_iff.1 e1).1
  omega
 ·have key : ∀ {ms ms' : List Nat} {ds : List Deferred}, ms'.map (fun i => π[i]?) = ms.map some → MarksR μ ms ds → MarksR (μ.ren π) ms' ds := by
   intro ms
   induction ms with
   | nil => intro ms' ds e hm; cases ms' <;> simp at e; exact hm
   | cons i ms ih =>
    intro ms' ds e hm
    cases ms' with
    | nil => simp at e
    | cons i' ms' =>
     simp only [List.map_cons, List.cons.injEq] at e
     obtain ⟨L, d, ds', q1, q2, q3, q4⟩ := hm
     exact ⟨L, d, ds', q1, by simp [Mu.ren, e.1, q2], q3, ih e.2 q4⟩
  exact key h4 hR.ms
/-- A call whose arguments are data, by its contract. -/
theorem acall_data {f : Nat} {vs : List V} {r : V} (h : pcall P f vs r) (hd : vs.all (isData 8) = true) {K : V → Heap → Prop} (hK : K r H) : acall P f vs H K := by
 refine ⟨h.1, fun Y ι μ w as hI hr => ?_⟩
 have hr' : RelL ι (fun _ => none) vs as.toList := ⟨hr.1, fun i v x hv hx => isData_rel (List.all_eq_true.1 hd _ (List.mem_of_getElem? hv)) (hr.2 i v x hv hx)⟩
 refine (h.2 ι w as hI.rd hr').mono ?_
 rintro e w' ⟨v, ι', rfl, hi, hib, hrd, hbel, hrv⟩
 refine ⟨v, ι', μ, r, H, rfl, hi, Mu.le_refl _, ?_, hrv.mono (Iota.le_refl _) (fun _ _ h => by cases h), hK⟩
 have hsz := hI.below.size
 refine ⟨hI.below.then hbel, Iota.le_trans hI.i0 hi, fun b o hb hx => by rw [hib b o (by omega)]; exact hI.iB b o hb hx, hrd, hI.m0, hI.nx, fun id B hB => ?_, hI.inj, hI.lt⟩
 have hlive := hI.live id B hB
 refine hlive.mono hi (Mu.le_refl _) (fun h => h) (fun L hL => hbel.block _ (hlive.loc hL).2) (fun L hL ho o => ?_)
 rw [hib _ _ (hlive.loc hL).2]; exact ho o
end
end Go.AM
end
