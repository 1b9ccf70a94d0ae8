/- A small typed machine: its data, its values, its heap, its operations. Nothing here speaks of the model's runs. -/
import Derived.Deep.MidRow
import Derived.Deep.AppendSrc
import Derived.RangeFuncNested
import Derived.RangeFuncLeaves
import Derived.KernelRfl
set_option linter.unusedVariables false
set_option linter.unusedSimpArgs false
namespace Go.AM

/-- The types of plain data. -/
inductive Ty where
  | unit | bool | str | int (k : IntKind) | list (t : Ty) | prod (a b : Ty)
  deriving DecidableEq

@[reducible] def Ty.den : Ty → Type
  | .unit => Unit
  | .bool => Bool
  | .str => ByteArray
  | .int _ => Int
  | .list t => List t.den
  | .prod a b => a.den × b.den

def Ty.sz : Ty → Nat
  | .unit => 0
  | .prod a b => a.sz + b.sz
  | .bool => 1
  | .str => 1
  | .int _ => 1
  | .list _ => 1

def Ty.zero : (t : Ty) → t.den
  | .unit => ()
  | .bool => false
  | .str => ByteArray.empty
  | .int _ => (0 : Int)
  | .list _ => []
  | .prod a b => (a.zero, b.zero)

/-- A value of the machine: 'any' is one of which nothing is known; 'sl', 'ptr', 'ep', 'yl' name a block of the machine's heap, all else is data. -/
inductive V where
  | any
  | tf (b : Bool)
  | bool (b : Bool)
  | int (k : IntKind) (n : Int)
  | str (s : ByteArray)
  | nilp
  | nilfn
  | nili
  | lst (t : Ty) (xs : List t.den)
  | nsl
  | sl (id : Nat) (t : Ty) (lo n : Nat)
  | ptr (id off : Nat)
  | ipc (cells : List V)
  | ep (id : Nat) (t : Ty) (i : Nat) (p : List Bool)
  | ip (t : Ty) (x : t.den)
  | fn (f : Nat) (first captured : List V)
  | yl (id : Nat)
  | agg (cs : List V)
  | tup (vs : List V)
  | ifc (t : TypeId) (v : V)

instance : Inhabited V := ⟨.any⟩

/-- The cells of a value that is known. -/
def V.cells? : V → Option (List V)
  | .agg cs => some cs
  | .any => none
  | .tup _ => none
  | v => some [v]

/-- What stands in a slot: nothing known if nothing was put there. -/
def get (t : Nat) : List (Nat × V) → V
  | [] => .any
  | (s, v) :: r => match Nat.beq s t with
    | true => v
    | false => get t r

inductive O where
  | t (n : Nat)
  | c (v : V)

def O.ev (x : O) (env : List (Nat × V)) : V :=
  match x with
  | .t n => get n env
  | .c v => v

inductive IBin where
  | add | sub | mul | quo | rem | and | or | xor | andNot | shl | shr | eql | neq | lss | leq | gtr | geq
  deriving DecidableEq

/-- What a plain cell holds. -/
inductive Kd where
  | b | i | s

/-- The operations, their types resolved. -/
inductive I where
  | mv (x : O)
  | pick (c a b : O)
  | alloc (z : List V)
  | box (x : O)
  | build (z : List V) (parts : List (Nat × Nat × O))
  | bslice (t : Ty) (xs : List O)
  | load (agg : Bool) (k : Nat) (x : O)
  | store (k : Nat) (a x : O)
  | bin (op : IBin) (x y : O)
  | eqb (neg : Bool) (x y : O)
  | eqs (neg : Bool) (ks : List Kd) (x y : O)
  | neg (x : O)
  | not (x : O)
  | conv (k : IntKind) (x : O)
  | fld (off : Nat) (path : List Bool) (x : O)
  | field (agg : Bool) (off k : Nat) (x : O)
  | idx (esz : Nat) (x i : O)
  | idxA (len esz : Nat) (x i : O)
  | ext (k : Nat) (x : O)
  | len (x : O)
  | lens (x : O)
  | lenA (n : Nat)
  | append (esz : Nat) (x y : O)
  | mkslice (t : Ty) (n : O)
  | mkfn (f : Nat) (first captured : List O)
  | slice (esz : Nat) (x : O) (lo hi mx : Option O)
  | minmax (mx : Bool) (x : O) (ys : List O)

/-- An operation or a call, with its slot and its guard (a slot, and what must stand there). -/
inductive Itm where
  | op (dst : Option Nat) (g : Option (Nat × Bool)) (i : I)
  | call (dst : Option Nat) (g : Option (Nat × Bool)) (f : O) (args : List O) (tys : List (Option Ty))

/-- Code. 'preds': of a region whose order is drawn, what stands before each item whatever the order. -/
inductive C where
  | skip
  | reg (items : List Itm)
  | draw (preds : List (List Nat)) (items : List Itm)
  | seq (a b : C)
  | cond (c : O) (a b : C)
  | block (id : Nat) (c : C)
  | loop (c : C)
  | exit (id : Nat)
  | ret
  | rangeF (f : O) (params : List Nat) (assign body : C)

inductive Ex where
  | normal
  | exit (id : Nat)
  | ret

inductive LState where
  | ready | busy | done | exhausted
  deriving DecidableEq

/-- A block of the machine's heap: cells of known number, or a list of data; 'fz': it is written no more. A loop over a function: its record. -/
inductive Blk where
  | cells (cs : List V) (fz : Bool)
  | arr (t : Ty) (xs : List t.den) (fz : Bool)
  | loop (st : LState) (jump : Option Ex) (d : Nat) (env : List (Nat × V)) (params : List Nat) (assign body : C) (N : Nat)
  | dfr

abbrev Blks := List (Nat × Blk)

def bget (id : Nat) : Blks → Option Blk
  | [] => none
  | (s, b) :: r => match Nat.beq s id with
    | true => some b
    | false => bget id r

def bdel (id : Nat) : Blks → Blks
  | [] => []
  | (s, b) :: r => match Nat.beq s id with
    | true => bdel id r
    | false => (s, b) :: bdel id r

structure Heap where
  next : Nat
  bl : Blks

/-- What an operation does to the heap. -/
abbrev Upd := List (Nat × Option Blk)

def bupd : Upd → Blks → Blks
  | [], bl => bl
  | (id, none) :: r, bl => bupd r (bdel id bl)
  | (id, some b) :: r, bl => bupd r ((id, b) :: bdel id bl)

/-- 'mk': the blocks for the rounds' deferred calls that this activation has laid. -/
structure St where
  env : List (Nat × V)
  H : Heap
  ms : List Nat

/-- What stays closed while the machine runs on names: arithmetic, lists of unknown length, and what is said of calls and loops. -/
structure Ar where
  add : Int → Int → Int
  sub : Int → Int → Int
  mul : Int → Int → Int
  quo : Int → Int → Int
  rem : Int → Int → Int
  bits : IBin → IntKind → Int → Int → Int
  shr : Int → Int → Int
  shl : Int → Int → Int
  imin : Int → Int → Int
  imax : Int → Int → Int
  eq : Int → Int → Bool
  lt : Int → Int → Bool
  le : Int → Int → Bool
  beq : Bool → Bool → Bool
  seq : ByteArray → ByteArray → Bool
  slt : ByteArray → ByteArray → Bool
  slen : ByteArray → Int
  band : Bool → Bool → Bool
  bnot : Bool → Bool
  bite : Bool → Bool → Bool → Bool
  rng : IntKind → Int → Bool
  inb : Int → Int → Bool
  ilt : Nat → Nat → Bool
  len : {α : Type} → List α → Nat
  get : {α : Type} → α → List α → Nat → α
  set : {α : Type} → List α → Nat → α → List α
  sub' : {α : Type} → List α → Nat → Nat → List α
  app : {α : Type} → List α → List α → List α
  rep : {α : Type} → Nat → α → List α
  nadd : Nat → Nat → Nat
  nsub : Nat → Nat → Nat
  toN : Int → Nat
  call : Nat → List V → Heap → (V → Heap → Prop) → Prop
  pcall : Nat → List V → V → Prop
  loop : C → St → (Ex → St → Prop) → Prop
  round : Nat → List V → Heap → (V → Heap → Prop) → Prop
  rangeF : O → List Nat → C → C → St → (Ex → St → Prop) → Prop

/-- Data from one type at another that is the same. -/
def castL (t t' : Ty) (xs : List t.den) : Option (List t'.den) := if h : t = t' then some (h ▸ xs) else none

def toVs : (t : Ty) → t.den → List V
  | .unit, _ => []
  | .bool, b => [.bool b]
  | .str, s => [.str s]
  | .int k, n => [.int k n]
  | .list t, xs => [.lst t xs]
  | .prod a b, x => toVs a x.1 ++ toVs b x.2

/-- Data out of cells; the blocks that are read for it are written no more. -/
def ofVs (ar : Ar) (bl : Blks) : (t : Ty) → List V → Option (t.den × Upd × List V)
  | .unit, vs => some ((), [], vs)
  | .bool, .bool b :: r => some (b, [], r)
  | .bool, .tf b :: r => some (b, [], r)
  | .str, .str s :: r => some (s, [], r)
  | .int k, .int k' n :: r => if k = k' then some (n, [], r) else none
  | .list t, .lst t' xs :: r => match castL t' t xs with
    | some ys => some (ys, [], r)
    | none => none
  | .list _, .nsl :: r => some ([], [], r)
  | .list t, .sl id t' lo n :: r => match bget id bl with
    | some (.arr t'' xs _) =>
      if t' = t'' then
        match castL t'' t xs with
        | some ys => some (ar.sub' ys lo n, [(id, some (.arr t'' xs true))], r)
        | none => none
      else none
    | _ => none
  | .prod a b, vs => match ofVs ar bl a vs with
    | some (x, u, r) => match ofVs ar bl b r with
      | some (y, u', r') => some ((x, y), u ++ u', r')
      | none => none
    | none => none
  | _, _ => none

def getP : (t : Ty) → t.den → List Bool → Option (Σ t' : Ty, t'.den)
  | t, x, [] => some ⟨t, x⟩
  | .prod a _, x, false :: p => getP a x.1 p
  | .prod _ b, x, true :: p => getP b x.2 p
  | _, _, _ => none

def Ty.atP : Ty → List Bool → Option Ty
  | t, [] => some t
  | .prod a _, false :: p => a.atP p
  | .prod _ b, true :: p => b.atP p
  | _, _ => none

def Ty.offP : Ty → List Bool → Nat
  | .prod a _, false :: p => a.offP p
  | .prod a b, true :: p => a.sz + b.offP p
  | _, _ => 0

/-- Data with a part set out of cells. -/
def setP (ar : Ar) (bl : Blks) : (t : Ty) → t.den → List Bool → List V → Option (t.den × Upd)
  | t, _, [], vs => match ofVs ar bl t vs with
    | some (y, u, []) => some (y, u)
    | _ => none
  | .prod a _, x, false :: p, vs => match setP ar bl a x.1 p vs with
    | some (y, u) => some ((y, x.2), u)
    | none => none
  | .prod _ b, x, true :: p, vs => match setP ar bl b x.2 p vs with
    | some (y, u) => some ((x.1, y), u)
    | none => none
  | _, _, _, _ => none

/-- A list of data out of values, one element each. -/
def ofVl (ar : Ar) (bl : Blks) (t : Ty) : List V → Option (List t.den × Upd)
  | [] => some ([], [])
  | v :: r => match v.cells? with
    | some vs => match ofVs ar bl t vs with
      | some (x, u, []) => match ofVl ar bl t r with
        | some (xs, u') => some (x :: xs, u ++ u')
        | none => none
      | _ => none
    | none => none

/-- Cells off .. off + k of a list, if they are there. -/
def cut (off k : Nat) (cs : List V) : Option (List V) :=
  if off + k ≤ cs.length then some ((cs.drop off).take k) else none

def wrapC (agg : Bool) (cs : List V) : Option V :=
  match agg, cs with
  | true, cs => some (.agg cs)
  | false, [c] => some c
  | false, _ => none

def setCs : Nat → List V → List V → Option (List V)
  | 0, vs, cs => if vs.length ≤ cs.length then some (vs ++ cs.drop vs.length) else none
  | off + 1, vs, c :: cs => match setCs off vs cs with
    | some r => some (c :: r)
    | none => none
  | _ + 1, _, [] => none

def fillV : List (Nat × Nat × O) → List (Nat × V) → List V → Option (List V)
  | [], _, cs => some cs
  | (off, k, x) :: r, env, cs =>
    match (x.ev env).cells? with
    | some vs => if vs.length = k then (match setCs off vs cs with
      | some cs' => fillV r env cs'
      | none => none) else none
    | none => none

def notIn (id : Nat) : Upd → Bool
  | [] => true
  | (s, _) :: r => match Nat.beq s id with
    | true => false
    | false => notIn id r

/-- What an operation comes to: what must hold, its value, what it does to the heap. -/
abbrev Out := Option (List Bool × V × Upd)

def intBin (ar : Ar) (op : IBin) (k : IntKind) (a b : Int) : Out :=
  match op with
  | .add => match ar.add a b with | z => some ([ar.rng k z], .int k z, [])
  | .sub => match ar.sub a b with | z => some ([ar.rng k z], .int k z, [])
  | .mul => match ar.mul a b with | z => some ([ar.rng k z], .int k z, [])
  | .quo => match ar.quo a b with | z => some ([ar.bnot (ar.eq b 0), ar.rng k z], .int k z, [])
  | .rem => some ([ar.bnot (ar.eq b 0)], .int k (ar.rem a b), [])
  | .and => some ([], .int k (ar.bits .and k a b), [])
  | .or => some ([], .int k (ar.bits .or k a b), [])
  | .xor => some ([], .int k (ar.bits .xor k a b), [])
  | .andNot => some ([], .int k (ar.bits .andNot k a b), [])
  | .shl => none
  | .shr => none
  | .eql => some ([], .bool (ar.eq a b), [])
  | .neq => some ([], .bool (ar.bnot (ar.eq a b)), [])
  | .lss => some ([], .bool (ar.lt a b), [])
  | .leq => some ([], .bool (ar.le a b), [])
  | .gtr => some ([], .bool (ar.lt b a), [])
  | .geq => some ([], .bool (ar.le b a), [])

def strBin (ar : Ar) (op : IBin) (a b : ByteArray) : Out :=
  match op with
  | .eql => some ([], .bool (ar.seq a b), [])
  | .neq => some ([], .bool (ar.bnot (ar.seq a b)), [])
  | .lss => some ([], .bool (ar.slt a b), [])
  | .leq => some ([], .bool (ar.bite (ar.slt a b) true (ar.seq a b)), [])
  | .gtr => some ([], .bool (ar.bnot (ar.bite (ar.slt a b) true (ar.seq a b))), [])
  | .geq => some ([], .bool (ar.bnot (ar.slt a b)), [])
  | _ => none

def shBin (ar : Ar) (op : IBin) (k : IntKind) (a b : Int) : Out :=
  match op with
  | .shl => match ar.shl a b with | z => some ([ar.inb b k.bits, ar.rng k z], .int k z, [])
  | .shr => some ([ar.inb b k.bits], .int k (ar.shr a b), [])
  | _ => none

def asB : V → Option Bool
  | .bool b => some b
  | .tf b => some b
  | _ => none

def eqCells (ar : Ar) : List Kd → List V → List V → Option Bool
  | [], [], [] => some true
  | .i :: ks, .int k a :: r, .int k' b :: s => if k = k' then (match eqCells ar ks r s with
    | some c => some (ar.band (ar.eq a b) c)
    | none => none) else none
  | .s :: ks, .str a :: r, .str b :: s => match eqCells ar ks r s with
    | some c => some (ar.band (ar.seq a b) c)
    | none => none
  | .b :: ks, x :: r, y :: s => match asB x, asB y with
    | some a, some b => match eqCells ar ks r s with
      | some c => some (ar.band (ar.beq a b) c)
      | none => none
    | _, _ => none
  | _, _, _ => none

def minmaxI (ar : Ar) (mx : Bool) (k : IntKind) : Int → List V → Option Int
  | a, [] => some a
  | a, .int k' b :: r => if k = k' then minmaxI ar mx k (match mx with | true => ar.imax a b | false => ar.imin a b) r else none
  | _, _ => none

def intLit : V → Option Int
  | .int _ n => some n
  | _ => none

def optInt (env : List (Nat × V)) (d : Int) : Option O → Option Int
  | none => some d
  | some x => intLit (x.ev env)

/-- The elements of what is appended. -/
def elems (ar : Ar) (bl : Blks) (t : Ty) : V → Option (List t.den)
  | .nsl => some []
  | .lst t' xs => castL t' t xs
  | .sl id t' lo n => match bget id bl with
    | some (.arr t'' xs _) => if t' = t'' then (match castL t'' t xs with
      | some ys => some (ar.sub' ys lo n)
      | none => none) else none
    | _ => none
  | _ => none

def elemTy : V → Option Ty
  | .lst t _ => some t
  | .sl _ t _ _ => some t
  | _ => none

def bigL : Nat := 2 ^ 30

def evI (ar : Ar) (i : I) (env : List (Nat × V)) (bl : Blks) (nid : Nat) : Out :=
  match i with
  | .mv x => some ([], x.ev env, [])
  | .pick c a b =>
    match c.ev env with
    | .tf true => some ([], a.ev env, [])
    | .tf false => some ([], b.ev env, [])
    | .bool c => match asB (a.ev env), asB (b.ev env) with
      | some x, some y => some ([], .bool (ar.bite c x y), [])
      | _, _ => none
    | _ => none
  | .alloc z => some ([], .ptr nid 0, [(nid, some (.cells z false))])
  | .box x => match (x.ev env).cells? with
    | some cs => some ([], .ptr nid 0, [(nid, some (.cells cs false))])
    | none => none
  | .build z parts => match fillV parts env z with
    | some cs => some ([], .agg cs, [])
    | none => none
  | .bslice t xs => match ofVl ar bl t (xs.map (·.ev env)) with
    | some (ys, u) => some ([], .sl nid t 0 xs.length, u ++ [(nid, some (.arr t ys false))])
    | none => none
  | .load agg k x =>
    match x.ev env with
    | .ptr id off => match bget id bl with
      | some (.cells cs _) => match cut off k cs with
        | some vs => match wrapC agg vs with
          | some v => some ([], v, [])
          | none => none
        | none => none
      | _ => none
    | .ipc cs => match cut 0 k cs with
      | some vs => match wrapC agg vs with
        | some v => some ([], v, [])
        | none => none
      | none => none
    | .ep id t i p => match bget id bl with
      | some (.arr t' xs _) => if t = t' then
          match getP t' (ar.get t'.zero xs i) p with
          | some ⟨t2, y⟩ => match toVs t2 y with
            | vs => if vs.length = k then (match wrapC agg vs with
              | some v => some ([ar.ilt i (ar.len xs)], v, [])
              | none => none) else none
          | none => none
        else none
      | _ => none
    | .ip t y => match toVs t y with
      | vs => if vs.length = k then (match wrapC agg vs with
        | some v => some ([], v, [])
        | none => none) else none
    | _ => none
  | .store k a x =>
    match (x.ev env).cells? with
    | none => none
    | some vs => if vs.length = k then
      (match a.ev env with
      | .ptr id off => match bget id bl with
        | some (.cells cs false) => match setCs off vs cs with
          | some cs' => some ([], .any, [(id, some (.cells cs' false))])
          | none => none
        | _ => none
      | .ep id t i p => match bget id bl with
        | some (.arr t' xs false) => if t = t' then
            match setP ar bl t' (ar.get t'.zero xs i) p vs with
            | some (y, u) => match notIn id u with
              | true => some ([ar.ilt i (ar.len xs)], .any, u ++ [(id, some (.arr t' (ar.set xs i y) false))])
              | false => none
            | none => none
          else none
        | _ => none
      | _ => none) else none
  | .bin op x y =>
    match x.ev env, y.ev env with
    | .int k a, .int k' b => match op with
      | .shl => shBin ar .shl k a b
      | .shr => shBin ar .shr k a b
      | _ => if k = k' then intBin ar op k a b else none
    | .str a, .str b => strBin ar op a b
    | _, _ => none
  | .eqb neg x y => match asB (x.ev env), asB (y.ev env) with
    | some a, some b => some ([], .bool (match neg with | true => ar.bnot (ar.beq a b) | false => ar.beq a b), [])
    | _, _ => none
  | .eqs neg ks x y =>
    match x.ev env, y.ev env with
    | .agg xs, .agg ys => match eqCells ar ks xs ys with
      | some c => some ([], .bool (match neg with | true => ar.bnot c | false => c), [])
      | none => none
    | _, _ => none
  | .neg x => match x.ev env with
    | .int k a => match ar.sub 0 a with | z => some ([ar.rng k z], .int k z, [])
    | _ => none
  | .not x => match x.ev env with
    | .tf b => some ([], .tf (!b), [])
    | .bool b => some ([], .bool (ar.bnot b), [])
    | _ => none
  | .conv k x => match x.ev env with
    | .int _ n => some ([ar.rng k n], .int k n, [])
    | _ => none
  | .fld off path x => match x.ev env with
    | .ptr id o => some ([], .ptr id (o + off), [])
    | .ipc cs => if off ≤ cs.length then some ([], .ipc (cs.drop off), []) else none
    | .ep id t i p => match t.atP p with
      | some t1 => if t1.offP path = off then (match t1.atP path with
        | some _ => some ([], .ep id t i (p ++ path), [])
        | none => none) else none
      | none => none
    | .ip t y => if t.offP path = off then (match getP t y path with
      | some ⟨t2, z⟩ => some ([], .ip t2 z, [])
      | none => none) else none
    | _ => none
  | .field agg off k x => match x.ev env with
    | .agg cs => match cut off k cs with
      | some vs => match wrapC agg vs with
        | some v => some ([], v, [])
        | none => none
      | none => none
    | _ => none
  | .idx esz x i =>
    match i.ev env with
    | .int _ n => match x.ev env with
      | .sl id t lo m => if t.sz = esz then some ([ar.inb n (Int.ofNat m)], .ep id t (ar.nadd lo (ar.toN n)) [], []) else none
      | .lst t xs => if t.sz = esz then some ([ar.inb n (Int.ofNat (ar.len xs))], .ip t (ar.get t.zero xs (ar.toN n)), []) else none
      | _ => none
    | _ => none
  | .idxA len esz x i =>
    match i.ev env with
    | .int _ (.ofNat n) => if n < len then
      (match x.ev env with
      | .ptr id o => some ([], .ptr id (o + n * esz), [])
      | .ipc cs => if n * esz ≤ cs.length then some ([], .ipc (cs.drop (n * esz)), []) else none
      | _ => none) else none
    | _ => none
  | .ext k x => match x.ev env with
    | .tup vs => match vs[k]? with
      | some v => some ([], v, [])
      | none => none
    | _ => none
  | .len x => match x.ev env with
    | .sl _ _ _ n => some ([], .int .i64 (Int.ofNat n), [])
    | .lst _ xs => some ([], .int .i64 (Int.ofNat (ar.len xs)), [])
    | .nsl => some ([], .int .i64 0, [])
    | _ => none
  | .lens x => match x.ev env with
    | .str s => some ([], .int .i64 (ar.slen s), [])
    | _ => none
  | .lenA n => some ([], .int .i64 (Int.ofNat n), [])
  | .append esz x y =>
    match x.ev env with
    | .nsl => match elemTy (y.ev env) with
      | some t => if t.sz = esz then
          (match elems ar bl t (y.ev env) with
          | some ys => match ar.len ys with
            | m => some ([ar.ilt m bigL], .sl nid t 0 m, [(nid, some (.arr t ys false))])
          | none => none) else none
      | none => none
    | .sl id t lo n => if t.sz = esz then
      (match bget id bl with
      | some (.arr t' xs false) => if t' = t then
        (match castL t' t xs with
        | some xs' => match elems ar bl t (y.ev env) with
          | some ys => match ar.nadd n (ar.len ys) with
            | m => some ([ar.ilt m bigL], .sl nid t 0 m, [(id, none), (nid, some (.arr t (ar.app (ar.sub' xs' lo n) ys) false))])
          | none => none
        | none => none) else none
      | _ => none) else none
    | _ => none
  | .mkslice t n => match n.ev env with
    | .int _ z => match ar.toN z with
      | m => some ([ar.inb z (Int.ofNat bigL)], .sl nid t 0 m, [(nid, some (.arr t (ar.rep m t.zero) false))])
    | _ => none
  | .mkfn f a b => some ([], .fn f (a.map (·.ev env)) (b.map (·.ev env)), [])
  | .slice esz x lo hi mx =>
    match mx with
    | some m => match hi with
      | some h => match intLit (m.ev env), intLit (h.ev env), optInt env 0 lo with
        | some a, some b, some c => match x.ev env with
          | .sl _ _ _ _ => some ([ar.eq a 0, ar.eq b 0, ar.eq c 0], .nsl, [])
          | .lst _ _ => some ([ar.eq a 0, ar.eq b 0, ar.eq c 0], .nsl, [])
          | .nsl => some ([ar.eq a 0, ar.eq b 0, ar.eq c 0], .nsl, [])
          | _ => none
        | _, _, _ => none
      | none => none
    | none =>
      match x.ev env with
      | .sl id t l n => if t.sz = esz then
        (match optInt env 0 lo, optInt env (Int.ofNat n) hi with
        | some a, some b => some ([ar.le 0 a, ar.le a b, ar.le b (Int.ofNat n)], .sl id t (ar.nadd l (ar.toN a)) (ar.nsub (ar.toN b) (ar.toN a)), [])
        | _, _ => none) else none
      | .lst t xs => if t.sz = esz then
        (match optInt env 0 lo, optInt env (Int.ofNat (ar.len xs)) hi with
        | some a, some b => some ([ar.le 0 a, ar.le a b, ar.le b (Int.ofNat (ar.len xs))], .lst t (ar.sub' xs (ar.toN a) (ar.nsub (ar.toN b) (ar.toN a))), [])
        | _, _ => none) else none
      | _ => none
  | .minmax mx x ys => match x.ev env with
    | .int k a => match minmaxI ar mx k a (ys.map (·.ev env)) with
      | some z => some ([], .int k z, [])
      | none => none
    | _ => none

/-- Does an operation lay a block? -/
def I.lays : I → Bool
  | .alloc _ | .box _ | .bslice _ _ | .append _ _ _ | .mkslice _ _ => true
  | _ => false

def nx1 (l : Bool) (n : Nat) : Nat := match l with
  | true => n + 1
  | false => n

def setE (t : Nat) (v : V) (r : List (Nat × V)) : List (Nat × V) := (t, v) :: r

def put (d : Option Nat) (v : V) (env : List (Nat × V)) : List (Nat × V) :=
  match d with
  | some t => setE t v env
  | none => env

def AllB : List Bool → Prop
  | [] => True
  | [b] => b = true
  | b :: r => b = true ∧ AllB r

/-- A test: both ways. -/
def Br (c : Bool) (t e : Unit → Prop) : Prop := (c = true → t ()) ∧ (c = false → e ())

def rw2 (s : Nat) (b : Bool) (S : St) : St := { S with env := setE s (.tf b) S.env }

/-- One item, and what comes behind it. -/
def wpOp (ar : Ar) (dst : Option Nat) (i : I) (S : St) (K : St → Prop) : Prop :=
  match evI ar i S.env S.H.bl S.H.next with
  | some ([], v, u) => K ⟨put dst v S.env, ⟨nx1 i.lays S.H.next, bupd u S.H.bl⟩, S.ms⟩
  | some (ob, v, u) => AllB ob ∧ K ⟨put dst v S.env, ⟨nx1 i.lays S.H.next, bupd u S.H.bl⟩, S.ms⟩
  | none => False

/-- A value of a type, in one spelling: no nil slice but the empty list, no known bool. -/
def normC : Ty → V → V
  | .list t, .nsl => .lst t []
  | .bool, .tf b => .bool b
  | _, v => v

def cellTys : Ty → List Ty
  | .unit => []
  | .prod a b => cellTys a ++ cellTys b
  | t => [t]

def zipNorm : List Ty → List V → List V
  | t :: ts, c :: cs => normC t c :: zipNorm ts cs
  | _, cs => cs

def normV (ty : Option Ty) (v : V) : V := match ty with
  | none => v
  | some t => match v with
    | .agg cs => .agg (zipNorm (cellTys t) cs)
    | v => normC t v

def normL : List (Option Ty) → List V → List V
  | t :: ts, v :: vs => normV t v :: normL ts vs
  | _, vs => vs

def wpCall (ar : Ar) (dst : Option Nat) (f : O) (args : List O) (tys : List (Option Ty)) (S : St) (K : St → Prop) : Prop :=
  match f.ev S.env with
  | .fn f first cap => ar.call f (first ++ normL tys (args.map (·.ev S.env)) ++ cap) S.H fun v H => K ⟨put dst v S.env, H, S.ms⟩
  | .yl id => ar.round id (normL tys (args.map (·.ev S.env))) S.H fun v H => K ⟨put dst v S.env, H, S.ms⟩
  | _ => False

def wpGuard (g : Option (Nat × Bool)) (dst : Option Nat) (S : St) (K : St → Prop) (run : St → Prop) : Prop :=
  match g with
  | none => run S
  | some (s, b) => match get s S.env with
    | .tf c => match c, b with
      | true, true => run S
      | false, false => run S
      | true, false => K ⟨put dst (.tup []) S.env, S.H, S.ms⟩
      | false, true => K ⟨put dst (.tup []) S.env, S.H, S.ms⟩
    | .bool c => Br c
      (fun _ => match b with
        | true => run (rw2 s true S)
        | false => K ⟨put dst (.tup []) (rw2 s true S).env, S.H, S.ms⟩)
      (fun _ => match b with
        | false => run (rw2 s false S)
        | true => K ⟨put dst (.tup []) (rw2 s false S).env, S.H, S.ms⟩)
    | .tup _ => K ⟨put dst (.tup []) S.env, S.H, S.ms⟩
    | _ => False

def wpItms (ar : Ar) : List Itm → St → (St → Prop) → Prop
  | [], S, K => K S
  | .op d g i :: r, S, K => wpGuard g d S (fun S => wpItms ar r S K) (fun S => wpOp ar d i S (fun S => wpItms ar r S K))
  | .call d g f a tys :: r, S, K => wpGuard g d S (fun S => wpItms ar r S K) (fun S => wpCall ar d f a tys S (fun S => wpItms ar r S K))

end Go.AM
