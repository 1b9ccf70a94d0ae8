/- A small typed machine: its data, its values, its heap, its operations. Nothing here speaks of the model's runs. How the small machine's values and heap stand for the model's. The model's code, read as the small machine's. The small machine's code: what must hold for it to end well. The small machine's heap in the model's world. What is read and written, small machine and model. Data out of cells and into them. Each operation of the small machine is the model's: loads, stores, new blocks. Each operation of the small machine is the model's: literals, stores, append, make. Each operation of the small machine is the model's: append, make, slices. Each operation of the small machine is the model's: the plain ones; all of them. Each operation of the small machine is the model's: all of them. -/
import Derived.Deep.MidRow
import Derived.Deep.AppendSrc
import Derived.RangeFuncNested
import Derived.RangeFuncLeaves
import Derived.KernelRfl
import Derived.Laws.StructEq
import Derived.ChangeKeysEq
set_option linter.unusedSectionVars false
set_option linter.unusedVariables false
set_option linter.unusedSimpArgs false
section
namespace Go.AM
inductive Ty where
 |unit|bool|str|int (k:IntKind)|list (t:Ty)|prod (a b:Ty)|bZ (d:Nat) (g:Bool) (a:Ty)
 deriving DecidableEq
@[reducible] def Ty.den : Ty → Type
 | .unit=>Unit
 | .bool=>Bool
 | .str=>ByteArray
 | .int _=>Int
 | .list t=>List t.den
 | .prod a b=>a.den×b.den
 | .bZ _ _ a=>a.den
def Ty.sz : Ty → Nat
 | .unit=>0
 | .prod a b=>a.sz+b.sz
 | .bool=>1
 | .str=>1
 | .int _=>1
 | .list _=>1
 | .bZ _ _ _=>1
def Ty.zero : (t : Ty) → t.den
 | .unit=>()
 | .bool=>false
 | .str=>ByteArray.empty
 | .int _=>(0:Int)
 | .list _=>[]
 | .prod a b=>(a.zero,b.zero)
 | .bZ _ _ a=>a.zero
inductive V where
 |any
 |tf (b:Bool)
 |bool (b:Bool)
 |int (k:IntKind) (n:Int)
 |str (s:ByteArray)
 |b7
 |cz
 |eO
 |ez (t:Ty) (xs:List t.den)
 |bG
 |sl (id:Nat) (t:Ty) (lo n:Nat)
 |ptr (id off:Nat)
 |eS (cells:List V)
 |ep (id:Nat) (t:Ty) (i:Nat) (p:List Bool)
 |ip (t:Ty) (x:t.den)
 |fn (f:Nat) (first captured:List V)
 |yl (id:Nat)
 |agg (cs:List V)
 |bX (vs:List V)
 |bZ (t:TypeId) (v:V)
 |cb (c:Bool)
 |mp (id:Nat)
 |aO
 |pa (id:Nat) (t:Ty) (n:Nat)
 |kC (t:Ty) (xs:List t.den)
 |sp (id o:Nat) (l:List (Nat×Nat×Int))
def V.cells? : V → Option (List V)
 | .agg cs=>some cs
 | .any=>none
 | .bX _=>none
 | .cb _=>none
 |v=>some [v]
def get (t : Nat) : List (Nat × V) → V
 |[]=>.any
 |(s,v)::r=>match Nat.beq s t with
  |true=>v
  |false=>get t r
inductive O where
 |t (n:Nat)
 |c (v:V)
 |m (n:Nat) (de:List (Nat×Nat))
def P0 (de : List (Nat × Nat)) : V → V
 | .bZ t v=>match de.lookup t with
  |some f=>.fn f [v] []
  |none=>.any
 |_=>.any
def O.ev (x:O) (env:List (Nat×V)):V :=
 match x with
 | .t n=>get n env
 | .c v=>v
 | .m n de=>P0 de (get n env)
inductive yV where
 |add|sub|mul|quo|rem|and|or|xor|andNot|shl|shr|eql|neq|lss|leq|gtr|geq
 deriving DecidableEq
inductive dB where
 |vK
 |P3 (len ej:Nat) (g:Bool)
 |bytes
 |text
 |clear (t:Ty)
 |P4 (neg:Bool)
 |HG (neg:Bool)
 |HH (neg:Bool)
 |eA
 |ir (kt:Ty) (kg:Bool) (vt:Ty) (vg:Bool)
 |dG (kt:Ty) (kg:Bool) (vt:Ty) (vg ok:Bool)
 |gL (kt:Ty) (kg:Bool) (vt:Ty) (vg:Bool)
 |UW
 |mkif (t:TypeId)
 |HI (t:Ty) (n:Nat)
 |UX (t:Ty) (n:Nat)
 |capn
 |abK (t:Ty)
 deriving DecidableEq
inductive Kd where
 |b|i|s
 deriving DecidableEq
inductive I where
 |mv (x:O)
 |pick (c a b:O)
 |alloc (z:List V)
 |box (x:O)
 |build (z:List V) (parts:List (Nat×Nat×O))
 |dH (t:Ty) (xs:List O)
 |load (agg:Bool) (k:Nat) (x:O)
 |store (k:Nat) (a x:O)
 |bin (op:yV) (x y:O)
 |UY (neg:Bool) (x y:O)
 |eqs (neg:Bool) (ks:List Kd) (x y:O)
 |neg (x:O)
 |not (x:O)
 |conv (k:IntKind) (x:O)
 |jl (off:Nat) (path:List Bool) (x:O)
 |field (agg:Bool) (off k:Nat) (x:O)
 |idx (ej:Nat) (x i:O)
 |yW (len ej:Nat) (x i:O)
 |ext (k:Nat) (x:O)
 |len (x:O)
 |lens (x:O)
 |yX (n:Nat)
 |append (ej:Nat) (x y:O)
 |gY (t:Ty) (n:O)
 |A4 (f:Nat) (first captured:List O)
 |slice (ej:Nat) (x:O) (lo hi mx:Option O)
 |k8 (mx:Bool) (x:O) (ys:List O)
 |ex (e:dB) (xs:List O)
inductive eC where
 |op (dst:Option Nat) (g:Option (Nat×Bool)) (i:I)
 |call (dst:Option Nat) (g:Option (Nat×Bool)) (f:O) (args:List O) (tys:List (Option Ty))
inductive C where
 |skip
 |aN (items:List eC)
 |draw (cI:List (List Nat)) (items:List eC)
 |seq (a b:C)
 |cond (c:O) (a b:C)
 |block (id:Nat) (c:C)
 |loop (c:C)
 |exit (id:Nat)
 |ret
 |bA (f:O) (params:List Nat) (assign body:C)
 |gq (pre:List eC) (m:O) (it:Nat) (cl:List Nat) (e:Option Nat) (kt:Ty) (kg:Bool) (vt:Ty) (vg:Bool) (pz:Nat) (body:C)
inductive Ex where
 |normal
 |exit (id:Nat)
 |ret
inductive pT where
 |ready|busy|done|exhausted
 deriving DecidableEq
inductive kA where
 |cells (cs:List V) (fz:Bool)
 |arr (t:Ty) (xs:List t.den) (fz:Bool)
 |loop (st:pT) (jump:Option Ex) (d:Nat) (env:List (Nat×V)) (params:List Nat) (assign body:C) (N:Nat)
 |ff
 |map (kt:Ty) (kg:Bool) (vt:Ty) (vg:Bool) (es:List (kt.den×vt.den))
 |l6 (t:Ty) (xs:List t.den) (i:Nat) (p:List Bool) (v:V)
abbrev aq:=List (Nat×kA)
def av (id : Nat) : aq → Option kA
 |[]=>none
 |(s,b)::r=>match Nat.beq s id with
  |true=>some b
  |false=>av id r
def aZ (id : Nat) : aq → aq
 |[]=>[]
 |(s,b)::r=>match Nat.beq s id with
  |true=>aZ id r
  |false=>(s,b)::aZ id r
structure aH where
 next:Nat
 bl:aq
abbrev dZ:=List (Nat×Option kA)
def bn : dZ → aq → aq
 |[],bl=>bl
 |(id,none)::r,bl=>bn r (aZ id bl)
 |(id,some b)::r,bl=>bn r ((id,b)::aZ id bl)
structure St where
 env:List (Nat×V)
 H:aH
 ms:List Nat
structure Ar where
 add:Int→Int→Int
 sub:Int→Int→Int
 mul:Int→Int→Int
 quo:Int→Int→Int
 rem:Int→Int→Int
 bits:yV→IntKind→Int→Int→Int
 shr:Int→Int→Int
 shl:Int→Int→Int
 abL:Int→Int→Int
 imax:Int→Int→Int
 eq:Int→Int→Bool
 lt:Int→Int→Bool
 le:Int→Int→Bool
 beq:Bool→Bool→Bool
 seq:ByteArray→ByteArray→Bool
 slt:ByteArray→ByteArray→Bool
 M7:ByteArray→Int
 UZ:Bool→Bool→Bool
 sB:Bool→Bool
 HJ:Bool→Bool→Bool→Bool
 gZ:IntKind→Int→Bool
 fZ:Int→Int→Bool
 PL:Nat→Nat→Bool
 len:{α:Type}→List α→Nat
 get:{α:Type}→α→List α→Nat→α
 set:{α:Type}→List α→Nat→α→List α
 sub':{α:Type}→List α→Nat→Nat→List α
 app:{α:Type}→List α→List α→List α
 rep:{α:Type}→Nat→α→List α
 HK:Nat→Nat→Nat
 P5:Nat→Nat→Nat
 sC:Int→Nat
 sat:ByteArray→Nat→Int
 bys:ByteArray→List Int
 txt:List Int→ByteArray
 wr:IntKind→Int→Int
 clr:{α:Type}→α→List α→Nat→Nat→List α
 mhas:(t:Ty)→{β:Type}→List (t.den×β)→t.den→Bool
 dG:(t:Ty)→{β:Type}→β→List (t.den×β)→t.den→β
 gL:(t:Ty)→{β:Type}→List (t.den×β)→t.den→β→List (t.den×β)
 call:Nat→List V→aH→(V→aH→Prop)→Prop
 gx:Nat→List V→V→Prop
 loop:C→St→(Ex→St→Prop)→Prop
 round:Nat→List V→aH→(V→aH→Prop)→Prop
 bA:O→List Nat→C→C→St→(Ex→St→Prop)→Prop
 gq:C→St→(Ex→St→Prop)→Prop
def jE (t t':Ty) (xs:List t.den):Option (List t'.den):=if h:t=t' then some (h▸xs) else none
def dx : (t : Ty) → t.den → t.den → Bool
 | .unit,_,_=>true
 | .bool,a,b=>a==b
 | .str,a,b=>a.data.toList==b.data.toList
 | .int _,a,b=>a==b
 | .list _,_,_=>false
 | .prod a b,x,y=>dx a x.1 y.1&&dx b x.2 y.2
 | .bZ _ _ a,x,y=>dx a x y
def aL (t:Ty) {β:Type} (es:List (t.den×β)) (k:t.den):Bool:=es.any fun e=>dx t k e.1
def ak (t : Ty) {β : Type} (d : β) : List (t.den × β) → t.den → β
 |[],_=>d
 |e::r,k=>if dx t k e.1=true then e.2 else ak t d r k
def gy : (t : Ty) → t.den → t.den → Bool
 | .unit,_,_=>false
 | .bool,a,b => !a&&b
 | .str,a,b=>Op.bytesLess a.toList b.toList
 | .int _,a,b=>decide (a<b)
 | .list _,_,_=>false
 | .prod a b,x,y=>gy a x.1 y.1||(dx a x.1 y.1&&gy b x.2 y.2)
 | .bZ _ _ a,x,y=>gy a x y
def pE (t : Ty) {β : Type} : List (t.den × β) → t.den → β → List (t.den × β)
 |[],k,v=>[(k,v)]
 |e::r,k,v=>if gy t k e.1=true then (k,v)::e::r else e::pE t r k v
def aS (t:Ty) {β:Type} (es:List (t.den×β)) (k:t.den) (v:β):List (t.den×β) :=
 if aL t es k=true then es.map (fun e=>if dx t k e.1=true then (k,v) else e) else pE t es k v
def KD (t:Ty) {β:Type} (es:List (t.den×β)):Prop:=es.Pairwise fun a b=>dx t a.1 b.1=false
def gr (s:ByteArray):List Int:=s.data.toList.map fun b=>(b.toNat:Int)
def U0 (s:ByteArray) (n:Nat):Int:=(gr s).getD n 0
def yY (ys:List Int):ByteArray:=⟨(ys.map fun z=>UInt8.ofNat z.toNat).toArray⟩
def A5 {α:Type} (z:α) (xs:List α) (lo n:Nat):List α:=xs.take lo++List.replicate n z++xs.drop (lo+n)
def cm : (t : Ty) → t.den → List V
 | .unit,_=>[]
 | .bool,b=>[.bool b]
 | .str,s=>[.str s]
 | .int k,n=>[.int k n]
 | .list t,xs=>[.ez t xs]
 | .prod a b,x=>cm a x.1++cm b x.2
 | .bZ d g t,x=>[.bZ d (iu g (cm t x))]
where iu (g:Bool) (vs:List V):V:=match g with
 |true=>.agg vs
 |false=>match vs with
  |[v]=>v
  |_=>.any
def A6 : Bool → V → Option (List V)
 |true,.agg cs=>some cs
 |true,_=>none
 |false,.agg _=>none
 |false,v=>v.cells?
def aX (ar : Ar) (bl : aq) : (t : Ty) → List V → Option (t.den × dZ × List V)
 | .unit,vs=>some ((),[],vs)
 | .bool,.bool b::r=>some (b,[],r)
 | .bool,.tf b::r=>some (b,[],r)
 | .str,.str s::r=>some (s,[],r)
 | .int k,.int k' n::r=>if k=k' then some (n,[],r) else none
 | .list t,.ez t' xs::r=>match jE t' t xs with
  |some ys=>some (ys,[],r)
  |none=>none
 | .list _,.bG::r=>some ([],[],r)
 | .list t,.sl id t' lo n::r=>match av id bl with
  |some (.arr t'' xs _) =>
   if t'=t'' then
    match jE t'' t xs with
    |some ys=>some (ar.sub' ys lo n,[(id,some (.arr t'' xs true))],r)
    |none=>none
   else none
  |_=>none
 | .prod a b,vs=>match aX ar bl a vs with
  |some (x,u,r)=>match aX ar bl b r with
   |some (y,u',r')=>some ((x,y),u++u',r')
   |none=>none
  |none=>none
 | .bZ d g t,.bZ d' v::r=>if d=d' then
   (match A6 g v with
   |some cs=>match aX ar [] t cs with
    |some (x,[],[])=>some (x,[],r)
    |_=>none
   |none=>none) else none
 |_,_=>none
def o3 : (t : Ty) → t.den → List Bool → Option (Σ t' : Ty, t'.den)
 |t,x,[]=>some ⟨t,x⟩
 | .prod a _,x,false::p=>o3 a x.1 p
 | .prod _ b,x,true::p=>o3 b x.2 p
 |_,_,_=>none
def Ty.qC : Ty → List Bool → Option Ty
 |t,[]=>some t
 | .prod a _,false::p=>a.qC p
 | .prod _ b,true::p=>b.qC p
 |_,_=>none
def Ty.bw : Ty → List Bool → Nat
 | .prod a _,false::p=>a.bw p
 | .prod a b,true::p=>a.sz+b.bw p
 |_,_=>0
def cC (ar : Ar) (bl : aq) : (t : Ty) → t.den → List Bool → List V → Option (t.den × dZ)
 |t,_,[],vs=>match aX ar bl t vs with
  |some (y,u,[])=>some (y,u)
  |_=>none
 | .prod a _,x,false::p,vs=>match cC ar bl a x.1 p vs with
  |some (y,u)=>some ((y,x.2),u)
  |none=>none
 | .prod _ b,x,true::p,vs=>match cC ar bl b x.2 p vs with
  |some (y,u)=>some ((x.1,y),u)
  |none=>none
 |_,_,_,_=>none
def qF (ar : Ar) (bl : aq) (t : Ty) : List V → Option (List t.den × dZ)
 |[]=>some ([],[])
 |v::r=>match v.cells? with
  |some vs=>match aX ar bl t vs with
   |some (x,u,[])=>match qF ar bl t r with
    |some (xs,u')=>some (x::xs,u++u')
    |none=>none
   |_=>none
  |none=>none
def cut (off k:Nat) (cs:List V):Option (List V) :=
 if off+k≤cs.length then some ((cs.drop off).take k) else none
def bY (agg:Bool) (cs:List V):Option V :=
 match agg,cs with
 |true,cs=>some (.agg cs)
 |false,[c]=>some c
 |false,_=>none
def qG : Nat → List V → List V → Option (List V)
 |0,vs,cs=>if vs.length≤cs.length then some (vs++cs.drop vs.length) else none
 |off+1,vs,c::cs=>match qG off vs cs with
  |some r=>some (c::r)
  |none=>none
 |_+1,_,[]=>none
def tK : List (Nat × Nat × O) → List (Nat × V) → List V → Option (List V)
 |[],_,cs=>some cs
 |(off,k,x)::r,env,cs =>
  match (x.ev env).cells? with
  |some vs=>if vs.length=k then (match qG off vs cs with
   |some cs'=>tK r env cs'
   |none=>none) else none
  |none=>none
def tN (id : Nat) : dZ → Bool
 |[]=>true
 |(s,_)::r=>match Nat.beq s id with
  |true=>false
  |false=>tN id r
abbrev Out:=Option (List Bool×V×dZ)
def HL (ar:Ar) (op:yV) (k:IntKind) (a b:Int):Out :=
 match op with
 | .add=>match ar.add a b with|z=>some ([ar.gZ k z],.int k z,[])
 | .sub=>match ar.sub a b with|z=>some ([ar.gZ k z],.int k z,[])
 | .mul=>match k.signed with
  |true=>match ar.mul a b with|z=>some ([ar.gZ k z],.int k z,[])
  |false=>some ([],.int k (ar.wr k (ar.mul a b)),[])
 | .quo=>match ar.quo a b with|z=>some ([ar.sB (ar.eq b 0),ar.gZ k z],.int k z,[])
 | .rem=>some ([ar.sB (ar.eq b 0)],.int k (ar.rem a b),[])
 | .and=>some ([],.int k (ar.bits .and k a b),[])
 | .or=>some ([],.int k (ar.bits .or k a b),[])
 | .xor=>some ([],.int k (ar.bits .xor k a b),[])
 | .andNot=>some ([],.int k (ar.bits .andNot k a b),[])
 | .shl=>none
 | .shr=>none
 | .eql=>some ([],.bool (ar.eq a b),[])
 | .neq=>some ([],.bool (ar.sB (ar.eq a b)),[])
 | .lss=>some ([],.bool (ar.lt a b),[])
 | .leq=>some ([],.bool (ar.le a b),[])
 | .gtr=>some ([],.bool (ar.lt b a),[])
 | .geq=>some ([],.bool (ar.le b a),[])
def HM (ar:Ar) (op:yV) (a b:ByteArray):Out :=
 match op with
 | .add=>match ar.add (ar.M7 a) (ar.M7 b) with|z=>some ([ar.gZ .i64 z],.str (ar.txt (ar.app (ar.bys a) (ar.bys b))),[])
 | .eql=>some ([],.bool (ar.seq a b),[])
 | .neq=>some ([],.bool (ar.sB (ar.seq a b)),[])
 | .lss=>some ([],.bool (ar.slt a b),[])
 | .leq=>some ([],.bool (ar.HJ (ar.slt a b) true (ar.seq a b)),[])
 | .gtr=>some ([],.bool (ar.sB (ar.HJ (ar.slt a b) true (ar.seq a b))),[])
 | .geq=>some ([],.bool (ar.sB (ar.slt a b)),[])
 |_=>none
def zN (ar:Ar) (op:yV) (k:IntKind) (a b:Int):Out :=
 match op with
 | .shl=>match ar.shl a b with|z=>some ([ar.fZ b k.bits,ar.gZ k z],.int k z,[])
 | .shr=>some ([ar.fZ b k.bits],.int k (ar.shr a b),[])
 |_=>none
def M8 : V → Option Bool
 | .bool b=>some b
 | .tf b=>some b
 |_=>none
def aK (ar : Ar) : List Kd → List V → List V → Option Bool
 |[],[],[]=>some true
 | .i::ks,.int k a::r,.int k' b::s=>if k=k' then (match aK ar ks r s with
  |some c=>some (ar.UZ (ar.eq a b) c)
  |none=>none) else none
 | .s::ks,.str a::r,.str b::s=>match aK ar ks r s with
  |some c=>some (ar.UZ (ar.seq a b) c)
  |none=>none
 | .b::ks,x::r,y::s=>match M8 x,M8 y with
  |some a,some b=>match aK ar ks r s with
   |some c=>some (ar.UZ (ar.beq a b) c)
   |none=>none
  |_,_=>none
 |_,_,_=>none
def ic (ar : Ar) (mx : Bool) (k : IntKind) : Int → List V → Option Int
 |a,[]=>some a
 |a,.int k' b::r=>if k=k' then ic ar mx k (match mx with|true=>ar.imax a b|false=>ar.abL a b) r else none
 |_,_=>none
def pU : V → Option Int
 | .int _ n=>some n
 |_=>none
def cn (env : List (Nat × V)) (d : Int) : Option O → Option Int
 |none=>some d
 |some x=>pU (x.ev env)
def elems (ar : Ar) (bl : aq) (t : Ty) : V → Option (List t.den)
 | .bG=>some []
 | .ez t' xs=>jE t' t xs
 | .sl id t' lo n=>match av id bl with
  |some (.arr t'' xs _)=>if t'=t'' then (match jE t'' t xs with
   |some ys=>some (ar.sub' ys lo n)
   |none=>none) else none
  |_=>none
 |_=>none
def HN : V → Option Ty
 | .ez t _=>some t
 | .sl _ t _ _=>some t
 |_=>none
def cM:Nat:=2 ^ 30
def lC (ar : Ar) (bl : aq) (t : Ty) : Nat → List V → Option (List t.den × dZ)
 |0,[]=>some ([],[])
 |0,_=>none
 |n+1,vs=>match aX ar bl t vs with
  |some (x,u,r)=>match lC ar bl t n r with
   |some (xs,u')=>some (x::xs,u++u')
   |none=>none
  |none=>none
def Dt (ar : Ar) (t : Ty) (xs : List t.den) : Nat → Nat → List V
 |0,_=>[]
 |n+1,i=>cm t (ar.get t.zero xs i)++Dt ar t xs n (i+1)
def Ky (k : IntKind) : List V → Option (List Int)
 |[]=>some []
 | .int k' z::r=>if k=k' then (match Ky k r with
  |some zs=>some (z::zs)
  |none=>none) else none
 |_=>none
def colZ (len ej:Nat) (zs:List Int) (m:Nat):List Int:=(List.range len).map fun j=>zs.getD (j * ej+m) 0
def U1 (ar:Ar) (k:IntKind) (len ej:Nat) (zs:List Int) (i:Nat):List V:=(List.range ej).map fun m=>.int k (ar.get 0 (colZ len ej zs m) i)
def KA (kt vt PM PN:Ty) (es:List (kt.den×vt.den)):Option (List (PM.den×PN.den)):=if h:kt=PM∧vt=PN then some (h.1▸h.2▸es) else none
def ja (bl:aq) (kt:Ty) (kg:Bool) (vt:Ty) (vg:Bool) (id:Nat):Option (List (kt.den×vt.den)):=match av id bl with
 |some (.map PM Z6 PN U2 es)=>if kg=Z6∧vg=U2 then KA PM PN kt vt es else none
 |_=>none
def keyOf (ar:Ar) (kt:Ty) (kg:Bool) (k:V):Option kt.den:=match A6 kg k with
 |some cs=>match aX ar [] kt cs with
  |some (x,[],[])=>some x
  |_=>none
 |none=>none
def iw (ar:Ar) (e:dB) (vs:List V) (bl:aq) (aC:Nat):Out :=
 match e with
 | .vK=>match vs with
  |[.str s,.int _ n]=>some ([ar.fZ n (ar.M7 s)],.int .u8 (ar.sat s (ar.sC n)),[])
  |_=>none
 | .P3 len ej g=>match vs with
  |[.agg cs,.int _ i]=>match Nat.beq cs.length (len * ej) with
   |false=>none
   |true=>match cs with
    | .int k z::r=>match Ky k (.int k z::r) with
     |some zs=>match bY g (U1 ar k len ej zs (ar.sC i)) with
      |some v=>some ([ar.fZ i (Int.ofNat len)],v,[])
      |none=>none
     |none=>none
    |cs=>match i with
     | .ofNat n=>if n<len then (match cut (n * ej) ej cs with
      |some vs=>match bY g vs with
       |some v=>some ([],v,[])
       |none=>none
      |none=>none) else none
     |_=>none
  |_=>none
 | .bytes=>match vs with
  |[.str s]=>some ([],.ez (.int .u8) (ar.bys s),[])
  |_=>none
 | .text=>match vs with
  |[v]=>match elems ar bl (.int .u8) v with
   |some ys=>some ([],.str (ar.txt ys),[])
   |none=>none
  |_=>none
 | .clear t=>match vs with
  |[.sl id t' lo n]=>if t'=t then (match av id bl with
   |some (.arr t'' xs false)=>if t'=t'' then some ([],.bX [],[(id,some (.arr t'' (ar.clr t''.zero xs lo n) false))]) else none
   |_=>none) else none
  |_=>none
 | .P4 neg=>match vs with
  |[.sl _ _ _ n]=>match neg with
   |false=>some ([],.cb (ar.eq (Int.ofNat n) 0),[])
   |true=>none
  |[.ez _ xs]=>match neg with
   |false=>some ([],.cb (ar.eq (Int.ofNat (ar.len xs)) 0),[])
   |true=>none
  |_=>none
 | .HG neg=>match vs with
  |[.mp _]=>some ([],.tf neg,[])
  |[.aO]=>some ([],.tf (!neg),[])
  |_=>none
 | .HH neg=>match vs with
  |[.ptr _ _]=>some ([],.tf neg,[])
  |[.b7]=>some ([],.tf (!neg),[])
  |_=>none
 | .eA=>match vs with
  |[.bZ t v]=>some ([],.bZ t v,[])
  |[.ptr id o]=>some ([],.ptr id o,[])
  |[.eS cs]=>some ([],.eS cs,[])
  |_=>none
 | .ir kt kg vt vg=>some ([],.mp aC,[(aC,some (.map kt kg vt vg []))])
 | .dG kt kg vt vg ok=>match vs with
  |[m,k]=>match keyOf ar kt kg k with
   |some x=>match (match m with
    | .mp id=>ja bl kt kg vt vg id
    | .aO=>some []
    |_=>none) with
    |some es=>match cm.iu vg (cm vt (ar.dG kt vt.zero es x)) with
     |v=>match ok with
      |true=>some ([],.bX [v,.bool (ar.mhas kt es x)],[])
      |false=>some ([],v,[])
    |none=>none
   |none=>none
  |_=>none
 | .gL kt kg vt vg=>match vs with
  |[.mp id,k,v]=>match keyOf ar kt kg k with
   |some x=>match keyOf ar vt vg v with
    |some y=>match ja bl kt kg vt vg id with
     |some es=>some ([],.any,[(id,some (.map kt kg vt vg (ar.gL kt es x y)))])
     |none=>none
    |none=>none
   |none=>none
  |_=>none
 | .UW=>match vs with
  |[.mp id]=>match av id bl with
   |some (.map _ _ _ _ es)=>some ([],.int .i64 (Int.ofNat (ar.len es)),[])
   |_=>none
  |[.aO]=>some ([],.int .i64 0,[])
  |_=>none
 | .mkif t=>match vs with
  |[v]=>some ([],.bZ t v,[])
  |_=>none
 | .HI t n=>some ([],.pa aC t n,[(aC,some (.arr t (ar.rep n t.zero) false))])
 | .UX t n=>match vs with
  |[.agg cs]=>match lC ar bl t n cs with
   |some (xs,u)=>some ([],.pa aC t n,u++[(aC,some (.arr t xs false))])
   |none=>none
  |_=>none
 | .capn=>match vs with
  |[.bG]=>some ([],.int .i64 0,[])
  |_=>none
 | .abK t=>match vs with
  |[.bG,.int _ z]=>match ar.sC z with
   |m=>some ([ar.fZ z (Int.ofNat cM)],.sl aC t 0 m,[(aC,some (.arr t (ar.rep m t.zero) false))])
  |_=>none
def dB.lays : dB → Bool
 | .ir _ _ _ _=>true
 | .HI _ _=>true
 | .UX _ _=>true
 | .abK _=>true
 |_=>false
def upTo : Nat → List Nat → List Nat
 |0,r=>r
 |n+1,r=>upTo n (n::r)
def A7 (f : Nat → Option V) : List Nat → Option (List V)
 |[]=>some []
 |n::r=>match f n with
  |some v=>match A7 f r with
   |some vs=>some (v::vs)
   |none=>none
  |none=>none
def asI (k : IntKind) : List V → Option (List Int)
 |[]=>some []
 |v::r=>match v with
  | .int k' n=>if k=k' then (match asI k r with
   |some ns=>some (n::ns)
   |none=>none) else none
  |_=>none
def P6 (ar:Ar) (vs:List V) (j:Int):Option V:=match vs with
 | .int k n::r=>match asI k r with
  |some ns=>some (.int k (ar.get 0 (n::ns) (ar.sC j)))
  |none=>none
 |_=>none
def Du (ar : Ar) (cs : List V) : List (Nat × Nat × Int) → Nat → Option V
 |[],o=>cs[o]?
 |(ej,len,j)::r,o=>match A7 (fun n=>Du ar cs r (o+n * ej)) (upTo len []) with
  |some vs=>P6 ar vs j
  |none=>none
def bT (ar:Ar) (i:I) (env:List (Nat×V)) (bl:aq) (aC:Nat):Out :=
 match i with
 | .mv x=>some ([],x.ev env,[])
 | .pick c a b =>
  match c.ev env with
  | .tf true=>some ([],a.ev env,[])
  | .tf false=>some ([],b.ev env,[])
  | .bool c=>match M8 (a.ev env),M8 (b.ev env) with
   |some x,some y=>some ([],.bool (ar.HJ c x y),[])
   |_,_=>none
  |_=>none
 | .alloc z=>some ([],.ptr aC 0,[(aC,some (.cells z false))])
 | .box x=>match (x.ev env).cells? with
  |some cs=>some ([],.ptr aC 0,[(aC,some (.cells cs false))])
  |none=>none
 | .build z parts=>match tK parts env z with
  |some cs=>some ([],.agg cs,[])
  |none=>none
 | .dH t xs=>match qF ar bl t (xs.map (·.ev env)) with
  |some (ys,u)=>some ([],.sl aC t 0 xs.length,u++[(aC,some (.arr t ys false))])
  |none=>none
 | .load agg k x =>
  match x.ev env with
  | .ptr id off=>match av id bl with
   |some (.cells cs _)=>match cut off k cs with
    |some vs=>match bY agg vs with
     |some v=>some ([],v,[])
     |none=>none
    |none=>none
   |_=>none
  | .eS cs=>match cut 0 k cs with
   |some vs=>match bY agg vs with
    |some v=>some ([],v,[])
    |none=>none
   |none=>none
  | .ep id t i p=>match av id bl with
   |some (.arr t' xs _)=>if t=t' then
     match o3 t' (ar.get t'.zero xs i) p with
     |some ⟨t2,y⟩=>match cm t2 y with
      |vs=>if vs.length=k then (match bY agg vs with
       |some v=>some ([ar.PL i (ar.len xs)],v,[])
       |none=>none) else none
     |none=>none
    else none
   |some (.l6 t' xs i' p' v)=>if t=t'∧p=p'∧k=1 then (match agg with
    |false=>some ([ar.eq (Int.ofNat i) (Int.ofNat i')],v,[])
    |true=>none) else none
   |_=>none
  | .ip t y=>match cm t y with
   |vs=>if vs.length=k then (match bY agg vs with
    |some v=>some ([],v,[])
    |none=>none) else none
  | .pa id t m=>match av id bl with
   |some (.arr t' xs _)=>if t=t' then (match Dt ar t' xs m 0 with
    |vs=>if vs.length=k then (match bY agg vs with
     |some v=>some ([],v,[])
     |none=>none) else none) else none
   |_=>none
  | .sp id o l=>match av id bl with
   |some (.cells cs _)=>match k with
    |1=>match Du ar cs l o with
     |some v=>match bY agg [v] with
      |some v=>some ([],v,[])
      |none=>none
     |none=>none
    |_=>none
   |_=>none
  |_=>none
 | .store k a x =>
  match (x.ev env).cells? with
  |none=>none
  |some vs=>if vs.length=k then
   (match a.ev env with
   | .ptr id off=>match av id bl with
    |some (.cells cs false)=>match qG off vs cs with
     |some cs'=>some ([],.any,[(id,some (.cells cs' false))])
     |none=>none
    |_=>none
   | .ep id t i p=>match av id bl with
    |some (.arr t' xs false)=>if t=t' then
      match cC ar bl t' (ar.get t'.zero xs i) p vs with
      |some (y,u)=>match tN id u with
       |true=>some ([ar.PL i (ar.len xs)],.any,u++[(id,some (.arr t' (ar.set xs i y) false))])
       |false=>none
      |none=>none
     else none
    |_=>none
   | .pa id t m=>match av id bl with
    |some (.arr t' xs false)=>if t=t' then
      match lC ar bl t' m vs with
      |some (ys,u)=>match tN id u with
       |true=>some ([],.any,u++[(id,some (.arr t' ys false))])
       |false=>none
      |none=>none
     else none
    |_=>none
   |_=>none) else none
 | .bin op x y =>
  match x.ev env,y.ev env with
  | .int k a,.int k' b=>match op with
   | .shl=>zN ar .shl k a b
   | .shr=>zN ar .shr k a b
   |_=>if k=k' then HL ar op k a b else none
  | .str a,.str b=>HM ar op a b
  |_,_=>none
 | .UY neg x y=>match M8 (x.ev env),M8 (y.ev env) with
  |some a,some b=>some ([],.bool (match neg with|true=>ar.sB (ar.beq a b)|false=>ar.beq a b),[])
  |_,_=>none
 | .eqs neg ks x y =>
  match x.ev env,y.ev env with
  | .agg xs,.agg ys=>match aK ar ks xs ys with
   |some c=>some ([],.bool (match neg with|true=>ar.sB c|false=>c),[])
   |none=>none
  |_,_=>none
 | .neg x=>match x.ev env with
  | .int k a=>match k.signed with
   |true=>match ar.sub 0 a with|z=>some ([ar.gZ k z],.int k z,[])
   |false=>some ([],.int k (ar.wr k (ar.sub 0 a)),[])
  |_=>none
 | .not x=>match x.ev env with
  | .tf b=>some ([],.tf (!b),[])
  | .bool b=>some ([],.bool (ar.sB b),[])
  |_=>none
 | .conv k x=>match x.ev env with
  | .int _ n=>some ([ar.gZ k n],.int k n,[])
  |_=>none
 | .jl off path x=>match x.ev env with
  | .ptr id o=>some ([],.ptr id (o+off),[])
  | .eS cs=>if off≤cs.length then some ([],.eS (cs.drop off),[]) else none
  | .ep id t i p=>match t.qC p with
   |some t1=>if t1.bw path=off then (match t1.qC path with
    |some _=>some ([],.ep id t i (p++path),[])
    |none=>none) else none
   |none=>none
  | .ip t y=>if t.bw path=off then (match o3 t y path with
   |some ⟨t2,z⟩=>some ([],.ip t2 z,[])
   |none=>none) else none
  | .pa id t m=>if (off / t.sz) * t.sz=off∧off / t.sz<m then some ([],.ep id t (off / t.sz) [],[]) else none
  | .kC t xs=>if (off / t.sz) * t.sz=off then some ([ar.PL (off / t.sz) (ar.len xs)],.ip t (ar.get t.zero xs (off / t.sz)),[]) else none
  | .sp id o l=>some ([],.sp id (o+off) l,[])
  |_=>none
 | .field agg off k x=>match x.ev env with
  | .agg cs=>match cut off k cs with
   |some vs=>match bY agg vs with
    |some v=>some ([],v,[])
    |none=>none
   |none=>none
  |_=>none
 | .idx ej x i =>
  match i.ev env with
  | .int _ n=>match x.ev env with
   | .sl id t lo m=>if t.sz=ej then some ([ar.fZ n (Int.ofNat m)],.ep id t (ar.HK lo (ar.sC n)) [],[]) else none
   | .ez t xs=>if t.sz=ej then some ([ar.fZ n (Int.ofNat (ar.len xs))],.ip t (ar.get t.zero xs (ar.sC n)),[]) else none
   |_=>none
  |_=>none
 | .yW len ej x i =>
  match x.ev env with
  | .pa id t m=>match i.ev env with
   | .int _ j=>if t.sz=ej∧m=len then some ([ar.fZ j (Int.ofNat len)],.ep id t (ar.sC j) [],[]) else none
   |_=>none
  | .kC t xs=>match i.ev env with
   | .int _ j=>if t.sz=ej then some ([ar.fZ j (Int.ofNat len),ar.fZ j (Int.ofNat (ar.len xs))],.ip t (ar.get t.zero xs (ar.sC j)),[]) else none
   |_=>none
  | .ptr id o=>match i.ev env with
   | .int _ j=>some ([ar.fZ j (Int.ofNat len)],.sp id o [(ej,len,j)],[])
   |_=>none
  | .sp id o l=>match i.ev env with
   | .int _ j=>some ([ar.fZ j (Int.ofNat len)],.sp id o ((ej,len,j)::l),[])
   |_=>none
  | .eS cs=>match i.ev env with
   | .int _ (.ofNat n)=>if n<len then (if n * ej≤cs.length then some ([],.eS (cs.drop (n * ej)),[]) else none) else none
   |_=>none
  |_=>none
 | .ext k x=>match x.ev env with
  | .bX vs=>match vs[k]? with
   |some v=>some ([],v,[])
   |none=>none
  |_=>none
 | .len x=>match x.ev env with
  | .sl _ _ _ n=>some ([],.int .i64 (Int.ofNat n),[])
  | .ez _ xs=>some ([],.int .i64 (Int.ofNat (ar.len xs)),[])
  | .bG=>some ([],.int .i64 0,[])
  |_=>none
 | .lens x=>match x.ev env with
  | .str s=>some ([],.int .i64 (ar.M7 s),[])
  |_=>none
 | .yX n=>some ([],.int .i64 (Int.ofNat n),[])
 | .append ej x y =>
  match x.ev env with
  | .bG=>match HN (y.ev env) with
   |some t=>if t.sz=ej then
     (match elems ar bl t (y.ev env) with
     |some ys=>match ar.len ys with
      |m=>some ([ar.PL m cM],.sl aC t 0 m,[(aC,some (.arr t ys false))])
     |none=>none) else none
   |none=>none
  | .sl id t lo n=>if t.sz=ej then
   (match av id bl with
   |some (.arr t' xs false)=>if t'=t then
    (match jE t' t xs with
    |some xs'=>match elems ar bl t (y.ev env) with
     |some ys=>match ar.HK n (ar.len ys) with
      |m=>some ([ar.PL m cM],.sl aC t 0 m,[(id,none),(aC,some (.arr t (ar.app (ar.sub' xs' lo n) ys) false))])
     |none=>none
    |none=>none) else none
   |_=>none) else none
  |_=>none
 | .gY t n=>match n.ev env with
  | .int _ z=>match ar.sC z with
   |m=>some ([ar.fZ z (Int.ofNat cM)],.sl aC t 0 m,[(aC,some (.arr t (ar.rep m t.zero) false))])
  |_=>none
 | .A4 f a b=>some ([],.fn f (a.map (·.ev env)) (b.map (·.ev env)),[])
 | .slice ej x lo hi mx =>
  match mx with
  |some m=>match hi with
   |some h=>match pU (m.ev env),pU (h.ev env),cn env 0 lo with
    |some a,some b,some c=>match x.ev env with
     | .sl _ _ _ _=>some ([ar.eq a 0,ar.eq b 0,ar.eq c 0],.bG,[])
     | .ez _ _=>some ([ar.eq a 0,ar.eq b 0,ar.eq c 0],.bG,[])
     | .bG=>some ([ar.eq a 0,ar.eq b 0,ar.eq c 0],.bG,[])
     |_=>none
    |_,_,_=>none
   |none=>none
  |none =>
   match x.ev env with
   | .sl id t l n=>if t.sz=ej then
    (match cn env 0 lo,cn env (Int.ofNat n) hi with
    |some a,some b=>some ([ar.le 0 a,ar.le a b,ar.le b (Int.ofNat n)],.sl id t (ar.HK l (ar.sC a)) (ar.P5 (ar.sC b) (ar.sC a)),[])
    |_,_=>none) else none
   | .ez t xs=>if t.sz=ej then
    (match cn env 0 lo,cn env (Int.ofNat (ar.len xs)) hi with
    |some a,some b=>some ([ar.le 0 a,ar.le a b,ar.le b (Int.ofNat (ar.len xs))],.ez t (ar.sub' xs (ar.sC a) (ar.P5 (ar.sC b) (ar.sC a))),[])
    |_,_=>none) else none
   | .bG=>(match cn env 0 lo,cn env 0 hi with
    |some a,some b=>some ([ar.eq a 0,ar.eq b 0],.bG,[])
    |_,_=>none)
   |_=>none
 | .ex e xs=>iw ar e (xs.map (·.ev env)) bl aC
 | .k8 mx x ys=>match x.ev env with
  | .int k a=>match ic ar mx k a (ys.map (·.ev env)) with
   |some z=>some ([],.int k z,[])
   |none=>none
  |_=>none
def k9 : Ty → List V → Option (List Bool × V × List V)
 | .list _,.sl id t lo n::r=>some ([],.sl id t lo n,.bG::r)
 | .prod a b,vs=>match k9 a vs with
  |some (p,v,vs')=>some (false::p,v,vs')
  |none=>match k9 b (vs.drop a.sz) with
   |some (p,v,vs')=>some (true::p,v,vs.take a.sz++vs')
   |none=>none
 |_,_=>none
def uA : Ty → List V → Option (List Bool)
 | .list _,.bG::_=>some []
 | .prod a b,vs=>match uA a vs with
  |some p=>some (false::p)
  |none=>match uA b (vs.drop a.sz) with
   |some p=>some (true::p)
   |none=>none
 |_,_=>none
def yZ (ar:Ar) (i:I) (env:List (Nat×V)) (bl:aq) (aC:Nat):Out:=match i with
 | .dH t xs=>match xs with
  |[x]=>match (x.ev env).cells? with
   |some vs=>match uA t vs with
    |some p=>match aX ar bl t vs with
     |some (y,[],[])=>some ([],.sl aC t 0 1,[(aC,some (.l6 t [y] 0 p .bG))])
     |_=>none
    |none=>none
   |none=>none
  |_=>none
 | .store k a x=>match (x.ev env).cells? with
  |none=>none
  |some vs=>if vs.length=k then (match a.ev env with
   | .ep id t i p=>match av id bl with
    |some (.arr t' xs false)=>if t=t' then (match t'.qC p with
     |some t1=>match k9 t1 vs with
      |some (q,v,vs')=>match cC ar bl t' (ar.get t'.zero xs i) p vs' with
       |some (y,[])=>some ([ar.PL i (ar.len xs)],.any,[(id,some (.l6 t' (ar.set xs i y) i (p++q) v))])
       |_=>none
      |none=>none
     |none=>none) else none
    |some (.l6 t' xs i' p' _)=>if t=t'∧p=p' then (match vs with
     |[.sl id' s lo n]=>some ([ar.eq (Int.ofNat i) (Int.ofNat i')],.any,[(id,some (.l6 t' xs i' p' (.sl id' s lo n)))])
     |_=>none) else none
    |_=>none
   |_=>none) else none
 |_=>none
def P7 : aq → List Nat
 |[]=>[]
 |(id,.l6 _ _ _ _ _)::r=>id::P7 r
 |_::r=>P7 r
def A8 : aq → List Nat
 |[]=>[]
 |(id,.l6 _ _ _ _ v)::r=>match v with
  | .bG=>A8 r
  |_=>id::A8 r
 |_::r=>A8 r
def clU (ar:Ar) (id:Nat) (bl:aq):Option dZ:=match av id bl with
 |some (.l6 t xs i p v)=>match cC ar bl t (ar.get t.zero xs i) p [v] with
  |some (y,u)=>match tN id u with
   |true=>some (u++[(id,some (.arr t (ar.set xs i y) false))])
   |false=>none
  |none=>none
 |_=>some []
def PO (ar : Ar) : List Nat → aq → Option dZ
 |[],_=>some []
 |id::r,bl=>match clU ar id bl with
  |some u=>match PO ar r (bn u bl) with
   |some u'=>some (u++u')
   |none=>none
  |none=>none
def P8 (ar:Ar) (S:St) (k:St→Prop):Prop:=k S∨∃ids u,PO ar ids S.H.bl=some u∧k ⟨S.env,⟨S.H.next,bn u S.H.bl⟩,S.ms⟩
def I.lays : I → Bool
 | .alloc _ | .box _ | .dH _ _ | .append _ _ _ | .gY _ _=>true
 | .ex e _=>e.lays
 |_=>false
def PR (l:Bool) (n:Nat):Nat:=match l with
 |true=>n+1
 |false=>n
def A9 (t:Nat) (v:V) (r:List (Nat×V)):List (Nat×V):=(t,v)::r
def put (d:Option Nat) (v:V) (env:List (Nat×V)):List (Nat×V) :=
 match d with
 |some t=>A9 t v env
 |none=>env
def uB : List Bool → Prop
 |[]=>True
 |[b]=>b=true
 |b::r=>b=true∧uB r
def Br (c:Bool) (t e:Unit→Prop):Prop:=(c=true→t ())∧(c=false→e ())
def U3 (s:Nat) (b:Bool) (S:St):St:={ S with env:=A9 s (.tf b) S.env }
def qH (o:Out) (l:Bool) (dst:Option Nat) (S:St) (K:St→Prop):Prop :=
 match o with
 |some ([],v,u)=>K ⟨put dst v S.env,⟨PR l S.H.next,bn u S.H.bl⟩,S.ms⟩
 |some (ob,v,u)=>uB ob∧K ⟨put dst v S.env,⟨PR l S.H.next,bn u S.H.bl⟩,S.ms⟩
 |none=>False
def wpOp (ar:Ar) (dst:Option Nat) (i:I) (S:St) (K:St→Prop):Prop :=
 qH (bT ar i S.env S.H.bl S.H.next) i.lays dst S K∨qH (yZ ar i S.env S.H.bl S.H.next) i.lays dst S K ∨
  ∃ids u,PO ar ids S.H.bl=some u∧qH (bT ar i S.env (bn u S.H.bl) S.H.next) i.lays dst ⟨S.env,⟨S.H.next,bn u S.H.bl⟩,S.ms⟩ K
def KB : Ty → V → V
 | .list t,.bG=>.ez t []
 | .bool,.tf b=>.bool b
 |_,v=>v
def uU : Ty → List Ty
 | .unit=>[]
 | .prod a b=>uU a++uU b
 |t=>[t]
def Ba : List Ty → List V → List V
 |t::ts,c::cs=>KB t c::Ba ts cs
 |_,cs=>cs
def P9 (ty:Option Ty) (v:V):V:=match ty with
 |none=>v
 |some t=>match v with
  | .agg cs=>.agg (Ba (uU t) cs)
  |v=>KB t v
def hT : Ty → Ty
 | .list _=>.str
 | .prod a b=>.prod (hT a) (hT b)
 |t=>t
def hTs (ts:List (Option Ty)):List (Option Ty):=ts.map (·.map hT)
def cG : List (Option Ty) → List V → List V
 |t::ts,v::vs=>P9 t v::cG ts vs
 |_,vs=>vs
def uV (ar:Ar) (dst:Option Nat) (f:O) (args:List O) (tys:List (Option Ty)) (S:St) (K:St→Prop):Prop :=
 match f.ev S.env with
 | .fn f first cap=>ar.call f (first++cG tys (args.map (·.ev S.env))++cap) S.H fun v H=>K ⟨put dst v S.env,H,S.ms⟩
 | .yl id=>ar.round id (cG tys (args.map (·.ev S.env))) S.H fun v H=>K ⟨put dst v S.env,H,S.ms⟩
 |_=>False
def HO (ar:Ar) (dst:Option Nat) (f:O) (args:List O) (tys:List (Option Ty)) (S:St) (K:St→Prop):Prop:=P8 ar S fun S=>uV ar dst f args tys S K
def oH (g:Option (Nat×Bool)) (dst:Option Nat) (S:St) (K:St→Prop) (run:St→Prop):Prop :=
 match g with
 |none=>run S
 |some (s,b)=>match get s S.env with
  | .tf c=>match c,b with
   |true,true=>run S
   |false,false=>run S
   |true,false=>K ⟨put dst (.bX []) S.env,S.H,S.ms⟩
   |false,true=>K ⟨put dst (.bX []) S.env,S.H,S.ms⟩
  | .bool c => Br c
   (fun _=>match b with
    |true=>run (U3 s true S)
    |false=>K ⟨put dst (.bX []) (U3 s true S).env,S.H,S.ms⟩)
   (fun _=>match b with
    |false=>run (U3 s false S)
    |true=>K ⟨put dst (.bX []) (U3 s false S).env,S.H,S.ms⟩)
  | .bX _=>K ⟨put dst (.bX []) S.env,S.H,S.ms⟩
  |_=>False
def eW (ar : Ar) : List eC → St → (St → Prop) → Prop
 |[],S,K=>K S
 | .op d g i::r,S,K=>oH g d S (fun S=>eW ar r S K) (fun S=>wpOp ar d i S (fun S=>eW ar r S K))
 | .call d g f a tys::r,S,K=>oH g d S (fun S=>eW ar r S K) (fun S=>HO ar d f a tys S (fun S=>eW ar r S K))
end Go.AM
end
section
namespace Go.AM
abbrev au:=Nat→Nat→Option Value
structure Loc where
 b:Nat
 ba:Nat
 tot:Nat
 len:Nat
abbrev Mu:=Nat→Option Loc
def au.le (i j:au):Prop:=∀b o x,i b o=some x→j b o=some x
def Mu.le (m n:Mu):Prop:=∀id L,m id=some L→n id=some L
theorem au.le_refl (i:au):i.le i:=fun _ _ _ h=>h
theorem Mu.le_refl (i:Mu):i.le i:=fun _ _ h=>h
theorem au.le_trans {i j k:au} (h:i.le j) (h':j.le k):i.le k:=fun _ _ _ hx=>h' _ _ _ (h _ _ _ hx)
theorem Mu.le_trans {i j k:Mu} (h:i.le j) (h':j.le k):i.le k:=fun _ _ hx=>h' _ _ (h _ _ hx)
def Reads (ι:au) (b o:Nat) (vs:List Value):Prop:=∀j v,vs[j]?=some v→ι b (o+j)=some v
def bf {α : Type} (D : α → List Value → Prop) : List α → List Value → Prop
 |[],vs=>vs=[]
 |x::xs,vs=>∃us ws,vs=us++ws∧D x us∧bf D xs ws
def gI : Bool → List Value → Option Value
 |true,xs=>some (.agg xs.toArray)
 |false,[x]=>some x
 |false,_=>none
def af (ι : au) : (t : Ty) → t.den → List Value → Prop
 | .unit,_,vs=>vs=[]
 | .bool,b,vs=>vs=[.bool b]
 | .str,s,vs=>vs=[.string s]
 | .int k,n,vs=>vs=[.int k n]
 | .list t,xs,vs=>∃a cap,vs=[.slice a xs.length cap]∧xs.length≤cap ∧
   (xs=[]∨∃b o us,a=some ⟨b,o,none⟩∧Reads ι b o us∧bf (af ι t) xs us)
 | .prod a b,x,vs=>∃us ws,vs=us++ws∧af ι a x.1 us∧af ι b x.2 ws
 | .bZ d g t,x,vs=>∃xs v,af ι t x xs∧gI g xs=some v∧vs=[.iface d v]
def fk (ι:au) (g:Bool) (t:Ty) (x:t.den) (v:Value):Prop:=∃xs,af ι t x xs∧gI g xs=some v
theorem Reads.mono {ι ι':au} (h:ι.le ι') {b o:Nat} {vs:List Value} (hr:Reads ι b o vs):Reads ι' b o vs :=
 fun j v hj=>h _ _ _ (hr j v hj)
theorem bf.mono {α : Type} {D E : α → List Value → Prop} (h : ∀ x us, D x us → E x us) : ∀ {xs : List α} {vs : List Value}, bf D xs vs → bf E xs vs
 |[],_,hc=>hc
 |_::_,_,⟨us,ws,e,h1,h2⟩=>⟨us,ws,e,h _ _ h1,bf.mono h h2⟩
theorem af.mono {ι ι' : au} (h : ι.le ι') : ∀ {t : Ty} {x : t.den} {vs : List Value}, af ι t x vs → af ι' t x vs
 | .unit,_,_,hc=>hc
 | .bool,_,_,hc=>hc
 | .str,_,_,hc=>hc
 | .int _,_,_,hc=>hc
 | .list t,xs,vs,⟨a,cap,e,hl,hx⟩=>⟨a,cap,e,hl,hx.imp id fun ⟨b,o,us,ha,hr,hc⟩ =>
   ⟨b,o,us,ha,hr.mono h,bf.mono (fun x us hd=>af.mono (t:=t) h hd) hc⟩⟩
 | .prod _ _,_,_,⟨us,ws,e,h1,h2⟩=>⟨us,ws,e,af.mono h h1,af.mono h h2⟩
 | .bZ _ _ _,_,_,⟨xs,v,h1,h2,h3⟩=>⟨xs,v,af.mono h h1,h2,h3⟩
theorem af.length {ι : au} : ∀ {t : Ty} {x : t.den} {vs : List Value}, af ι t x vs → vs.length = t.sz
 | .unit,_,_,hc=>by simp [af] at hc;subst hc;rfl
 | .bool,_,_,hc=>by simp [af] at hc;subst hc;rfl
 | .str,_,_,hc=>by simp [af] at hc;subst hc;rfl
 | .int _,_,_,hc=>by simp [af] at hc;subst hc;rfl
 | .list _,_,_,⟨_,_,e,_,_⟩=>by subst e;rfl
 | .prod _ _,_,_,⟨us,ws,e,h1,h2⟩=>by subst e;simp [Ty.sz,af.length h1,af.length h2]
 | .bZ _ _ _,_,_,⟨xs,v,h1,h2,h3⟩=>by subst h3;rfl
theorem af.one {ι : au} : ∀ {t : Ty} {x : t.den} {vs : List Value}, af ι t x vs → ∀ v ∈ vs, v.oneCell' = true
 | .unit,_,_,hc=>by simp [af] at hc;subst hc;simp
 | .bool,_,_,hc=>by simp [af] at hc;subst hc;simp [Value.oneCell']
 | .str,_,_,hc=>by simp [af] at hc;subst hc;simp [Value.oneCell']
 | .int _,_,_,hc=>by simp [af] at hc;subst hc;simp [Value.oneCell']
 | .list _,_,_,⟨_,_,e,_,_⟩=>by subst e;simp [Value.oneCell']
 | .prod _ _,_,_,⟨us,ws,e,h1,h2⟩=>by
  subst e;intro v hv;rcases List.mem_append.1 hv with h|h
  ·exact af.one h1 v h
  ·exact af.one h2 v h
 | .bZ _ _ _,_,_,⟨xs,v,h1,h2,h3⟩=>by subst h3;simp [Value.oneCell']
theorem fk.mono {ι ι':au} (h:ι.le ι') {g:Bool} {t:Ty} {x:t.den} {v:Value} (hv:fk ι g t x v):fk ι' g t x v:=by
 obtain ⟨xs,h1,h2⟩:=hv
 exact ⟨xs,h1.mono h,h2⟩
def eD (ι : au) (kt : Ty) (kg : Bool) (vt : Ty) (vg : Bool) : List (kt.den × vt.den) → List MapEntry → Prop
 |[],ms=>ms=[]
 |e::es,ms=>∃m r,ms=m::r∧fk ι kg kt e.1 m.key∧fk ι vg vt e.2 m.val∧eD ι kt kg vt vg es r
theorem eD.mono {ι ι' : au} (h : ι.le ι') {kt vt : Ty} {kg vg : Bool} : ∀ {es : List (kt.den × vt.den)} {ms : List MapEntry}, eD ι kt kg vt vg es ms → eD ι' kt kg vt vg es ms
 |[],_,he=>he
 |_::_,_,⟨m,r,e,h1,h2,h3⟩=>⟨m,r,e,h1.mono h,h2.mono h,eD.mono h h3⟩
theorem eD.length {ι : au} {kt vt : Ty} {kg vg : Bool} : ∀ {es : List (kt.den × vt.den)} {ms : List MapEntry}, eD ι kt kg vt vg es ms → ms.length = es.length
 |[],_,he=>by simp [eD] at he;subst he;rfl
 |_::_,_,⟨m,r,e,h1,h2,h3⟩=>by subst e;simp [eD.length h3]
section cat
variable {α:Type} {D:α→List Value→Prop} {n:Nat}
theorem bf.length (hD : ∀ x us, D x us → us.length = n) : ∀ {xs : List α} {vs : List Value}, bf D xs vs → vs.length = xs.length * n
 |[],_,hc=>by simp [bf] at hc;subst hc;simp
 |x::xs,_,⟨us,ws,e,h1,h2⟩=>by
  subst e;simp [hD _ _ h1,bf.length hD h2,Nat.add_mul];omega
theorem bf.one (hD : ∀ x us, D x us → ∀ v ∈ us, Value.oneCell' v = true) : ∀ {xs : List α} {vs : List Value}, bf D xs vs → ∀ v ∈ vs, Value.oneCell' v = true
 |[],_,hc=>by simp [bf] at hc;subst hc;simp
 |x::xs,_,⟨us,ws,e,h1,h2⟩=>by
  subst e;intro v hv;rcases List.mem_append.1 hv with h|h
  ·exact hD _ _ h1 v h
  ·exact bf.one hD h2 v h
theorem bf.append : ∀ {xs ys : List α} {vs ws : List Value}, bf D xs vs → bf D ys ws → bf D (xs ++ ys) (vs ++ ws)
 |[],_,_,_,hc,h=>by simp [bf] at hc;subst hc;simpa using h
 |x::xs,_,_,_,⟨us,ws,e,h1,h2⟩,h=>by subst e;exact ⟨us,_,List.append_assoc ..,h1,h2.append h⟩
theorem bf.drop (hD : ∀ x us, D x us → us.length = n) : ∀ (k : Nat) {xs : List α} {vs : List Value}, bf D xs vs → bf D (xs.drop k) (vs.drop (k * n))
 |0,xs,vs,h=>by simpa using h
 |k+1,[],vs,h=>by simp [bf] at h;subst h;simp [bf]
 |k+1,x::xs,vs,⟨us,ws,e,h1,h2⟩=>by
  subst e
  have hl:=hD _ _ h1
  have:(us++ws).drop ((k+1) * n)=ws.drop (k * n):=by
   rw [List.drop_append,List.drop_eq_nil_of_le (by rw [hl,Nat.add_mul];omega),hl]
   simp [Nat.add_mul]
  rw [this]
  exact bf.drop hD k h2
theorem bf.take (hD : ∀ x us, D x us → us.length = n) : ∀ (k : Nat) {xs : List α} {vs : List Value}, bf D xs vs → bf D (xs.take k) (vs.take (k * n))
 |0,xs,vs,h=>by simp [bf]
 |k+1,[],vs,h=>by simp [bf] at h;subst h;simp [bf]
 |k+1,x::xs,vs,⟨us,ws,e,h1,h2⟩=>by
  subst e
  have hl:=hD _ _ h1
  refine ⟨us,ws.take (k * n),?_,h1,bf.take hD k h2⟩
  rw [List.take_append,List.take_of_length_le (by rw [hl,Nat.add_mul];omega),hl]
  simp [Nat.add_mul]
theorem bf.at (hD:∀x us,D x us→us.length=n) {xs:List α} {vs:List Value} (h:bf D xs vs) {i:Nat} {x:α} (hx:xs[i]?=some x) :
  D x ((vs.drop (i * n)).take n):=by
 have h1:=h.drop hD i
 obtain ⟨hi,rfl⟩:=List.getElem?_eq_some_iff.1 hx
 rw [List.drop_eq_getElem_cons hi] at h1
 obtain ⟨us,ws,e,hd,_⟩:=h1
 rw [e,List.take_append,List.take_of_length_le (by rw [hD _ _ hd];exact Nat.le_refl _),hD _ _ hd]
 simpa using hd
theorem bf.set (hD:∀x us,D x us→us.length=n) {xs:List α} {vs:List Value} (h:bf D xs vs) {i:Nat} (hi:i<xs.length) {y:α} {us:List Value} (hy:D y us) :
  bf D (xs.set i y) (vs.take (i * n)++us++vs.drop ((i+1) * n)):=by
 have h1:=h.take hD i
 have h2:=h.drop hD (i+1)
 rw [List.set_eq_take_append_cons_drop,if_pos hi,List.append_assoc]
 exact h1.append ⟨us,_,rfl,hy,h2⟩
theorem bf.rep {y : α} {us : List Value} (hy : D y us) : ∀ k : Nat, bf D (List.replicate k y) (List.flatten (List.replicate k us))
 |0=>rfl
 |k+1=>⟨us,_,by simp [List.replicate_succ],hy,bf.rep hy k⟩
end cat
def lD : List (Nat × Nat × Int) → Nat
 |[]=>0
 |(ej,_,j)::r=>j.toNat * ej+lD r
inductive Rel (ι : au) (μ : Mu) : V → Value → Prop
 |any (x):Rel ι μ .any x
 |tf (b):Rel ι μ (.tf b) (.bool b)
 |bool (b):Rel ι μ (.bool b) (.bool b)
 |int (k n):Rel ι μ (.int k n) (.int k n)
 |str (s):Rel ι μ (.str s) (.string s)
 |b7:Rel ι μ .b7 (.pointer none)
 |cz:Rel ι μ .cz .nilFunc
 |eO:Rel ι μ .eO .nilIface
 |ez (t xs x) (h:af ι (.list t) xs [x]):Rel ι μ (.ez t xs) x
 |bG (a):Rel ι μ .bG (.slice a 0 0)
 |sl (id t lo n cap L) (h:μ id=some L) (h1:n≤cap) (h2:L.ba+(lo+cap) * t.sz≤L.tot) (h3:lo+n≤L.len) :
   Rel ι μ (.sl id t lo n) (.slice (some ⟨L.b,L.ba+lo * t.sz,none⟩) n cap)
 |cB (id t lo a):Rel ι μ (.sl id t lo 0) (.slice a 0 0)
 |ptr (id off L) (h:μ id=some L):Rel ι μ (.ptr id off) (.pointer (some ⟨L.b,L.ba+off,none⟩))
 |eS (cs b o) (g:Nat→Value) (h1:∀i,i<cs.length→ι b (o+i)=some (g i)) (h2:∀i v,cs[i]?=some v→Rel ι μ v (g i)) (h3:∀i,(g i).oneCell'=true) :
   Rel ι μ (.eS cs) (.pointer (some ⟨b,o,none⟩))
 |ep (id t i p L) (h:μ id=some L):Rel ι μ (.ep id t i p) (.pointer (some ⟨L.b,L.ba+i * t.sz+t.bw p,none⟩))
 |ip (t x b o us) (h1:Reads ι b o us) (h2:af ι t x us):Rel ι μ (.ip t x) (.pointer (some ⟨b,o,none⟩))
 | fn (f fs cs) (xs ys : Array Value) (h1 : fs.length = xs.size) (h2 : ∀ (i : Nat) v x, fs[i]? = some v → xs[i]? = some x → Rel ι μ v x)
   (h3:cs.length=ys.size) (h4:∀(i:Nat) v x,cs[i]?=some v→ys[i]?=some x→Rel ι μ v x):Rel ι μ (.fn f fs cs) (.func (.func f) xs ys)
 |yl (id L) (h:μ id=some L):Rel ι μ (.yl id) (.func (.yield L.b) #[] #[])
 |agg (cs) (xs:Array Value) (h1:cs.length=xs.size) (h2:∀(i:Nat) v x,cs[i]?=some v→xs[i]?=some x→Rel ι μ v x) (h3:∀x∈xs.toList,x.oneCell'=true):Rel ι μ (.agg cs) (.agg xs)
 |bX (cs) (xs:Array Value) (h1:cs.length=xs.size) (h2:∀(i:Nat) v x,cs[i]?=some v→xs[i]?=some x→Rel ι μ v x):Rel ι μ (.bX cs) (.tuple xs)
 |bZ (t v x) (h:Rel ι μ v x):Rel ι μ (.bZ t v) (.iface t x)
 |cb (c b) (h:b=true→c=true):Rel ι μ (.cb c) (.bool b)
 |mp (id L) (h:μ id=some L):Rel ι μ (.mp id) (.map (some L.b))
 |aO:Rel ι μ .aO (.map none)
 |pa (id t n L) (h:μ id=some L) (hn:L.len=n):Rel ι μ (.pa id t n) (.pointer (some ⟨L.b,L.ba,none⟩))
 |kC (t xs b o us) (h1:Reads ι b o us) (h2:bf (af ι t) xs us):Rel ι μ (.kC t xs) (.pointer (some ⟨b,o,none⟩))
 |sp (id o l L) (h:μ id=some L) (hb:∀x∈l,0≤x.2.2∧x.2.2<(x.2.1:Int)):Rel ι μ (.sp id o l) (.pointer (some ⟨L.b,L.ba+(o+lD l),none⟩))
theorem Rel.mono {ι ι':au} {μ μ':Mu} (hi:ι.le ι') (hm:μ.le μ') {v:V} {x:Value} (h:Rel ι μ v x):Rel ι' μ' v x:=by
 induction h with
 |any x=>exact .any x
 |tf b=>exact .tf b
 |bool b=>exact .bool b
 |int k n=>exact .int k n
 |str s=>exact .str s
 |b7=>exact .b7
 |cz=>exact .cz
 |eO=>exact .eO
 |ez t xs x h=>exact .ez t xs x (af.mono (t:=.list t) hi h)
 |bG a=>exact .bG a
 |sl id t lo n cap L h h1 h2 h3=>exact .sl id t lo n cap L (hm _ _ h) h1 h2 h3
 |cB id t lo a=>exact .cB id t lo a
 |ptr id off L h=>exact .ptr id off L (hm _ _ h)
 |eS cs b o g h1 h2 h3 ih=>exact .eS cs b o g (fun i h=>hi _ _ _ (h1 i h)) ih h3
 |ep id t i p L h=>exact .ep id t i p L (hm _ _ h)
 |ip t x b o us h1 h2=>exact .ip t x b o us (h1.mono hi) (af.mono hi h2)
 |fn f fs cs xs ys h1 h2 h3 h4 ih1 ih2=>exact .fn f fs cs xs ys h1 ih1 h3 ih2
 |yl id L h=>exact .yl id L (hm _ _ h)
 |agg cs xs h1 h2 h3 ih=>exact .agg cs xs h1 ih h3
 |bX cs xs h1 h2 ih=>exact .bX cs xs h1 ih
 |bZ t v x h ih=>exact .bZ t v x ih
 |cb c b h=>exact .cb c b h
 |mp id L h=>exact .mp id L (hm _ _ h)
 |aO=>exact .aO
 |pa id t n L h hn=>exact .pa id t n L (hm _ _ h) hn
 |kC t xs b o us h1 h2=>exact .kC t xs b o us (h1.mono hi) (bf.mono (fun _ _=>af.mono hi) h2)
 |sp id o l L h hb=>exact .sp id o l L (hm _ _ h) hb
def aI (ι:au) (μ:Mu) (cs:List V) (xs:List Value):Prop :=
 cs.length=xs.length∧∀(i:Nat) v x,cs[i]?=some v→xs[i]?=some x→Rel ι μ v x
section rell
variable {ι ι':au} {μ μ':Mu}
theorem aI.nil:aI ι μ [] []:=⟨rfl,fun i v x h=>by simp at h⟩
theorem aI.cons {v:V} {x:Value} {cs:List V} {xs:List Value} (h:Rel ι μ v x) (hl:aI ι μ cs xs):aI ι μ (v::cs) (x::xs) :=
 ⟨by simp [hl.1],fun i w y hw hy=>by
  cases i with
  |zero=>simp at hw hy;subst hw;subst hy;exact h
  |succ i=>exact hl.2 i w y (by simpa using hw) (by simpa using hy)⟩
theorem aI.bq {v:V} {cs:List V} {xs:List Value} (h:aI ι μ (v::cs) xs):∃x r,xs=x::r∧Rel ι μ v x∧aI ι μ cs r:=by
 cases xs with
 |nil=>exact absurd h.1 (by simp)
 |cons x r=>exact ⟨x,r,rfl,h.2 0 v x rfl rfl,by have:=h.1;simpa using this,fun i w y hw hy=>h.2 (i+1) w y (by simpa using hw) (by simpa using hy)⟩
theorem aI.of_nil {xs:List Value} (h:aI ι μ [] xs):xs=[]:=by have:=h.1;cases xs<;>simp_all
theorem aI.mono (hi:ι.le ι') (hm:μ.le μ') {cs:List V} {xs:List Value} (h:aI ι μ cs xs):aI ι' μ' cs xs :=
 ⟨h.1,fun i v x hv hx=>(h.2 i v x hv hx).mono hi hm⟩
theorem aI.append {cs ds:List V} {xs ys:List Value} (h:aI ι μ cs xs) (h':aI ι μ ds ys):aI ι μ (cs++ds) (xs++ys):=by
 induction cs generalizing xs with
 |nil=>rw [h.of_nil];simpa using h'
 |cons c cs ih=>obtain ⟨x,r,rfl,h1,h2⟩:=h.bq;exact .cons h1 (ih h2)
theorem aI.drop {cs:List V} {xs:List Value} (h:aI ι μ cs xs) (k:Nat):aI ι μ (cs.drop k) (xs.drop k) :=
 ⟨by simp [h.1],fun i v x hv hx=>h.2 (k+i) v x (by simpa using hv) (by simpa using hx)⟩
theorem aI.take {cs:List V} {xs:List Value} (h:aI ι μ cs xs) (k:Nat):aI ι μ (cs.take k) (xs.take k) :=
 ⟨by simp [h.1],fun i v x hv hx=>by
  rw [List.getElem?_take] at hv hx
  split at hv
  ·rename_i hk;rw [if_pos hk] at hx;exact h.2 i v x hv hx
  ·simp at hv⟩
theorem aI.at {cs:List V} {xs:List Value} (h:aI ι μ cs xs) {i:Nat} {v:V} (hv:cs[i]?=some v):∃x,xs[i]?=some x∧Rel ι μ v x:=by
 have hi:=(List.getElem?_eq_some_iff.1 hv).1
 exact ⟨xs[i]'(by rw [←h.1];exact hi),by simp,h.2 i v _ hv (by simp)⟩
theorem aI.qI {cs vs:List V} {off k:Nat} {xs:List Value} (h:aI ι μ cs xs) (hc:cut off k cs=some vs):aI ι μ vs ((xs.drop off).take k)∧vs.length=k∧off+k≤xs.length:=by
 unfold cut at hc
 split at hc
 ·rename_i hk
  cases hc
  exact ⟨(h.drop off).take k,by simp;omega,by rw [←h.1];exact hk⟩
 ·cases hc
end rell
theorem Rel.cells {ι:au} {μ:Mu} {v:V} {x:Value} (h:Rel ι μ v x) {cs:List V} (hv:v.cells?=some cs):aI ι μ cs x.cells.toList∧∀u∈x.cells.toList,u.oneCell'=true:=by
 cases h
 case any=>cases hv
 case bX=>cases hv
 case cb=>cases hv
 case agg cs xs h1 h2 h3 =>
  cases hv
  exact ⟨⟨by simpa [Value.cells] using h1,fun i v x hv hx=>h2 i v x hv (by simpa [Value.cells] using hx)⟩,h3⟩
 case ez t xs h =>
  obtain ⟨a,cap,e,hl,hx⟩:=h
  cases e
  cases hv
  exact ⟨.cons (.ez t xs _ ⟨a,cap,rfl,hl,hx⟩) .nil,by simp [Value.cells,Value.oneCell']⟩
 case eS cs b o g h1 h2 h3=>cases hv;exact ⟨.cons (.eS cs b o g h1 h2 h3) .nil,by simp [Value.cells,Value.oneCell']⟩
 case fn f fs cs xs ys h1 h2 h3 h4=>cases hv;exact ⟨.cons (.fn f fs cs xs ys h1 h2 h3 h4) .nil,by simp [Value.cells,Value.oneCell']⟩
 all_goals
  cases hv
  refine ⟨.cons ?_ .nil,by simp [Value.cells,Value.oneCell']⟩
  first
   |(constructor;done)
   |(constructor<;>assumption)
theorem zO {ι:au} {μ:Mu} {g:Bool} {cs:List V} {xs:List Value} {v:Value} (h:gI g xs=some v) (hr:aI ι μ cs xs) (h1:∀u∈xs,u.oneCell'=true):Rel ι μ (cm.iu g cs) v:=by
 cases g with
 |true =>
  cases h
  exact .agg _ _ (by simpa using hr.1) (fun i v x hv hx=>hr.2 i v x hv (by simpa using hx)) (by simpa using h1)
 |false =>
  match xs,h with
  |[c],h =>
   cases h
   match cs,hr with
   |[v'],hr=>exact hr.2 0 v' _ rfl rfl
   |[],hr=>exact absurd hr.1 (by simp)
   |_::_::_,hr=>exact absurd hr.1 (by simp)
theorem eE {ι : au} {μ : Mu} : ∀ {t : Ty} {x : t.den} {vs : List Value}, af ι t x vs → aI ι μ (cm t x) vs
 | .unit,_,_,h=>by simp [af] at h;subst h;exact .nil
 | .bool,_,_,h=>by simp [af] at h;subst h;exact .cons (.bool _) .nil
 | .str,_,_,h=>by simp [af] at h;subst h;exact .cons (.str _) .nil
 | .int _,_,_,h=>by simp [af] at h;subst h;exact .cons (.int _ _) .nil
 | .list t,xs,_,h=>by
  obtain ⟨a,cap,e,hl,hx⟩:=h
  subst e
  exact .cons (.ez t xs _ ⟨a,cap,rfl,hl,hx⟩) .nil
 | .prod _ _,_,_,⟨us,ws,e,h1,h2⟩=>by subst e;exact (eE h1).append (eE h2)
 | .bZ d g t,x,_,⟨xs,v,h1,h2,h3⟩=>by
  subst h3
  exact .cons (.bZ d _ v (zO h2 (eE h1) (af.one h1))) .nil
def gM (ι:au) (μ:Mu) (id:Nat) (t:Ty) (xs:List t.den):Prop :=
 (xs=[]∧μ id=none)∨∃L vs,μ id=some L∧Reads ι L.b L.ba vs∧bf (af ι t) xs vs∧xs.length=L.len
def HP:List Int:=[0,1,56,2,57,49,28,3,61,58,42,50,38,29,17,4,62,47,59,36,45,43,51,22,53,39,33,30,24,18,12,5,63,55,48,27,60,41,37,16,46,35,44,21,52,32,23,11,54,26,40,15,34,20,31,10,25,14,19,9,13,8,7,6]
def oI (P:Program) (g:Nat):Option (List Int):=match P.globals[g]? with
 |some gl=>if gl.name == "math/bits.deBruijn64tab" then some HP else none
 |none=>none
def iP (P:Program) (ι:au):Prop:=∀g de,oI P g=some de→Reads ι g 0 (de.map fun z=>Value.int .u8 z)
theorem iP.mono {P:Program} {ι ι':au} (h:iP P ι) (hi:ι.le ι'):iP P ι':=fun g de hg=>(h g de hg).mono hi
theorem iP.rel {P:Program} {ι:au} (h:iP P ι) (μ:Mu) {g:Nat} {de:List Int} (hg:oI P g=some de):Rel ι μ (.kC (.int .u8) de) (.pointer (some ⟨g,0,none⟩)):=by
 refine .kC (.int .u8) de g 0 (de.map fun z=>Value.int .u8 z) (h g de hg) ?_
 clear hg
 induction de with
 |nil=>rfl
 |cons z r ih=>exact ⟨[.int .u8 z],_,rfl,rfl,ih⟩
theorem iP.none {P:Program} (h:(List.range P.globals.size).all (fun g=>(oI P g).isNone)=true) (ι:au):iP P ι:=fun g de hg=>by
 have hs:g<P.globals.size:=by
  unfold oI at hg
  split at hg
  ·rename_i gl h';exact (Array.getElem?_eq_some_iff.1 h').1
  ·cases hg
 have:=List.all_eq_true.1 h g (List.mem_range.2 hs)
 rw [hg] at this;cases this
theorem dI {t t':Ty} {xs:List t.den} {ys:List t'.den} (h:jE t t' xs=some ys):∃e:t=t',ys=e▸xs:=by
 unfold jE at h
 split at h
 ·rename_i e;cases h;exact ⟨e,rfl⟩
 ·cases h
theorem zP {ι:au} {μ:Mu} {t:Ty} {v:V} {x:Value} (h:Rel ι μ v x):Rel ι μ (KB t v) x:=by
 unfold KB
 split
 ·cases h;exact .ez _ _ _ ⟨_,0,rfl,Nat.le_refl _,.inl rfl⟩
 ·cases h;exact .bool _
 ·exact h
theorem tO {ι : au} {μ : Mu} : ∀ {ts : List Ty} {cs : List V} {xs : List Value}, aI ι μ cs xs → aI ι μ (Ba ts cs) xs
 |[],cs,xs,h=>by cases cs<;>exact h
 |t::ts,[],xs,h=>h
 |t::ts,c::cs,xs,h=>by
  obtain ⟨x,r,rfl,h1,h2⟩:=h.bq
  exact .cons (zP h1) (tO h2)
theorem M9 {ι:au} {μ:Mu} {ty:Option Ty} {v:V} {x:Value} (h:Rel ι μ v x):Rel ι μ (P9 ty v) x:=by
 unfold P9
 split
 ·exact h
 ·rename_i t
  split
  ·rename_i cs
   cases h with
   |agg _ xs h1 h2 h3 =>
    have:=tO (ts:=uU t) (ι:=ι) (μ:=μ) (cs:=cs) (xs:=xs.toList) ⟨by simpa using h1,fun i v x hv hx=>h2 i v x hv (by simpa using hx)⟩
    exact .agg _ _ (by simpa using this.1) (fun i v x hv hx=>this.2 i v x hv (by simpa using hx)) h3
  ·exact zP h
theorem lE {ι : au} {μ : Mu} : ∀ {ts : List (Option Ty)} {cs : List V} {xs : List Value}, aI ι μ cs xs → aI ι μ (cG ts cs) xs
 |[],cs,xs,h=>by cases cs<;>exact h
 |t::ts,[],xs,h=>h
 |t::ts,c::cs,xs,h=>by
  obtain ⟨x,r,rfl,h1,h2⟩:=h.bq
  exact .cons (M9 h1) (lE h2)
end Go.AM
end
section
namespace Go.AM
def Qa : Value → Option V
 | .bool b=>some (.tf b)
 | .int k n=>some (.int k n)
 | .string s=>some (.str s)
 | .slice none 0 0=>some .bG
 | .pointer none=>some .b7
 | .nilFunc=>some .cz
 | .nilIface=>some .eO
 | .map none=>some .aO
 |_=>none
def ze : List Value → Option (List V)
 |[]=>some []
 |v::r=>match Qa v,ze r with
  |some x,some xs=>some (x::xs)
  |_,_=>none
def ofC : Value → Option V
 | .agg cs=>match ze cs.toList with
  |some vs=>some (.agg vs)
  |none=>none
 |v=>Qa v
def dg : Operand → Option O
 | .tmp t=>some (.t t)
 | .const v=>match ofC v with
  |some x=>some (.c x)
  |none=>none
 | .func f=>some (.c (.fn f [] []))
 | .global _=>none
def vL : List Operand → Option (List O)
 |[]=>some []
 |x::r=>match dg x,vL r with
  |some y,some ys=>some (y::ys)
  |_,_=>none
def abM : Operand → Operand → Option O
 | .tmp n,.tmp m=>if n=m then some (.t n) else none
 | .const (.int k n),.const (.int k' m)=>if k=k'∧n=m then some (.c (.int k n)) else none
 |_,_=>none
def Dv (g : TypeId → Option Ty) : List Field → Option Ty
 |[]=>some .unit
 |[f]=>g f.type
 |f::r=>match g f.type,Dv g r with
  |some a,some b=>some (.prod a b)
  |_,_=>none
def Z7 : Nat → Ty → Ty
 |0,_=>.unit
 |1,t=>t
 |n+2,t=>.prod t (Z7 (n+1) t)
def afy (P:Program) (ms:Array (String×TypeId)):Option Nat:=(List.range P.types.size).find? fun t=>match P.underlying t with
 |some (.struct _)=>match P.info? t with
  |some i => !ms.isEmpty&&ms.all fun (n,_)=>i.methods.any fun m=>m.name==n&&m.path.isEmpty&&(match m.func with
   |some (_,false)=>true
   |_=>false)
  |none=>false
 |_=>false
def o4 (P : Program) : Nat → TypeId → Option Ty
 |0,_=>none
 |n+1,t=>match P.underlying t with
  |some .bool=>some .bool
  |some (.int k)=>some (.int k)
  |some .string=>some .str
  |some (.slice e)=>(o4 P n e).map .list
  |some (.struct fs)=>match fs.toList with
   |[f]=>(o4 P n f.type).map fun a=>.prod a .unit
   |fs=>Dv (o4 P n) fs
  |some (.array m e)=>(o4 P n e).map (Z7 m)
  |some (.interface ms)=>match afy P ms with
   |some d=>(o4 P n d).map (.bZ d true)
   |none=>none
  |_=>none
def cN (P:Program) (t:TypeId):Option Nat:=(P.info? t).map (·.size)
def sD (P:Program) (t:TypeId):Option Bool:=match P.underlying t with
 |some (.struct _)=>some true
 |some (.array _ _)=>some true
 |some _=>some false
 |none=>none
def tP : Ty → Value → Bool
 | .bool,.bool b => !b
 | .str,.string s=>s.size==0
 | .int k,.int k' n=>decide (k=k')&&n==0
 | .list _,.slice none 0 0=>true
 |_,_=>false
def dJ : Ty → List Value → Option (List Value)
 | .unit,vs=>some vs
 | .prod a b,vs=>match dJ a vs with
  |some r=>dJ b r
  |none=>none
 | .bool,v::r=>if tP .bool v then some r else none
 | .str,v::r=>if tP .str v then some r else none
 | .int k,v::r=>if tP (.int k) v then some r else none
 | .list t,v::r=>if tP (.list t) v then some r else none
 | .bZ _ _ _,_::_=>none
 |_,[]=>none
def KC (t : Ty) : Nat → List Value → Option (List Value)
 |0,vs=>some vs
 |n+1,vs=>match dJ t vs with
  |some r=>KC t n r
  |none=>none
def Bb : Ty → Bool
 | .unit=>true
 | .bool=>true
 | .str=>true
 | .int _=>true
 | .prod a b=>Bb a&&Bb b
 |_=>false
def Z8 (P:Program) (e:TypeId):Option (Ty×Nat):=match P.underlying e with
 |some (.array m el)=>match o4 P 8 el,cN P el with
  |some ty,some k=>if ty.sz=k∧1≤k∧m≤64∧Bb ty=true∧cN P e=some (m * k) then some (ty,m) else none
  |_,_=>none
 |_=>none
def HQ : Value → Bool
 | .agg _=>true
 |_=>false
def zQ (P:Program) (e:TypeId):Option (Ty×Bool):=match o4 P 8 e,sD P e,P.info? e with
 |some ty,some g,some i=>match i.zero with
  |some z=>match dJ ty z.cells.toList with
   |some []=>if HQ z=g then some (ty,g) else none
   |_=>none
  |none=>none
 |_,_,_=>none
def U4 (P:Program) (name:String):List (Nat×Nat):=(List.range P.types.size).filterMap fun t=>match P.info? t with
 |some i=>match i.methods.find? (·.name==name) with
  |some m=>if m.path.isEmpty then (match m.func,P.underlying t with
   |some (f,true),some (.pointer _)=>some (t,f)
   |some (_,true),_=>none
   |some (_,false),some (.pointer _)=>none
   |some (f,false),some _=>some (t,f)
   |_,_=>none) else none
  |none=>none
 |none=>none
def Z9 (n f:Nat):List Bool:=if n=1 then [false] else if f+1=n then List.replicate f true else List.replicate f true++[false]
def vM : BinOp → Option yV
 | .add=>some .add
 | .sub=>some .sub
 | .mul=>some .mul
 | .quo=>some .quo
 | .rem=>some .rem
 | .and=>some .and
 | .or=>some .or
 | .xor=>some .xor
 | .andNot=>some .andNot
 | .shl=>some .shl
 | .shr=>some .shr
 | .eql=>some .eql
 | .neq=>some .neq
 | .lss=>some .lss
 | .leq=>some .leq
 | .gtr=>some .gtr
 | .geq=>some .geq
def lF:Nat:=1024
def jF (P:Program) (e:TypeId):Option Nat:=match P.info? e with
 |some i=>match i.zero with
  |some z=>if i.bytes≤lF∧z.cells.size=i.size then some i.size else none
  |none=>none
 |none=>none
def partsOf (place : Nat → Option (Nat × Nat)) : List (Nat × Operand) → Option (List (Nat × Nat × O))
 |[]=>some []
 |(i,x)::r=>match place i,dg x,partsOf place r with
  |some (off,k),some y,some ys=>some ((off,k,y)::ys)
  |_,_,_=>none
def uW : Nat → List (Nat × Operand) → Option (List O)
 |_,[]=>some []
 |n,(i,x)::r=>if i=n then (match dg x,uW (n+1) r with
  |some y,some ys=>some (y::ys)
  |_,_=>none) else none
def Bc : Option Operand → Option (Option O)
 |none=>some none
 |some x=>(dg x).map some
def qJ (P:Program) (s:TypeId) (f:Nat):Option (Field×Nat):=match P.underlying s with
 |some (.struct fs)=>match fs[f]? with
  |some fd=>some (fd,fs.size)
  |none=>none
 |_=>none
def kF : BinOp → Option Bool
 | .eql=>some false
 | .neq=>some true
 |_=>none
def tQ (P : Program) : Nat → List Field → Option (List Kd)
 |_,[]=>some []
 |n,f::r=>if f.name ≠ "_" ∧ f.offset=n then (match P.underlying f.type,tQ P (n+1) r with
  |some .bool,some ks=>some (.b::ks)
  |some (.int _),some ks=>some (.i::ks)
  |some .string,some ks=>some (.s::ks)
  |_,_=>none) else none
def Qb (P:Program) (t:TypeId):Option (List Kd):=match P.underlying t with
 |some (.struct fs)=>if P.stoodInHeld t=false∧(P.info? t).isSome then (match tQ P 0 fs.toList with
  |some ks=>if P.cellsOf t=ks.length then some ks else none
  |none=>none) else none
 |_=>none
def U5 (P:Program) (t:TypeId):Option (List Kd):=match P.underlying t with
 |some (.array m e)=>(match P.underlying e with
  |some (.int _)=>if P.cellsOf e=1∧(P.info? e).isSome∧(P.info? t).isSome∧P.cellsOf t=m then some (List.replicate m .i) else none
  |_=>none)
 |_=>none
def gN (P : Program) : Nat → List Field → Option (List Kd)
 |_,[]=>some []
 |n,f::r=>if f.name ≠ "_" ∧ f.offset=n then (match P.underlying f.type with
  |some .bool=>(gN P (n+1) r).map (.b::·)
  |some (.int _)=>(gN P (n+1) r).map (.i::·)
  |some .string=>(gN P (n+1) r).map (.s::·)
  |some (.struct _)=>(match Qb P f.type with
   |some ks=>(gN P (n+ks.length) r).map (ks++·)
   |none=>none)
  |some (.array _ _)=>(match U5 P f.type with
   |some ks=>(gN P (n+ks.length) r).map (ks++·)
   |none=>none)
  |_=>none) else none
def structEq (P:Program) (t:TypeId):Option (List Kd):=match P.underlying t with
 |some (.struct fs)=>if P.eqGuardType P.depth t=false∧P.stoodInHeld t=false then gN P 0 fs.toList else none
 |some (.array _ _)=>if P.eqGuardType P.depth t=false then U5 P t else none
 |_=>none
def bx : Ty → Option (List Kd)
 | .unit=>some []
 | .bool=>some [.b]
 | .str=>some [.s]
 | .int _=>some [.i]
 | .prod a b=>match bx a,bx b with
  |some x,some y=>some (x++y)
  |_,_=>none
 |_=>none
def vN (P:Program) (k:TypeId):Option (Ty×Bool):=match P.underlying k with
 |some (.int i)=>some (.int i,false)
 |some .string=>some (.str,false)
 |some (.struct fs)=>match o4 P 8 k,tQ P 0 fs.toList with
  |some ty,some ks=>if bx ty=some ks∧P.stoodInHeld k=false then some (ty,true) else none
  |_,_=>none
 |_=>none
def jG (P:Program) (t:TypeId):Option (Ty×Bool×Ty×Bool):=match P.underlying t with
 |some (.map k e)=>match vN P k,zQ P e with
  |some (kt,kg),some (vt,vg)=>some (kt,kg,vt,vg)
  |_,_=>none
 |_=>none
def trB (P:Program) (b:Builtin) (tys:List TypeId) (args:List Operand):Option I :=
 match b,tys,args with
 | .len,[t],[x]=>match P.underlying t with
  |some .string=>(dg x).map .lens
  |some (.slice _)=>(dg x).map .len
  |some (.array n _)=>some (.yX n)
  |some (.map _ _)=>(dg x).map fun x=>.ex .UW [x]
  |some (.pointer a)=>match P.underlying a with
   |some (.array n _)=>some (.yX n)
   |_=>none
  |_=>none
 | .append,[t,u],[x,y]=>match P.underlying t,P.underlying u with
  |some (.slice e),some (.slice _)=>match jF P e,dg x,dg y with
   |some k,some x,some y=>some (.append k x y)
   |_,_,_=>none
  |some (.slice e),some (.int _)=>match o4 P 8 e,jF P e,P.info? e with
   |some ty,some k,some i=>match i.zero with
    |some z=>match dJ ty z.cells.toList with
     |some []=>match dg x,dg y with
      |some x,some y=>if ty.sz=k∧z.cells.size=k then some (.ex (.abK ty) [x,y]) else none
      |_,_=>none
     |_=>none
    |none=>none
   |_,_,_=>none
  |_,_=>none
 | .cap,[t],[x]=>match P.underlying t with
  |some (.slice _)=>(dg x).map fun x=>.ex .capn [x]
  |_=>none
 | .clear,[t],[x]=>match P.underlying t with
  |some (.slice e)=>match o4 P 8 e,jF P e,P.info? e with
   |some ty,some k,some i=>match i.zero with
    |some z=>match dJ ty z.cells.toList with
     |some []=>if ty.sz=k∧z.cells.size=k then (dg x).map fun x=>.ex (.clear ty) [x] else none
     |_=>none
    |none=>none
   |_,_,_=>none
  |_=>none
 | .max,_,x::r=>match dg x,vL r with
  |some x,some ys=>some (.k8 true x ys)
  |_,_=>none
 | .min,_,x::r=>match dg x,vL r with
  |some x,some ys=>some (.k8 false x ys)
  |_,_=>none
 |_,_,_=>none
def zR (P:Program) (op:BinOp) (t:TypeId) (x y:Operand):Option I:=match y with
 | .const (.slice none 0 0)=>match P.underlying t,dg x,kF op with
  |some (.slice _),some x,some n=>some (.ex (.P4 n) [x])
  |_,_,_=>none
 | .const (.map none)=>match P.underlying t,dg x,kF op with
  |some (.map _ _),some x,some n=>some (.ex (.HG n) [x])
  |_,_,_=>none
 | .const (.pointer none)=>match P.underlying t,dg x,kF op with
  |some (.pointer _),some x,some n=>some (.ex (.HH n) [x])
  |_,_,_=>none
 |y=>match dg x,dg y with
  |some x,some y=>match structEq P t with
   |some ks=>match kF op with
    |some n=>some (.eqs n ks x y)
    |none=>none
   |none=>match P.underlying t with
    |some .bool=>(kF op).map (.UY · x y)
    |some (.int _)=>(vM op).map (.bin · x y)
    |some .string=>(vM op).map (.bin · x y)
    |_=>none
  |_,_=>none
def sE (P:Program) (t:TypeId) (x i:Operand):Option I:=match x with
 | .global g=>match P.underlying t,oI P g,dg i with
  |some (.array n e),some de,some i=>match P.underlying e,cN P e with
   |some (.int .u8),some 1=>if de.length=n then some (.yW n 1 (.c (.kC (.int .u8) de)) i) else none
   |_,_=>none
  |_,_,_=>none
 |_=>none
def Dx (P:Program) (o:Op):Option I :=
 match o with
 | .move x=>(dg x).map .mv
 | .assign x=>(dg x).map .mv
 | .pick c a b=>match dg c,dg a,dg b with
  |some c,some a,some b=>some (.pick c a b)
  |_,_,_=>none
 | .alloc e=>match P.info? e with
  |some i=>match i.zero with
   |some z=>match Z8 P e with
    |some (ty,m)=>match KC ty m z.cells.toList with
     |some []=>some (.ex (.HI ty m) [])
     |_=>none
    |none=>(ze z.cells.toList).map .alloc
   |none=>none
  |none=>none
 | .box e x=>match Z8 P e with
  |some (ty,m)=>(dg x).map fun x=>.ex (.UX ty m) [x]
  |none=>(dg x).map .box
 | .build t parts=>match P.info? t,P.underlying t with
  |some it,some (.struct fields)=>match it.zero,fields.toList.mapM (fun f=>(P.info? f.type).map fun i=>(f.offset,i.size)) with
   |some z,some places=>match ze z.cells.toList,partsOf (places.toArray[·]?) parts.toList with
    |some z,some ps=>some (.build z ps)
    |_,_=>none
   |_,_=>none
  |some it,some (.array _ e)=>match it.zero,P.info? e with
   |some z,some ie=>match ze z.cells.toList,partsOf (fun i=>some (i * ie.size,ie.size)) parts.toList with
    |some z,some ps=>some (.build z ps)
    |_,_=>none
   |_,_=>none
  |_,_=>none
 | .buildSlice t n parts=>match P.underlying t with
  |some (.slice e)=>match o4 P 8 e,jF P e,uW 0 parts.toList with
   |some ty,some k,some xs=>if ty.sz=k∧xs.length=n∧n * k≤2 ^ 20 then some (.dH ty xs) else none
   |_,_,_=>none
  |_=>none
 | .load t x=>match cN P t,sD P t,dg x with
  |some k,some g,some x=>some (.load g k x)
  |_,_,_=>none
 | .store t a x=>match cN P t,dg a,dg x with
  |some k,some a,some x=>some (.store k a x)
  |_,_,_=>none
 | .binOp op t x y _=>zR P op t x y
 | .nilCheck x=>(dg x).map fun x=>.ex .eA [x]
 | .unOp .neg _ x=>(dg x).map .neg
 | .unOp .not _ x=>(dg x).map .not
 | .convert s d x=>match P.underlying s,P.underlying d with
  |some (.int _),some (.int k)=>(dg x).map (.conv k)
  |some .string,some (.slice e)=>match P.underlying e with
   |some (.int .u8)=>(dg x).map fun x=>.ex .bytes [x]
   |_=>none
  |some (.slice e),some .string=>match P.underlying e with
   |some (.int .u8)=>(dg x).map fun x=>.ex .text [x]
   |_=>none
  |_,_=>none
 | .makeFunc (.func f) a b=>match vL a.toList,vL b.toList with
  |some a,some b=>some (.A4 f a b)
  |_,_=>none
 | .makeSlice t n m=>match abM n m with
  |some xn=>(match P.underlying t with
  |some (.slice e)=>match o4 P 8 e,jF P e,P.info? e with
   |some ty,some k,some i=>match i.zero with
    |some z=>match dJ ty z.cells.toList with
     |some []=>if ty.sz=k∧z.cells.size=k then some (.gY ty xn) else none
     |_=>none
    |none=>none
   |_,_,_=>none
  |_=>none)
  |none=>none
 | .slice t x lo hi mx=>match P.underlying t with
  |some (.slice e)=>match cN P e,dg x,Bc lo,Bc hi,Bc mx with
   |some k,some x,some lo,some hi,some mx=>some (.slice k x lo hi mx)
   |_,_,_,_,_=>none
  |_=>none
 | .fieldAddr s x f=>match qJ P s f with
  |some (fd,n)=>match cN P fd.type,dg x with
   |some (_+1),some x=>some (.jl fd.offset (Z9 n f) x)
   |_,_=>none
  |none=>none
 | .field s x f=>match qJ P s f with
  |some (fd,_)=>match cN P fd.type,sD P fd.type,dg x with
   |some k,some g,some x=>some (.field g fd.offset k x)
   |_,_,_=>none
  |none=>none
 | .indexAddr t x i=>match P.underlying t,dg x,dg i with
  |some (.slice e),some x,some i=>(cN P e).map fun k=>.idx k x i
  |some (.array n e),some x,some (.c (.int _ (.ofNat m)))=>match cN P e with
   |some (k+1)=>if m<n then some (.jl (m * (k+1)) (Z9 n m) x) else none
   |_=>none
  |some (.array n e),some x,some i=>(cN P e).map fun k=>.yW n k x i
  |_,_,_=>sE P t x i
 | .index t x i=>match P.underlying t,dg x,dg i with
  |some (.array n e),some x,some i=>match cN P e,sD P e with
   |some (k+1),some g=>some (.ex (.P3 n (k+1) g) [x,i])
   |_,_=>none
  |some .string,some x,some i=>some (.ex .vK [x,i])
  |_,_,_=>none
 | .makeMap t none=>match jG P t with
  |some (kt,kg,vt,vg)=>some (.ex (.ir kt kg vt vg) [])
  |none=>none
 | .lookup t x i ok=>match jG P t,dg x,dg i with
  |some (kt,kg,vt,vg),some x,some i=>some (.ex (.dG kt kg vt vg ok) [x,i])
  |_,_,_=>none
 | .mapUpdate t m k v=>match jG P t,dg m,dg k,dg v with
  |some (kt,kg,vt,vg),some m,some k,some v=>some (.ex (.gL kt kg vt vg) [m,k,v])
  |_,_,_,_=>none
 | .makeInterface t x=>match P.underlying t with
  |some (.interface _)=>none
  |some _=>(dg x).map fun x=>.ex (.mkif t) [x]
  |none=>none
 | .panic _=>some (.ex .vK [])
 | .range _ _=>some (.ex .vK [])
 | .next _ _=>some (.ex .vK [])
 | .entry _=>some (.ex .vK [])
 | .extract x k=>(dg x).map (.ext k)
 | .call { callee:=.builtin b,args,argTypes }=>trB P b argTypes.toList args.toList
 |_=>none
def trG (ops : Array Oper) : Option (Nat × Bool) → Option (Option (Nat × Bool))
 |none=>some none
 |some (j,b)=>match ops[j]? with
  |some o=>match o.dst with
   |some d=>some (some (d,b))
   |none=>none
  |none=>none
def qK (N : Nat) : Option Nat → Bool
 |none=>true
 |some d=>d<N
def l9 (P : Program) : Callee → Option O
 | .value f=>dg f
 | .invoke (.tmp t) name=>some (.m t (U4 P name))
 |_=>none
def rawF (P:Program) (f:Nat):Bool:=match P.funcs[f]? with
 |some f=>(Nat.beq f.targs.size 1||(Nat.beq f.params.size 2&&(match f.params[1]? with
   |some t=>(match P.underlying t with
    |some (.int _)=>true
    |some (.func _ rs _)=>Nat.beq rs.size 0
    |_=>false)
   |none=>false)))&&Nat.beq f.resultTypes.size 1&&(match f.params[0]?,f.resultTypes[0]? with
  |some a,some b=>Nat.beq a b
  |_,_=>false)
 |none=>false
def ig (P:Program) (f:O) (tys:Array TypeId):List (Option Ty):=match f with
 | .c (.fn f [] [])=>match rawF P f with
  |true=>hTs (tys.toList.map (o4 P 8))
  |false=>tys.toList.map (o4 P 8)
 |_=>tys.toList.map (o4 P 8)
def pF (P:Program) (N:Nat) (ops:Array Oper) (o:Oper):Option eC :=
 if qK N o.dst then
  match trG ops o.guard with
  |none=>none
  |some g =>
   match o.op with
   | .call { callee:=.value f,args,argTypes }=>match dg f,vL args.toList with
    |some f,some args=>some (.call o.dst g f args (ig P f argTypes))
    |_,_=>none
   | .call { callee:=.invoke r name,args,argTypes }=>match l9 P (.invoke r name),vL args.toList with
    |some f,some args=>some (.call o.dst g f args (ig P f argTypes))
    |_,_=>none
   |op=>match Dx P op with
    |some i=>some (.op o.dst g i)
    |none=>none
 else none
def dK (P : Program) (N : Nat) (ops : Array Oper) : List Oper → Option (List eC)
 |[]=>some []
 |o::r=>match pF P N ops o,dK P N ops r with
  |some i,some is=>some (i::is)
  |_,_=>none
def bJ (ops:Array Oper):List (List Nat):=(Region.before ops).toList.map fun m=>(List.range ops.size).filter fun j=>m.testBit j
def I.os : I → List O
 | .mv x=>[x]
 | .pick c a b=>[c,a,b]
 | .alloc _=>[]
 | .box x=>[x]
 | .build _ ps=>ps.map (·.2.2)
 | .dH _ xs=>xs
 | .load _ _ x=>[x]
 | .store _ a x=>[a,x]
 | .bin _ x y=>[x,y]
 | .UY _ x y=>[x,y]
 | .eqs _ _ x y=>[x,y]
 | .neg x=>[x]
 | .not x=>[x]
 | .conv _ x=>[x]
 | .jl _ _ x=>[x]
 | .field _ _ _ x=>[x]
 | .idx _ x i=>[x,i]
 | .yW _ _ x i=>[x,i]
 | .ext _ x=>[x]
 | .len x=>[x]
 | .lens x=>[x]
 | .yX _=>[]
 | .append _ x y=>[x,y]
 | .gY _ n=>[n]
 | .A4 _ a b=>a++b
 | .slice _ x lo hi mx=>x::(lo.toList++hi.toList++mx.toList)
 | .k8 _ x ys=>x::ys
 | .ex _ xs=>xs
def KE : O → List Nat
 | .t n=>[n]
 | .c _=>[]
 | .m n _=>[n]
def eC.dst : eC → Option Nat
 | .op d _ _=>d
 | .call d _ _ _ _=>d
def eC.grd : eC → Option (Nat × Bool)
 | .op _ g _=>g
 | .call _ g _ _ _=>g
def eC.os : eC → List O
 | .op _ _ i=>i.os
 | .call _ _ f as _=>f::as
def eC.uses (i:eC):List Nat:=i.os.flatMap KE++(match i.grd with
 |some (s,_)=>[s]
 |none=>[])
def Bd (d:Option Nat) (l:List Nat):Bool:=match d with
 |some t => !(l.contains t)
 |none=>true
def mb (a b:eC):Bool:=Bd a.dst b.uses&&Bd b.dst a.uses&&(match a.dst with
 |some t=>b.dst != some t
 |none=>true)
def qL (cI:List (List Nat)) (is:List eC):Bool :=
 (List.range is.length).all fun j=>(List.range j).all fun i=>((cI.getD j []).contains i)||(match is[i]?,is[j]? with
  |some a,some b=>mb a b
  |_,_=>true)
def gz (ops:Array Oper):Bool:=ops.toList.zipIdx.all fun (o,i)=>o.after.all fun e => !(Region.binds .any e)||decide (e.on<i)
def abO : eC → Bool
 | .call _ _ _ _ _=>true
 |_=>false
def U6 (cI:List (List Nat)) (n c:Nat):Bool:=(List.range n).all fun i=>decide (i<c)||(List.range i).all fun j=>(cI.getD i []).contains j
def Dy : List eC → Nat → Option Nat → Option Nat
 |[],_,r=>r
 |i::l,k,r=>Dy l (k+1) (match abO i with
  |true=>some k
  |false=>r)
def KF (cI:List (List Nat)) (is:List eC):Option Nat:=match Dy is 0 none with
 |some c=>match U6 cI is.length c&&decide (c≤is.length) with
  |true=>some c
  |false=>none
 |none=>none
structure aaa where
 pre:List eC
 m:O
 it:Nat
 cl:List Nat
 e:Option Nat
 kt:Ty
 kg:Bool
 vt:Ty
 vg:Bool
 pz:Nat
def Qc (P : Program) (N : Nat) : Code → Option (List eC × O × Nat × Ty × Bool × Ty × Bool)
 | .region _ ops false=>match ops.toList.reverse with
  |o::r=>match o.op with
   | .range t x=>match o.dst with
    |some it=>if o.guard=none∧it<N then (match jG P t,dg x,dK P N ops r.reverse with
     |some (kt,kg,vt,vg),some m,some is=>some (is,m,it,kt,kg,vt,vg)
     |_,_,_=>none) else none
    |none=>none
   |_=>none
  |[]=>none
 |_=>none
def Qd (N it : Nat) : Code → Option (Nat × Nat)
 | .region _ ops false=>match ops.toList with
  |[o,o']=>match o.op with
   | .next (.tmp i) false=>match o.dst with
    |some n=>match o'.op with
     | .extract (.tmp n') 0=>match o'.dst with
      |some ok=>if o.guard=none∧o'.guard=none∧i=it∧n'=n∧n<N∧ok<N∧n≠it∧ok≠it then some (n,ok) else none
      |none=>none
     |_=>none
    |none=>none
   |_=>none
  |_=>none
 |_=>none
def sF (N it : Nat) : Code → Option Nat
 | .seq (.region _ ops false) _=>match ops.toList with
  |o::_=>match o.op with
   | .entry (.tmp i)=>match o.dst with
    |some e=>if o.guard=none∧i=it∧e<N∧e≠it then some e else none
    |none=>none
   |_=>none
  |[]=>none
 |_=>none
def vO (P:Program) (N:Nat) (a b:Code):Option aaa:=match b with
 | .block b1 (.loop (.seq x (.seq (.cond (.tmp t) .skip (.exit b2)) (.block _ y))))=>match Qc P N a with
  |some (is,m,it,kt,kg,vt,vg)=>match Qd N it x with
   |some (n,ok)=>if t=ok∧b1=b2 then some ⟨is,m,it,[n,ok],sF N it y,kt,kg,vt,vg,b1⟩ else none
   |none=>none
  |none=>none
 |_=>none
def KG (e : Option Nat) : C → Option C
 | .block _ (.loop (.seq _ (.seq _ (.block b x))))=>match e with
  |none=>some (.block b x)
  |some _=>match x with
   | .seq (.aN (_::is)) r=>some (.block b (.seq (.aN is) r))
   |_=>none
 |_=>none
def eU (P : Program) (N : Nat) : Code → Option C
 | .skip=>some .skip
 | .label _=>some .skip
 | .scope c=>eU P N c
 | .region _ ops draw=>match dK P N ops ops.toList with
  |some is=>match draw with
   |true=>if qL (bJ ops) is=true∧gz ops=true then some (match KF (bJ ops) is with
    |some c=>.seq (.draw (bJ ops) (is.take c)) (.aN (is.drop c))
    |none=>.draw (bJ ops) is) else none
   |false=>some (.aN is)
  |none=>none
 | .seq a b=>match eU P N a,eU P N b with
  |some ca,some cb=>match vO P N a b with
   |none=>some (.seq ca cb)
   |some h=>match KG h.e cb with
    |some bd=>some (.gq h.pre h.m h.it h.cl h.e h.kt h.kg h.vt h.vg h.pz bd)
    |none=>none
  |_,_=>none
 | .cond c a b=>match dg c,eU P N a,eU P N b with
  |some c,some a,some b=>some (.cond c a b)
  |_,_,_=>none
 | .block id c=>(eU P N c).map (.block id)
 | .loop c=>(eU P N c).map .loop
 | .exit id=>some (.exit id)
 | .ret=>some .ret
 | .rangeFunc f ps a b=>match dg f,eU P N a,eU P N b with
  |some f,some a,some b=>some (.bA f ps.toList a b)
  |_,_,_=>none
 |_=>none
inductive RV where
 |t (n:Nat)
 |cell (n:Nat) (agg:Bool) (k:Nat)
structure Fn where
 N:Nat
 np:Nat
 body:C
 res:List RV
 tys:List (Option Ty)
def Qe (P : Program) : List ResultVar → Option (List RV)
 |[]=>some []
 | .tmp t::r=>(Qe P r).map (.t t::·)
 | .cell a t::r=>match cN P t,sD P t,Qe P r with
  |some k,some g,some rs=>some (.cell a g k::rs)
  |_,_,_=>none
def bK (P:Program) (f:Func):Option Fn:=match f.body with
 |some c=>match eU P f.ntmps c,Qe P f.results.toList with
  |some b,some rs=>if f.params.size+f.nfree≤f.ntmps then some ⟨f.ntmps,f.params.size+f.nfree,b,rs,f.resultTypes.toList.map (o4 P 8)⟩ else none
  |_,_=>none
 |none=>none
end Go.AM
end
section
namespace Go.AM
def U7 (c:O) (b:Bool) (S:St):St:=match c with
 | .t n=>U3 n b S
 | .c _=>S
 | .m _ _=>S
def dy : Nat → V → Bool
 |0,_=>false
 |n+1,v=>match v with
  | .sl _ _ _ _=>false
  | .ptr _ _=>false
  | .ep _ _ _ _=>false
  | .yl _=>false
  | .mp _=>false
  | .pa _ _ _=>false
  | .sp _ _ _=>false
  | .eS cs=>cs.all (dy n)
  | .fn _ a b=>a.all (dy n)&&b.all (dy n)
  | .agg cs=>cs.all (dy n)
  | .bX cs=>cs.all (dy n)
  | .bZ _ v=>dy n v
  |_=>true
def cV (g : V → Option V) : List V → Option (List V)
 |[]=>some []
 |v::r=>match g v with
  |some x=>match cV g r with
   |some xs=>some (x::xs)
   |none=>none
  |none=>none
def fin (ar : Ar) (bl : aq) : Nat → V → Option V
 |0,_=>none
 |n+1,v=>match v with
  | .sl id t lo m=>match av id bl with
   |some (.arr t' xs _)=>if t=t' then some (.ez t' (ar.sub' xs lo m)) else none
   |_=>none
  | .ptr id off=>match av id bl with
   |some (.cells cs _)=>match cV (fin ar bl n) cs with
    |some ds=>if off≤ds.length then some (.eS (ds.drop off)) else none
    |none=>none
   |_=>none
  | .ep _ _ _ _=>none
  | .yl _=>none
  | .mp _=>none
  | .sp _ _ _=>none
  | .pa id t m=>match av id bl with
   |some (.arr t' xs _)=>if t=t' then some (.kC t' xs) else none
   |_=>none
  | .fn f a b=>match cV (fin ar bl n) a,cV (fin ar bl n) b with
   |some a,some b=>some (.fn f a b)
   |_,_=>none
  | .agg cs=>match cV (fin ar bl n) cs with
   |some cs=>some (.agg cs)
   |none=>none
  | .bX cs=>match cV (fin ar bl n) cs with
   |some cs=>some (.bX cs)
   |none=>none
  | .bZ t v=>match fin ar bl n v with
   |some v=>some (.bZ t v)
   |none=>none
  | .eS cs=>if cs.all (dy n) then some (.eS cs) else none
  |v=>some v
def uC : V → List Nat
 | .sl id _ _ _=>[id]
 | .ptr id _=>[id]
 | .ep id _ _ _=>[id]
 | .mp id=>[id]
 | .pa id _ _=>[id]
 | .sp id _ _=>[id]
 |_=>[]
def qM : V → List Nat
 | .agg cs=>cs.flatMap uC
 |v=>uC v
def mc (i:I) (env:List (Nat×V)):List Nat:=match i with
 | .load _ _ x=>uC (x.ev env)
 | .store _ a x=>uC (a.ev env)++qM (x.ev env)
 | .dH _ xs=>(xs.map (·.ev env)).flatMap qM
 | .append _ x y=>uC (x.ev env)++uC (y.ev env)
 | .ex _ xs=>(xs.map (·.ev env)).flatMap qM
 |_=>[]
def Be (x : Nat) : List Nat → Bool
 |[]=>false
 |y::r=>match Nat.beq y x with
  |true=>true
  |false=>Be x r
def zS : List Nat → List Nat → Bool
 |[],_=>true
 |x::r,l=>match Be x l with
  |true=>false
  |false=>zS r l
structure DR where
 k:Nat
 rd:List Nat
 wr:List Nat
def Bf (cI:List (List Nat)) (a b:DR):Bool :=
 match Be a.k (cI.getD b.k []) with
 |true=>true
 |false=>match zS a.wr b.rd with
  |false=>false
  |true=>match zS a.wr b.wr with
   |false=>false
   |true=>zS a.rd b.wr
def KH (cI : List (List Nat)) (a : DR) : List DR → Bool
 |[]=>true
 |b::r=>match Bf cI a b with
  |true=>KH cI a r
  |false=>false
def Qf (cI : List (List Nat)) : List DR → Bool
 |[]=>true
 |a::r=>match KH cI a r with
  |true=>Qf cI r
  |false=>false
def vP (k:Nat) (rd wr:List Nat) (cR:List DR):List DR:=match rd,wr with
 |[],[]=>cR
 |_,_=>cR++[⟨k,rd,wr⟩]
def KJ : V → Bool
 | .bool _=>true
 | .tf _=>true
 | .int _ _=>true
 | .str _=>true
 |_=>false
def Qg : V → Bool
 | .bool _=>true
 | .tf _=>true
 | .int _ _=>true
 | .str _=>true
 | .agg vs=>vs.all KJ
 |_=>false
def Dz : V → Bool
 | .bool _=>true
 | .tf _=>true
 | .int _ _=>true
 | .str _=>true
 | .agg vs=>vs.all KJ
 | .bX vs=>vs.all Qg
 |_=>false
def DA (gs:List Nat) (d:Option Nat) (v:V) (env:List (Nat×V)) (K:List (Nat×V)→Prop):Prop:=match d with
 |none=>K env
 |some t=>match Be t gs with
  |false=>K (A9 t v env)
  |true=>match v with
   | .bool c=>Br c (fun _=>K (A9 t (.tf true) env)) (fun _=>K (A9 t (.tf false) env))
   |v=>K (A9 t v env)
def KK (g:Option (Nat×Bool)) (env:List (Nat×V)):Option Bool:=match g with
 |none=>some true
 |some (s,b)=>match get s env with
  | .tf c=>match c,b with
   |true,true=>some true
   |false,false=>some true
   |_,_=>some false
  | .bX _=>some false
  |_=>none
def eX (bl : aq) : Nat → V → List Nat
 |0,_=>[]
 |n+1,v=>match v with
  | .sl id _ _ _=>[id]
  | .pa id _ _=>[id]
  | .ptr id _=>id::(match av id bl with
   |some (.cells cs _)=>cs.flatMap (eX bl n)
   |_=>[])
  | .fn _ a b=>a.flatMap (eX bl n)++b.flatMap (eX bl n)
  | .agg cs=>cs.flatMap (eX bl n)
  | .bX cs=>cs.flatMap (eX bl n)
  | .bZ _ v=>eX bl n v
  |_=>[]
def jc (bl:aq) (vs:List V):List Nat:=vs.flatMap (eX bl 8)
def vQ : List Nat → aq → Option dZ
 |[],_=>some []
 |id::r,bl=>match av id bl with
  |some (.arr t xs _)=>match vQ r ((id,.arr t xs true)::aZ id bl) with
   |some u=>some ((id,some (.arr t xs true))::u)
   |none=>none
  |some (.cells cs _)=>match vQ r ((id,.cells cs true)::aZ id bl) with
   |some u=>some ((id,some (.cells cs true))::u)
   |none=>none
  |_=>none
def KL (b:Bool) (ids:List Nat) (bl:aq):Option dZ:=match b with
 |true=>some []
 |false=>vQ ids bl
def vR (o:Out) (K:V→dZ→Prop):Prop:=match o with
 |some (ob,v,u)=>uB ob∧K v u
 |none=>False
theorem vS {o:Out} {K:V→dZ→Prop} (h:vR o K):∃ob v u,o=some (ob,v,u)∧uB ob∧K v u:=by
 unfold vR at h
 split at h
 ·exact ⟨_,_,_,rfl,h.1,h.2⟩
 ·exact h.elim
theorem zT {o:Out} {K:V→dZ→Prop} {ob:List Bool} {v:V} {u:dZ} (h:o=some (ob,v,u)) (cL:uB ob) (hk:K v u):vR o K:=by
 subst h;exact ⟨cL,hk⟩
def qN (ar : Ar) (gs : List Nat) (b : Nat) : List eC → Nat → List (Nat × V) → aq → List DR → (List (Nat × V) → aq → List DR → Prop) → Prop
 |[],_,env,bl,cR,K=>K env bl cR
 | .op d g i::r,k,env,bl,cR,K=>match KK g env with
  |some true=>vR (bT ar i env bl (b+k)) (fun v u=>DA gs d v env fun env'=>qN ar gs b r (k+1) env' (bn u bl) (vP k (mc i env) (u.map (·.1)) cR) K) ∨
   vR (yZ ar i env bl (b+k)) (fun v u=>DA gs d v env fun env'=>qN ar gs b r (k+1) env' (bn u bl) (vP k (mc i env) (u.map (·.1)) cR) K)
  |some false=>qN ar gs b r (k+1) (put d (.bX []) env) bl cR K
  |none=>False
 | .call d g f a tys::r,k,env,bl,cR,K=>match KK g env with
  |some true=>match f.ev env with
   | .fn f fs cs=>match fs++cG tys (a.map (·.ev env))++cs with
    |vs=>match cV (fin ar bl 8) vs with
     |some vs'=>∃x u,ar.gx f vs' x∧KL (Dz x||vs.all (dy 8)) (jc bl vs) bl=some u∧DA gs d x env fun env'=>qN ar gs b r (k+1) env' (bn u bl) (vP k (jc bl vs) (u.map (·.1)) cR) K
     |none=>False
   |_=>False
  |some false=>qN ar gs b r (k+1) (put d (.bX []) env) bl cR K
  |none=>False
def vT : List eC → List Nat
 |[]=>[]
 | .op _ (some (s,_)) _::r=>s::vT r
 | .call _ (some (s,_)) _ _ _::r=>s::vT r
 |_::r=>vT r
def Qh (ar:Ar) (cI:List (List Nat)) (is:List eC) (S:St) (K:St→Prop):Prop :=
 qN ar (vT is) S.H.next is 0 S.env S.H.bl [] fun env bl cR=>Qf cI cR=true∧K ⟨env,⟨S.H.next+is.length,bl⟩,S.ms⟩
def qO (ar : Ar) : C → St → (Ex → St → Prop) → Prop
 | .skip,S,K=>K .normal S
 | .aN is,S,K=>eW ar is S fun S=>K .normal S
 | .draw ps is,S,K=>Qh ar ps is S fun S=>K .normal S
 | .seq a b,S,K=>qO ar a S fun e S=>match e with
  | .normal=>qO ar b S K
  | .exit id=>K (.exit id) S
  | .ret=>K .ret S
 | .cond c a b,S,K=>match c.ev S.env with
  | .tf true=>qO ar a S K
  | .tf false=>qO ar b S K
  | .bool x=>Br x (fun _=>qO ar a (U7 c true S) K) (fun _=>qO ar b (U7 c false S) K)
  | .cb x=>(x=true→qO ar a (U7 c true S) K)∧qO ar b (U7 c false S) K
  |_=>False
 | .block id c,S,K=>qO ar c S fun e S=>match e with
  | .normal=>K .normal S
  | .exit id'=>match Nat.beq id' id with
   |true=>K .normal S
   |false=>K (.exit id') S
  | .ret=>K .ret S
 | .loop c,S,K=>P8 ar S fun S=>ar.loop c S K
 | .exit id,S,K=>K (.exit id) S
 | .ret,S,K=>K .ret S
 | .bA f ps a b,S,K=>P8 ar S fun S=>ar.bA f ps a b S K
 | .gq pre m it cl e kt kg vt vg pz b,S,K=>P8 ar S fun S=>ar.gq (.gq pre m it cl e kt kg vt vg pz b) S K
def args : Nat → List V → List (Nat × V)
 |_,[]=>[]
 |n,v::r=>(n,v)::args (n+1) r
end Go.AM
end
section
namespace Go.AM
structure Ctx where
  w0:World
  ι0:au
  m0:Mu
  ro:Option Nat
  x:Nat→Prop
  hid:List Nat
def Ctx.own (Y:Ctx) (b:Nat):Prop:=Y.w0.heap.size≤b∨Y.x b
theorem Ctx.lg {Y:Ctx} {b k:Nat} (h:Y.own b) (hk:k<Y.w0.heap.size) (hx:¬Y.x k):k≠b:=fun e=>by
  subst e;rcases h with h|h
  · omega
  · exact hx h
def jd (o o':Option Obj):Prop:=∀ms c,o=some (.map ms c)→∃ms' c',o'=some (.map ms' c')∧(ms.toList.map fun m=>(m.born,m.key)) <+: (ms'.toList.map fun m=>(m.born,m.key))∧c≤c'
theorem jd.eq {o o':Option Obj} (h:o'=o):jd o o':=fun ms c e=>⟨ms,c,h.trans e,List.prefix_refl _,Nat.le_refl _⟩
theorem jd.trans {a b c:Option Obj} (h:jd a b) (k:jd b c):jd a c:=fun ms n e=>by
  obtain ⟨ms1,n1,e1,p1,q1⟩:=h ms n e
  obtain ⟨ms2,n2,e2,p2,q2⟩:=k ms1 n1 e1
  exact ⟨ms2,n2,e2,p1.trans p2,Nat.le_trans q1 q2⟩
theorem jd.no {o o':Option Obj} (h:∀ms c,o≠some (.map ms c)):jd o o':=fun ms c e=>absurd e (h ms c)
structure KM (x:Nat→Prop) (w0 w:World):Prop where
  os:w.os=w0.os
  tape:w.tape=w0.tape
  output:w.output=w0.output
  size:w0.heap.size≤w.heap.size
  block:∀k,k<w0.heap.size→¬x k→w.heap[k]?=w0.heap[k]?
  dr:w0.drawn≤w.drawn
  maps:∀k,k<w0.heap.size→jd w0.heap[k]? w.heap[k]?
structure Dw (w w':World):Prop where
  b:RowKit.Below w.heap.size w w'
  dr:w.drawn≤w'.drawn
theorem KM.refl (x:Nat→Prop) (w:World):KM x w w:=⟨rfl,rfl,rfl,Nat.le_refl _,fun _ _ _=>rfl,Nat.le_refl _,fun _ _=>.eq rfl⟩
theorem KM.to {x:Nat→Prop} {w0 w:World} (h:KM x w0 w) (hx:∀k,¬x k):Dw w0 w:=⟨⟨h.os,h.tape,h.output,h.size,fun k hk=>h.block k hk (hx k)⟩,h.dr⟩
theorem KM.then {x:Nat→Prop} {w0 w w':World} (h:KM x w0 w) (k:Dw w w'):KM x w0 w' :=
  ⟨k.b.os.trans h.os,k.b.tape.trans h.tape,k.b.output.trans h.output,Nat.le_trans h.size k.b.size,fun i hi hx=>(k.b.block i (Nat.lt_of_lt_of_le hi h.size)).trans (h.block i hi hx),Nat.le_trans h.dr k.dr,
    fun i hi=>(h.maps i hi).trans (.eq (k.b.block i (Nat.lt_of_lt_of_le hi h.size)))⟩
structure Mem (B:Nat→Prop) (ι:au) (μ:Mu) (id:Nat) (fz:Bool) (w:World) (L:Loc) (vs:List Value):Prop where
  mu:μ id=some L
  old:B L.b
  row:∃c e,w.heap[L.b]?=some (.cells c e (0,0))∧c.size=L.tot∧∀(j:Nat) v,vs[j]?=some v→c[L.ba+j]?=some v
  fits:L.ba+vs.length≤L.tot
  one:∀v∈vs,v.oneCell'=true
  DB:fz=true→Reads ι L.b L.ba vs
  pG:fz=false→∀o,ι L.b o=none
def DC : Option Ex → Option Code → Prop
  |none,c=>c=none
  |some .normal,_=>False
  |some (.exit id),c=>c=some (.exit id)
  |some .ret,c=>c=some .ret
def stR : pT → LoopState
  | .ready=>.ready
  | .busy=>.busy
  | .done=>.done
  | .exhausted=>.exhausted
def dV (ι:au) (μ:Mu) (env:List (Nat×V)) (tmps:Array Value):Prop:=∀t,Rel ι μ (get t env) (tmps.getD t undef)
def dz (P : Program) (B : Nat → Prop) (ι : au) (μ : Mu) (id : Nat) (w : World) : kA → Prop
  | .cells cs fz=>∃L vs,Mem B ι μ id fz w L vs∧aI ι μ cs vs
  | .arr t xs fz=>(xs=[]∧μ id=none)∨∃L vs,Mem B ι μ id fz w L vs∧bf (af ι t) xs vs∧xs.length=L.len
  | .loop st j d env ps as bd N=>∃L r Ld,μ id=some L∧B L.b∧w.heap[L.b]?=some (.loop r)∧r.state=stR st∧DC j r.pending∧dV ι μ env r.tmps ∧
      r.params.toList=ps∧r.tmps.size=N∧(∀p∈ps,p<N)∧eU P N r.assign=some as∧eU P N r.body=some bd∧μ d=some Ld∧r.defers=Ld.b
  | .ff=>∃L,μ id=some L∧B L.b∧w.heap[L.b]?=some (.deferred (some []))
  | .map kt kg vt vg es=>∃L ms clock dh,μ id=some L∧B L.b∧w.heap[L.b]?=some (.map ms clock)∧eD ι kt kg vt vg dh ms.toList∧(∀m∈ms.toList,m.born<clock)∧(ms.toList.map (·.born)).Nodup∧dh.Perm es∧KD kt dh
  | .l6 t xs i p v=>∃L us vs c,Mem B ι μ id false w L vs∧bf (af ι t) xs us∧xs.length=L.len∧i<xs.length∧i * t.sz+t.bw p<us.length∧vs=us.set (i * t.sz+t.bw p) c∧Rel ι μ v c
structure Inv (P:Program) (Y:Ctx) (ι:au) (μ:Mu) (H:aH) (w:World):Prop where
  below:KM Y.x Y.w0 w
  i0:Y.ι0.le ι
  iB:∀b o,b<Y.w0.heap.size→¬Y.x b→ι b o=Y.ι0 b o
  rd:∀b o x,ι b o=some x→w.cell? ⟨b,o,none⟩=some x
  m0:Y.m0.le μ
  nx:∀id,H.next≤id→μ id=none
  live:∀id B,av id H.bl=some B→dz P Y.own ι μ id w B
  inj:∀id id' B B' L L',av id H.bl=some B→av id' H.bl=some B'→μ id=some L→μ id'=some L'→L.b=L'.b→id=id'
  lt:∀id B,av id H.bl=some B→id<H.next
  gl:iP P Y.ι0
theorem Inv.de {P:Program} {Y:Ctx} {ι:au} {μ:Mu} {H:aH} {w:World} (h:Inv P Y ι μ H w):iP P ι:=h.gl.mono h.i0
theorem aU (i j : Nat) : ∀ bl : aq, av i (aZ j bl) = if i = j then none else av i bl
  |[]=>by simp [aZ,av]
  |(s,b)::r=>by
    have ih:=aU i j r
    by_cases h:s=j
    · subst h
      have:Nat.beq s s=true:=Nat.beq_refl s
      simp only [aZ,this,ih]
      by_cases hi:i=s
      · simp [hi]
      · have h2 : Nat.beq s i = false := by rw [Bool.eq_false_iff]; intro e; exact hi (Nat.eq_of_beq_eq_true e).symm
        simp [hi,av,h2]
    · have h1 : Nat.beq s j = false := by rw [Bool.eq_false_iff]; intro e; exact h (Nat.eq_of_beq_eq_true e)
      simp only [aZ,h1,av]
      by_cases hi:s=i
      · subst hi;simp [Nat.beq_refl,h]
      · have h2 : Nat.beq s i = false := by rw [Bool.eq_false_iff]; intro e; exact hi (Nat.eq_of_beq_eq_true e)
        simp [h2,ih]
theorem aW (i s:Nat) (b:kA) (r:aq):av i ((s,b)::r)=if s=i then some b else av i r:=by
  by_cases h:s=i
  · subst h;simp [av,Nat.beq_refl]
  · have h2 : Nat.beq s i = false := by rw [Bool.eq_false_iff]; intro e; exact h (Nat.eq_of_beq_eq_true e)
    simp [av,h2,h]
theorem bS (i s:Nat) (b:V) (r:List (Nat×V)):get i ((s,b)::r)=if s=i then b else get i r:=by
  by_cases h:s=i
  · subst h;simp [get,Nat.beq_refl]
  · have h2 : Nat.beq s i = false := by rw [Bool.eq_false_iff]; intro e; exact h (Nat.eq_of_beq_eq_true e)
    simp [get,h2,h]
theorem lG (i s:Nat) (b:V) (r:List (Nat×V)):get i (A9 s b r)=if s=i then b else get i r:=by simp only [A9,bS]
theorem aG (i s:Nat) (b:kA) (bl:aq):av i ((s,b)::aZ s bl)=if i=s then some b else av i bl:=by
  rw [aW,aU]
  by_cases h:s=i
  · simp [h]
  · simp [h,Ne.symm h,fun e:i=s=>h e.symm]
section
variable {P:Program} {Y:Ctx} {ι ι':au} {μ μ':Mu} {H:aH} {w w':World}
theorem Mem.mono {B : Nat → Prop} {id : Nat} {fz : Bool} {L : Loc} {vs : List Value} (h : Mem B ι μ id fz w L vs) (hi : ι.le ι') (hm : μ.le μ') (hw : w'.heap[L.b]? = w.heap[L.b]?)
    (hf:fz=false→∀o,ι' L.b o=none):Mem B ι' μ' id fz w' L vs :=
  ⟨hm _ _ h.mu,h.old,by rw [hw];exact h.row,h.fits,h.one,fun e=>(h.DB e).mono hi,hf⟩
theorem dV.mono (hi:ι.le ι') (hm:μ.le μ') {env:List (Nat×V)} {t:Array Value} (h:dV ι μ env t):dV ι' μ' env t:=fun i=>(h i).mono hi hm
theorem dz.mono {B : Nat → Prop} {id : Nat} {b : kA} (h : dz P B ι μ id w b) (hi : ι.le ι') (hm : μ.le μ') (hn : μ id = none → μ' id = none)
    (hw:∀L,μ id=some L→w'.heap[L.b]?=w.heap[L.b]?) (hf:∀L,μ id=some L→(∀o,ι L.b o=none)→∀o,ι' L.b o=none):dz P B ι' μ' id w' b:=by
  cases b with
  |cells cs fz =>
    obtain ⟨L,vs,hM,hR⟩:=h
    exact ⟨L,vs,hM.mono hi hm (hw L hM.mu) (fun e=>hf L hM.mu (hM.pG e)),hR.mono hi hm⟩
  |arr t xs fz =>
    rcases h with ⟨rfl,h⟩|⟨L,vs,hM,hR,hl⟩
    · exact .inl ⟨rfl,hn h⟩
    · exact .inr ⟨L,vs,hM.mono hi hm (hw L hM.mu) (fun e=>hf L hM.mu (hM.pG e)),bf.mono (fun _ _=>af.mono hi) hR,hl⟩
  |loop st j d env ps as bd N =>
    obtain ⟨L,r,Ld,h1,h2,h3,h4,h5,h6,h7,h8,h9,h10,h11,h12,h13⟩:=h
    exact ⟨L,r,Ld,hm _ _ h1,h2,by rw [hw L h1];exact h3,h4,h5,h6.mono hi hm,h7,h8,h9,h10,h11,hm _ _ h12,h13⟩
  |ff =>
    obtain ⟨L,h1,h2,h3⟩:=h
    exact ⟨L,hm _ _ h1,h2,by rw [hw L h1];exact h3⟩
  |map kt kg vt vg es =>
    obtain ⟨L,ms,clock,dh,h1,h2,h3,h4,h5,h6,h7⟩:=h
    exact ⟨L,ms,clock,dh,hm _ _ h1,h2,by rw [hw L h1];exact h3,h4.mono hi,h5,h6,h7⟩
  |l6 t xs i p v =>
    obtain ⟨L,us,vs,c,hM,hR,hl,h1,h2,h3,h4⟩:=h
    exact ⟨L,us,vs,c,hM.mono hi hm (hw L hM.mu) (fun e=>hf L hM.mu (hM.pG e)),bf.mono (fun _ _=>af.mono hi) hR,hl,h1,h2,h3,h4.mono hi hm⟩
theorem dz.loc {B:Nat→Prop} {id:Nat} {b:kA} (h:dz P B ι μ id w b) {L:Loc} (hL:μ id=some L):B L.b∧L.b<w.heap.size:=by
  have lt:∀{o:Obj},w.heap[L.b]?=some o→L.b<w.heap.size:=fun h=>(Array.getElem?_eq_some_iff.1 h).1
  cases b with
  |cells cs fz =>
    obtain ⟨L',vs,hM,_⟩:=h
    have:=hM.mu;rw [hL] at this;cases this
    obtain ⟨c,e,h1,_⟩:=hM.row
    exact ⟨hM.old,lt h1⟩
  |arr t xs fz =>
    rcases h with ⟨_,h⟩|⟨L',vs,hM,_⟩
    · rw [h] at hL;cases hL
    · have := hM.mu; rw [hL] at this; cases this
      obtain ⟨c,e,h1,_⟩:=hM.row
      exact ⟨hM.old,lt h1⟩
  |loop st j d env ps as bd N =>
    obtain ⟨L',r,Ld,h1,h2,h3,_⟩:=h
    rw [hL] at h1;cases h1
    exact ⟨h2,lt h3⟩
  |ff =>
    obtain ⟨L',h1,h2,h3⟩:=h
    rw [hL] at h1;cases h1
    exact ⟨h2,lt h3⟩
  |map kt kg vt vg es =>
    obtain ⟨L',ms,clock,dh,h1,h2,h3,_⟩:=h
    rw [hL] at h1;cases h1
    exact ⟨h2,lt h3⟩
  |l6 t xs i p v =>
    obtain ⟨L',us,vs,c,hM,_⟩:=h
    have:=hM.mu;rw [hL] at this;cases this
    obtain ⟨c,e,h1,_⟩:=hM.row
    exact ⟨hM.old,lt h1⟩
theorem Inv.congr {bl:aq} {n:Nat} (h:Inv P Y ι μ H w) (hb:∀id,av id bl=av id H.bl) (hn:H.next=n):Inv P Y ι μ ⟨n,bl⟩ w :=
  ⟨h.below,h.i0,h.iB,h.rd,h.m0,by rw [←hn];exact h.nx,fun id B hB=>h.live id B (by rw [←hb];exact hB),
   fun id id' B B' L L' h1 h2=>h.inj id id' B B' L L' (by rw [←hb];exact h1) (by rw [←hb];exact h2),fun id B hB=>by rw [←hn];exact h.lt id B (by rw [←hb];exact hB),h.gl⟩
theorem Inv.sub {bl:aq} (h:Inv P Y ι μ H w) (hb:∀id B,av id bl=some B→av id H.bl=some B):Inv P Y ι μ ⟨H.next,bl⟩ w :=
  ⟨h.below,h.i0,h.iB,h.rd,h.m0,h.nx,fun id B hB=>h.live id B (hb _ _ hB),
   fun id id' B B' L L' h1 h2=>h.inj id id' B B' L L' (hb _ _ h1) (hb _ _ h2),fun id B hB=>h.lt id B (hb _ _ hB),h.gl⟩
theorem Inv.del (h:Inv P Y ι μ H w) (i:Nat):Inv P Y ι μ ⟨H.next,aZ i H.bl⟩ w :=
  h.sub fun id B hB=>by rw [aU] at hB;split at hB<;>simp_all
theorem Inv.next (h:Inv P Y ι μ H w):Inv P Y ι μ ⟨H.next+1,H.bl⟩ w :=
  ⟨h.below,h.i0,h.iB,h.rd,h.m0,fun id hid=>h.nx id (by simp only at hid;omega),h.live,h.inj,fun id B hB=>by have:=h.lt id B hB;simp only;omega,h.gl⟩
theorem Inv.drew (h:Inv P Y ι μ H w):Inv P Y ι μ H w.drew :=
  ⟨⟨h.below.os,h.below.tape,h.below.output,h.below.size,h.below.block,Nat.le_succ_of_le h.below.dr,h.below.maps⟩,h.i0,h.iB,h.rd,h.m0,h.nx,
   fun id B hB=>(h.live id B hB).mono (au.le_refl _) (Mu.le_refl _) (fun h=>h) (fun _ _=>rfl) (fun _ _ h=>h),h.inj,h.lt,h.gl⟩
def Mu.set (μ:Mu) (n:Nat) (L:Loc):Mu:=fun id=>if id=n then some L else μ id
theorem Mu.eY {n:Nat} {L:Loc} (h:μ n=none):μ.le (μ.set n L):=fun id L' hL=>by
  unfold Mu.set;split
  · rename_i e;subst e;rw [h] at hL;cases hL
  · exact hL
theorem Inv.lay (h : Inv P Y ι μ H w) {aC : Nat} (hn : μ aC = none) {o : Obj} {b : kA} {L : Loc} (hL : L.b = w.heap.size)
    (hb:dz P Y.own ι (μ.set aC L) aC (w.alloc o) b):Inv P Y ι (μ.set aC L) ⟨max H.next (aC+1),(aC,b)::aZ aC H.bl⟩ (w.alloc o):=by
  have hle:=Mu.eY (L:=L) hn
  have heap:∀k,k<w.heap.size→(w.alloc o).heap[k]?=w.heap[k]?:=fun k hk=>by
    show (w.heap.push o)[k]?=_
    rw [Array.getElem?_push];split
    · omega
    · rfl
  refine ⟨⟨h.below.os,h.below.tape,h.below.output,by have:=h.below.size;simp;omega,fun k hk hx=>?_,h.below.dr,fun k hk=>(h.below.maps k hk).trans (.eq (heap k (Nat.lt_of_lt_of_le hk h.below.size)))⟩,h.i0,h.iB,fun b o x hx=>?_,Mu.le_trans h.m0 hle,fun id hid=>?_,fun id B hB=>?_,?_,?_,h.gl⟩
  · have := h.below.size
    rw [heap k (by omega)];exact h.below.block k hk hx
  · have := h.rd b o x hx
    rw [World.cell?_alloc_lt _ _ _ (World.block_lt_of_cell? _ _ this)];exact this
  · simp only at hid
    unfold Mu.set;rw [if_neg (by omega)];exact h.nx id (by omega)
  · rw [aG] at hB
    split at hB
    · rename_i e;subst e;cases hB;exact hb
    · rename_i e
      refine (h.live id B hB).mono (au.le_refl _) hle (fun hm=>by unfold Mu.set;rw [if_neg e];exact hm) (fun L' hL'=>?_) (fun _ _ h=>h)
      exact heap _ ((h.live id B hB).loc hL').2
  · intro id id' B B' L1 L2 h1 h2 fL hm2 e
    rw [aG] at h1 h2
    unfold Mu.set at fL hm2
    by_cases e1:id=aC<;>by_cases e2:id'=aC
    · rw [e1,e2]
    · rw [if_pos e1] at fL; rw [if_neg e2] at hm2 h2
      cases fL
      have:=((h.live id' B' h2).loc hm2).2;omega
    · rw [if_pos e2] at hm2; rw [if_neg e1] at fL h1
      cases hm2
      have:=((h.live id B h1).loc fL).2;omega
    · rw [if_neg e1] at fL h1; rw [if_neg e2] at hm2 h2
      exact h.inj id id' B B' L1 L2 h1 h2 fL hm2 e
  · intro id B hB
    rw [aG] at hB
    split at hB
    · rename_i e;subst e;simp only;omega
    · have:=h.lt id B hB;simp only;omega
theorem Inv.turn (h : Inv P Y ι μ H w) {id : Nat} {b0 b : kA} (hb0 : av id H.bl = some b0) {L : Loc} (hL : μ id = some L) (hfree : ∀ o, ι L.b o = none)
    (hos:w'.os=w.os) (Qi:w'.tape=w.tape) (hout:w'.output=w.output) (hdr:w'.drawn=w.drawn) (hsz:w'.heap.size=w.heap.size) (hk:∀k,k≠L.b→w'.heap[k]?=w.heap[k]?)
    (hmg:jd w.heap[L.b]? w'.heap[L.b]?) (hb:dz P Y.own ι μ id w' b):Inv P Y ι μ ⟨H.next,(id,b)::aZ id H.bl⟩ w':=by
  have hold:=((h.live id b0 hb0).loc hL).1
  refine ⟨⟨hos.trans h.below.os, Qi.trans h.below.tape, hout.trans h.below.output, by rw [hsz]; exact h.below.size, fun k hk' hx => ?_, by rw [hdr]; exact h.below.dr, fun k hk' => (h.below.maps k hk').trans (by
      by_cases e:k=L.b
      · subst e;exact hmg
      · exact .eq (hk k e))⟩,h.i0,h.iB,fun b o x hx=>?_,h.m0,h.nx,fun i B hB=>?_,?_,?_,h.gl⟩
  · rw [hk k (Ctx.lg hold hk' hx)];exact h.below.block k hk' hx
  · have := h.rd b o x hx
    have hne:b≠L.b:=fun e=>by subst e;rw [hfree] at hx;cases hx
    unfold World.cell? at this ⊢
    simp only at this ⊢
    rw [hk b hne];exact this
  · rw [aG] at hB
    split at hB
    · rename_i e;subst e;cases hB;exact hb
    · rename_i e
      refine (h.live i B hB).mono (au.le_refl _) (Mu.le_refl _) (fun h=>h) (fun L' hL'=>hk _ (fun e'=>e (h.inj i id B b0 L' L hB hb0 hL' hL e'))) (fun _ _ h=>h)
  · intro i i' B B' L1 L2 h1 h2 fL hm2 e
    have:∀{j B},av j ((id,b)::aZ id H.bl)=some B→∃B'',av j H.bl=some B'':=fun {j B} hj=>by
      rw [aG] at hj
      split at hj
      · rename_i e;subst e;exact ⟨b0,hb0⟩
      · exact ⟨B,hj⟩
    obtain ⟨C,hC⟩:=this h1
    obtain ⟨C',U9⟩:=this h2
    exact h.inj i i' C C' L1 L2 hC U9 fL hm2 e
  · intro i B hB
    rw [aG] at hB
    split at hB
    · rename_i e;subst e;exact h.lt _ _ hb0
    · exact h.lt i B hB
theorem Inv.same (h:Inv P Y ι μ H w) {id:Nat} {b0 b:kA} (hb0:av id H.bl=some b0) (hb:dz P Y.own ι μ id w b):Inv P Y ι μ ⟨H.next,(id,b)::aZ id H.bl⟩ w:=by
  refine ⟨h.below,h.i0,h.iB,h.rd,h.m0,h.nx,fun i B hB=>?_,?_,?_,h.gl⟩
  · rw [aG] at hB
    split at hB
    · rename_i e;subst e;cases hB;exact hb
    · exact h.live i B hB
  · intro i i' B B' L1 L2 h1 h2 fL hm2 e
    have:∀{j B},av j ((id,b)::aZ id H.bl)=some B→∃B'',av j H.bl=some B'':=fun {j B} hj=>by
      rw [aG] at hj
      split at hj
      · rename_i e;subst e;exact ⟨b0,hb0⟩
      · exact ⟨B,hj⟩
    obtain ⟨C,hC⟩:=this h1
    obtain ⟨C',U9⟩:=this h2
    exact h.inj i i' C C' L1 L2 hC U9 fL hm2 e
  · intro i B hB
    rw [aG] at hB
    split at hB
    · rename_i e;subst e;exact h.lt _ _ hb0
    · exact h.lt i B hB
def au.add (ι:au) (L:Loc) (vs:List Value):au:=fun b o=>if b=L.b then (if L.ba≤o then vs[o - L.ba]? else none) else ι b o
theorem au.HR {L:Loc} {vs:List Value} (h:∀o,ι L.b o=none):ι.le (ι.add L vs):=fun b o x hx=>by
  unfold au.add;split
  · rename_i e;subst e;rw [h] at hx;cases hx
  · exact hx
theorem Reads.add {L:Loc} {vs:List Value}:Reads (ι.add L vs) L.b L.ba vs:=fun j v hj=>by
  unfold au.add;rw [if_pos rfl,if_pos (by omega)];simpa using hj
theorem Inv.Va (h:Inv P Y ι μ H w) {c:Array Value} {e:TypeId} {f:Nat×Nat} {vs:List Value} (hvs:∀(j:Nat) v,vs[j]?=some v→c[j]?=some v) :
    ∃ι',ι.le ι'∧Inv P Y ι' μ H (w.alloc (.cells c e f))∧Reads ι' w.heap.size 0 vs:=by
  have hfree:∀o,ι w.heap.size o=none:=fun o=>by
    cases vU:ι w.heap.size o with
    |none=>rfl
    |some y=>have:=World.block_lt_of_cell? _ _ (h.rd _ _ _ vU);simp at this
  let L:Loc:=⟨w.heap.size,0,0,0⟩
  have hle:=au.HR (L:=L) (vs:=vs) hfree
  have heap:∀k,k<w.heap.size→(w.alloc (.cells c e f)).heap[k]?=w.heap[k]?:=fun k hk=>by
    show (w.heap.push _)[k]?=_
    rw [Array.getElem?_push];split
    · omega
    · rfl
  have hnew:(w.alloc (.cells c e f)).heap[w.heap.size]?=some (.cells c e f):=by
    show (w.heap.push _)[w.heap.size]?=_
    simp
  refine ⟨ι.add L vs,hle,⟨⟨h.below.os,h.below.tape,h.below.output,by have:=h.below.size;simp;omega,fun k hk hx=>?_,h.below.dr,fun k hk=>(h.below.maps k hk).trans (.eq (heap k (Nat.lt_of_lt_of_le hk h.below.size)))⟩,au.le_trans h.i0 hle,fun b o hb' hx=>?_,fun b o x hx=>?_,h.m0,h.nx,fun i B hB=>?_,h.inj,h.lt,h.gl⟩,Reads.add (L:=L)⟩
  · have := h.below.size
    rw [heap k (by omega)];exact h.below.block k hk hx
  · have := h.below.size
    unfold au.add;rw [if_neg (show b≠L.b by simp only [L];omega)];exact h.iB b o hb' hx
  · unfold au.add at hx
    split at hx
    · rename_i e'; subst e'
      split at hx
      · have := hvs _ _ hx
        simp only [L,Nat.sub_zero] at this
        show (match (w.alloc (.cells c e f)).heap[w.heap.size]? with|some (.cells c _ _)=>if (⟨w.heap.size,o,none⟩:Addr).spot.isSome then none else c[o]? | _=>none)=some x
        rw [hnew];simpa using this
      · cases hx
    · have := h.rd b o x hx
      rw [World.cell?_alloc_lt _ _ _ (World.block_lt_of_cell? _ _ this)];exact this
  · refine (h.live i B hB).mono hle (Mu.le_refl _) (fun h => h) (fun L' hL' => heap _ ((h.live i B hB).loc hL').2) (fun L' hL' ho o => ?_)
    have:=((h.live i B hB).loc hL').2
    unfold au.add;rw [if_neg (show L'.b≠L.b by simp only [L];omega)];exact ho o
theorem Inv.freeze (h:Inv P Y ι μ H w) {id:Nat} {t:Ty} {xs:List t.den} {fz:Bool} (hb:av id H.bl=some (.arr t xs fz)) :
    ∃ι',ι.le ι'∧Inv P Y ι' μ ⟨H.next,(id,.arr t xs true)::aZ id H.bl⟩ w∧gM ι' μ id t xs:=by
  rcases h.live id _ hb with ⟨rfl,hn⟩|⟨L,vs,hM,hR,hl⟩
  · exact ⟨ι,au.le_refl _,h.same hb (.inl ⟨rfl,hn⟩),.inl ⟨rfl,hn⟩⟩
  · cases fz with
    |true=>exact ⟨ι,au.le_refl _,h.same hb (.inr ⟨L,vs,hM,hR,hl⟩),.inr ⟨L,vs,hM.mu,hM.DB rfl,hR,hl⟩⟩
    |false =>
      have hfree:=hM.pG rfl
      have hle:=au.HR (vs:=vs) hfree
      have gv:bf (af (ι.add L vs) t) xs vs:=bf.mono (fun _ _=>af.mono hle) hR
      refine ⟨ι.add L vs,hle,?_,.inr ⟨L,vs,hM.mu,Reads.add,gv,hl⟩⟩
      refine ⟨h.below,au.le_trans h.i0 hle,fun b o hb' hx=>?_,fun b o x hx=>?_,h.m0,h.nx,fun i B hB=>?_,?_,?_,h.gl⟩
      · unfold au.add;rw [if_neg (fun e=>Ctx.lg hM.old hb' hx e)];exact h.iB b o hb' hx
      · unfold au.add at hx
        split at hx
        · rename_i e; subst e
          split at hx
          · rename_i ho
            obtain ⟨c,e,h1,h2,h3⟩:=hM.row
            have:=h3 _ _ hx
            rw [show L.ba+(o - L.ba)=o by omega] at this
            simp [World.cell?,h1,this]
          · cases hx
        · exact h.rd b o x hx
      · rw [aG] at hB
        split at hB
        · rename_i e; subst e; cases hB
          exact .inr ⟨L,vs,⟨hM.mu,hM.old,hM.row,hM.fits,hM.one,fun _=>Reads.add,fun e=>by cases e⟩,gv,hl⟩
        · rename_i e
          refine (h.live i B hB).mono hle (Mu.le_refl _) (fun h=>h) (fun _ _=>rfl) (fun L' hL' ho o=>?_)
          unfold au.add
          rw [if_neg (fun e'=>e (h.inj i id B _ L' L hB hb hL' hM.mu e'))]
          exact ho o
      · intro i i' B B' L1 L2 h1 h2 fL hm2 e
        have:∀{j B},av j ((id,.arr t xs true)::aZ id H.bl)=some B→∃B'',av j H.bl=some B'':=fun {j B} hj=>by
          rw [aG] at hj
          split at hj
          · rename_i e;subst e;exact ⟨_,hb⟩
          · exact ⟨B,hj⟩
        obtain ⟨C,hC⟩:=this h1
        obtain ⟨C',U9⟩:=this h2
        exact h.inj i i' C C' L1 L2 hC U9 fL hm2 e
      · intro i B hB
        rw [aG] at hB
        split at hB
        · rename_i e;subst e;exact h.lt _ _ hb
        · exact h.lt i B hB
end
end Go.AM
end
section
namespace Go.AM
section
variable {P:Program} {Y:Ctx} {ι ι':au} {μ μ':Mu} {H:aH} {w w':World}
@[reducible] def aV (call : Nat → List V → aH → (V → aH → Prop) → Prop) (gx : Nat → List V → V → Prop) (loop : C → St → (Ex → St → Prop) → Prop)
  (round:Nat→List V→aH→(V→aH→Prop)→Prop) (bA:O→List Nat→C→C→St→(Ex→St→Prop)→Prop) (gq:C→St→(Ex→St→Prop)→Prop):Ar where
 add a b:=a+b
 sub a b:=a - b
 mul a b:=a * b
 quo a b:=a.tdiv b
 rem a b:=a.tmod b
 bits op k a b:=match op with
  | .and=>k.wrap (BitVec.ofInt k.bits a &&& BitVec.ofInt k.bits b).toNat
  | .or=>k.wrap (BitVec.ofInt k.bits a ||| BitVec.ofInt k.bits b).toNat
  | .xor=>k.wrap (BitVec.ofInt k.bits a ^^^ BitVec.ofInt k.bits b).toNat
  |_=>k.wrap (BitVec.ofInt k.bits a &&& ~~~(BitVec.ofInt k.bits b)).toNat
 shr a b:=a.fdiv (2 ^ b.toNat)
 shl a b:=a * 2 ^ b.toNat
 abL a b:=if b<a then b else a
 imax a b:=if b > a then b else a
 eq a b:=a==b
 lt a b:=decide (a<b)
 le a b:=decide (a≤b)
 beq a b:=a==b
 seq a b:=a.toList==b.toList
 slt a b:=Op.bytesLess a.toList b.toList
 M7 s:=(s.size:Int)
 UZ a b:=a&&b
 sB a := !a
 HJ c a b:=if c then a else b
 gZ k z:=k.min≤z&&z≤k.max
 fZ i n:=decide (0≤i∧i<n)
 PL a b:=decide (a<b)
 len xs:=xs.length
 get d xs i:=xs.getD i d
 set xs i v:=xs.set i v
 sub' xs lo n:=(xs.drop lo).take n
 app xs ys:=xs++ys
 rep n x:=List.replicate n x
 HK a b:=a+b
 P5 a b:=a - b
 sC z:=z.toNat
 sat:=U0
 bys:=gr
 txt:=yY
 wr k z:=k.wrap z
 clr:=A5
 mhas:=aL
 dG:=ak
 gL:=aS
 call:=call
 gx:=gx
 loop:=loop
 round:=round
 bA:=bA
 gq:=gq
theorem jH {k:IntKind} {z:Int} (h:(decide (k.min≤z)&&decide (z≤k.max))=true):k.wrap z=z:=by
 simp only [Bool.and_eq_true,decide_eq_true_eq] at h
 obtain ⟨h1,h2⟩:=h
 cases k<;>simp only [IntKind.wrap,IntKind.min,IntKind.max,IntKind.bits,IntKind.signed] at *<;>simp at *<;>first|omega|(rw [Int.bmod_eq_of_le]<;>omega)
theorem DD {x:Value} {v:V} (h:Qa x=some v):Rel ι μ v x:=by
 unfold Qa at h
 split at h<;>first|cases h|skip
 ·exact .tf _
 ·exact .int _ _
 ·exact .str _
 ·exact .bG _
 ·exact .b7
 ·exact .cz
 ·exact .eO
 ·exact .aO
theorem nw : ∀ {xs : List Value} {vs : List V}, ze xs = some vs → aI ι μ vs xs
 |[],vs,h=>by cases h;exact .nil
 |x::xs,vs,h=>by
  unfold ze at h
  split at h
  ·rename_i a b ha hb;cases h;exact .cons (DD ha) (nw hb)
  ·cases h
theorem ny : ∀ {xs : List Value} {vs : List V}, ze xs = some vs → ∀ x ∈ xs, x.oneCell' = true
 |[],vs,h=>by simp
 |x::xs,vs,h=>by
  unfold ze at h
  split at h
  ·rename_i a b ha hb; cases h
   intro y hy
   rcases List.mem_cons.1 hy with rfl|hy
   ·unfold Qa at ha
    split at ha<;>first|rfl|cases ha
   ·exact ny hb y hy
  ·cases h
theorem Vb {x:Value} {v:V} (h:ofC x=some v):Rel ι μ v x:=by
 unfold ofC at h
 split at h
 ·rename_i cs
  split at h
  ·rename_i vs hv; cases h
   have:=nw (ι:=ι) (μ:=μ) hv
   exact .agg _ _ (by simpa using this.1) (fun i v x hv hx=>this.2 i v x hv (by simpa using hx)) (ny hv)
  ·cases h
 ·exact DD h
theorem aB {env:List (Nat×V)} {a:Act} (he:dV ι μ env a.tmps) {x:Operand} {y:O} (h:dg x=some y):Rel ι μ (y.ev env) (a.eval x):=by
 cases x with
 |tmp t=>cases h;exact he t
 |const v =>
  simp only [dg] at h
  split at h
  ·rename_i u hu;cases h;exact Vb hu
  ·cases h
 |func f=>cases h;exact .fn _ _ _ #[] #[] rfl (fun i v x h=>by simp at h) rfl (fun i v x h=>by simp at h)
 |global g=>cases h
theorem jI {env : List (Nat × V)} {a : Act} (he : dV ι μ env a.tmps) : ∀ {xs : List Operand} {ys : List O}, vL xs = some ys → aI ι μ (ys.map (·.ev env)) (xs.map a.eval)
 |[],ys,h=>by cases h;exact .nil
 |x::xs,ys,h=>by
  unfold vL at h
  split at h
  ·rename_i y ys' h1 h2;cases h;exact .cons (aB he h1) (jI he h2)
  ·cases h
theorem Mem.rangeAt {B:Nat→Prop} {id:Nat} {fz:Bool} {L:Loc} {vs:List Value} (h:Mem B ι μ id fz w L vs):w.rangeAt L.b L.ba vs:=fun j v hv=>by
 obtain ⟨c,e,h1,_,h3⟩:=h.row
 simp [World.cell?,h1,h3 j v hv]
theorem dD {b o:Nat} {vs:List Value} (h:w.rangeAt b o vs) (d k:Nat):w.rangeAt b (o+d) ((vs.drop d).take k):=fun j v hv=>by
 rw [List.getElem?_take] at hv
 split at hv
 ·rw [List.getElem?_drop] at hv
  have:=h (d+j) v hv
  rw [←Nat.add_assoc] at this;exact this
 ·cases hv
theorem Reads.rangeAt {b o:Nat} {vs:List Value} (hr:Reads ι b o vs) (hi:∀b o x,ι b o=some x→w.cell? ⟨b,o,none⟩=some x):w.rangeAt b o vs:=fun j v hv=>hi _ _ _ (hr j v hv)
theorem Reads.sub {b o:Nat} {vs:List Value} (h:Reads ι b o vs) (d k:Nat):Reads ι b (o+d) ((vs.drop d).take k):=fun j v hv=>by
 rw [List.getElem?_take] at hv
 split at hv
 ·rw [List.getElem?_drop] at hv
  have:=h (d+j) v hv
  rw [←Nat.add_assoc] at this;exact this
 ·cases hv
theorem World.DE {b o:Nat} {v:Value} (h:w.rangeAt b o [v]):w.cell? ⟨b,o,none⟩=some v:=by simpa using h 0 v rfl
theorem sG {g:Bool} {cs:List V} {v:V} {xs:List Value} (h:bY g cs=some v) (hr:aI ι μ cs xs) (h1:∀u∈xs,u.oneCell'=true):∃x,gI g xs=some x∧Rel ι μ v x:=by
 cases g with
 |true =>
  cases h
  exact ⟨_,rfl,.agg _ _ (by simpa using hr.1) (fun i v x hv hx=>hr.2 i v x hv (by simpa using hx)) (by simpa using h1)⟩
 |false =>
  match cs,h with
  |[c],h =>
   cases h
   obtain ⟨x,r,rfl,h1,h2⟩:=hr.bq
   rw [h2.of_nil]
   exact ⟨x,rfl,h1⟩
theorem HS {t : TypeId} {k : Nat} {g : Bool} (hk : cN P t = some k) (hg : sD P t = some g) {b o : Nat} {vs : List Value} (hr : w.rangeAt b o vs) (hl : vs.length = k)
  {x:Value} (hx:gI g vs=some x):(Instr.loadAt t (.pointer (some ⟨b,o,none⟩))).run P w = .ok x w:=by
 unfold sD at hg
 unfold cN at hk
 cases g with
 |true =>
  cases hx
  split at hg
  ·rename_i hu;exact run_loadAt_mid w b o t vs _ hr hu rfl (by rw [hk,hl])
  ·rename_i hu;exact run_loadAt_mid w b o t vs _ hr hu rfl (by rw [hk,hl])
  ·cases hg
  ·cases hg
 |false =>
  match vs,hx with
  |[c],hx =>
   cases hx
   have hc:=World.DE hr
   split at hg
   ·cases hg
   ·cases hg
   ·rename_i d h1 h2 hu
    have hagg:(isAgg t).run P w = .ok false w:=by
     unfold isAgg
     rw [Sem.run_bind,run_underlying hu w]
     cases d<;>simp_all
    simp [Instr.loadAt,Instr.sureAddr,loadVar,hagg,hc]
   ·cases hg
theorem iy {t:TypeId} {k:Nat} (hk:cN P t=some k) {b o:Nat} {v:Value} (ht:w.there b o k) (hl:v.cells.size=k) (h1:∀u∈v.cells.toList,u.oneCell'=true) :
  (Instr.storeAt t (.pointer (some ⟨b,o,none⟩)) v).run P w = .ok () (w.setCells b o v.cells.toList):=by
 have:=run_storeCells_cells (P:=P) b o v.cells.toList 0 w (fun j hj=>by simpa using (ht j (by simp at hj;omega)).1) (fun j hj=>by simpa using (ht j (by simp at hj;omega)).2) h1
 unfold cN at hk
 cases hq:P.info? t with
 |none=>simp [hq] at hk
 |some i =>
  have hs:v.cells.size=i.size:=by simp [hq] at hk;omega
  simp only [Nat.add_zero] at this
  simp [Instr.storeAt,Instr.sureAddr,storeVar,sizeOf,typeInfo,hq,hs,this]
theorem Mem.there {B:Nat→Prop} {id:Nat} {fz:Bool} {L:Loc} {vs:List Value} (h:Mem B ι μ id fz w L vs) {o k:Nat} (hk:L.ba≤o) (hf:o+k≤L.tot):w.there L.b o k:=fun j hj=>by
 obtain ⟨c,e,h1,h2,_⟩:=h.row
 simp only [World.cell?,World.frozen?,h1]
 refine ⟨?_,by simp⟩
 have:o+j<c.size:=by omega
 simp [this]
theorem Mem.write {B:Nat→Prop} {id:Nat} {L:Loc} {vs:List Value} (h:Mem B ι μ id false w L vs) {d:Nat} {us:List Value} (hd:d+us.length≤vs.length) (h1:∀u∈us,u.oneCell'=true) :
  Mem B ι μ id false (w.setCells L.b (L.ba+d) us) L (vs.take d++us++vs.drop (d+us.length)):=by
 obtain ⟨c,e,hc,hs,hr⟩:=h.row
 have hth:w.there L.b (L.ba+d) us.length:=h.there (by omega) (by have:=h.fits;omega)
 refine ⟨h.mu,h.old,?_,?_,?_,(fun e=>by cases e),h.pG⟩
 ·have key:∀(us:List Value) (o:Nat) (w:World) (c:Array Value),w.heap[L.b]?=some (.cells c e (0,0))→o+us.length≤c.size →
    ∃c',(w.setCells L.b o us).heap[L.b]?=some (.cells c' e (0,0))∧c'.size=c.size∧∀i,c'[i]?=if o≤i∧i<o+us.length then us[i - o]? else c[i]?:=by
   intro us
   induction us with
   |nil=>intro o w c hc _;exact ⟨c,hc,rfl,fun i=>by rw [if_neg (by simp only [List.length_nil];omega)]⟩
   |cons u us ih =>
    intro o w c hc ho
    have hc':(w.setCell ⟨L.b,o,none⟩ u).heap[L.b]?=some (.cells (c.setIfInBounds o u) e (0,0)):=by
     simp [World.setCell,Array.getElem?_modify,hc]
    obtain ⟨c',e1,e2,e3⟩:=ih (o+1) _ _ hc' (by simp at ho ⊢;omega)
    refine ⟨c',e1,by simpa using e2,fun i=>?_⟩
    rw [e3]
    simp only [List.length_cons] at ho ⊢
    by_cases hi:i=o
    ·subst hi
     rw [if_neg (by omega),if_pos (by omega)]
     have:i<c.size:=by omega
     simp [this]
    ·by_cases h2 : o + 1 ≤ i ∧ i < o + 1 + us.length
     ·rw [if_pos h2, if_pos (by omega)]
      obtain ⟨m,rfl⟩:∃m,i=o+1+m:=⟨i - (o+1),by omega⟩
      rw [show o+1+m - (o+1)=m by omega,show o+1+m - o=m+1 by omega];rfl
     ·rw [if_neg h2,if_neg (by omega),Array.getElem?_setIfInBounds_ne (by omega)]
  have hf:=h.fits
  obtain ⟨c',e1,e2,e3⟩:=key us (L.ba+d) w c hc (by omega)
  refine ⟨c',e,e1,by rw [e2];exact hs,fun j v hv=>?_⟩
  rw [e3]
  by_cases hj:d≤j∧j<d+us.length
  ·rw [if_pos (by omega)]
   rw [List.append_assoc,List.getElem?_append_right (by simp;omega),List.getElem?_append_left (by simp;omega)] at hv
   rw [←hv];congr 1;simp;omega
  ·rw [if_neg (by omega)]
   by_cases hj2:j<d
   ·rw [List.append_assoc, List.getElem?_append_left (by simp; omega), List.getElem?_take, if_pos hj2] at hv
    exact hr j v hv
   ·rw [List.getElem?_append_right (by simp; omega), List.getElem?_drop] at hv
    refine hr j v ?_
    rw [←hv];congr 1;simp;omega
 ·have := h.fits
  simp;omega
 ·intro v hv
  rcases List.mem_append.1 hv with hv|hv
  ·rcases List.mem_append.1 hv with hv | hv
   ·exact h.one v (List.mem_of_mem_take hv)
   ·exact h1 v hv
  ·exact h.one v (List.mem_of_mem_drop hv)
theorem gO (b : Nat) : ∀ (vs : List Value) (o : Nat) (w : World) (k : Nat), k ≠ b → (w.setCells b o vs).heap[k]? = w.heap[k]?
 |[],_,_,_,_=>rfl
 |v::r,o,w,k,h=>by
  rw [World.setCells,gO b r _ _ k h]
  simp [World.setCell,Array.getElem?_modify,Ne.symm h]
theorem size_setCells (b : Nat) : ∀ (vs : List Value) (o : Nat) (w : World), (w.setCells b o vs).heap.size = w.heap.size
 |[],_,_=>rfl
 |v::r,o,w=>by rw [World.setCells,size_setCells b r];simp
theorem cW (b : Nat) : ∀ (vs : List Value) (o : Nat) (w : World), (w.setCells b o vs).os = w.os ∧ (w.setCells b o vs).tape = w.tape ∧ (w.setCells b o vs).output = w.output ∧ (w.setCells b o vs).drawn = w.drawn
 |[],_,_=>⟨rfl,rfl,rfl,rfl⟩
 |v::r,o,w=>by rw [World.setCells];exact cW b r (o+1) (w.setCell ⟨b,o,none⟩ v)
theorem jJ (b : Nat) : ∀ (vs : List Value) (o : Nat) (w : World) (k : Nat), jd w.heap[k]? (w.setCells b o vs).heap[k]?
 |[],_,_,_=>.eq rfl
 |v::r,o,w,k=>by
  rw [World.setCells]
  refine jd.trans ?_ (jJ b r _ _ k)
  intro ms c e
  refine ⟨ms,c,?_,List.prefix_refl _,Nat.le_refl _⟩
  simp only [World.setCell,Array.getElem?_modify]
  split
  ·rw [e];rfl
  ·exact e
theorem Inv.store (h : Inv P Y ι μ H w) {id : Nat} {b0 b : kA} (hb0 : av id H.bl = some b0) {L : Loc} (hL : μ id = some L) (hfree : ∀ o, ι L.b o = none) {o : Nat} {us : List Value}
  (hb:dz P Y.own ι μ id (w.setCells L.b o us) b):Inv P Y ι μ ⟨H.next,(id,b)::aZ id H.bl⟩ (w.setCells L.b o us) :=
 h.turn hb0 hL hfree (cW _ _ _ _).1 (cW _ _ _ _).2.1 (cW _ _ _ _).2.2.1 (cW _ _ _ _).2.2.2 (size_setCells _ _ _ _) (fun k hk=>gO _ _ _ _ _ hk) (jJ _ _ _ _ _) hb
theorem sH:∀{off:Nat} {vs cs cs':List V} {us xs:List Value},qG off vs cs=some cs'→aI ι μ cs xs→aI ι μ vs us →
  off+us.length≤xs.length∧aI ι μ cs' (xs.take off++us++xs.drop (off+us.length))
 |0,vs,cs,cs',us,xs,h,hc,hv=>by
  unfold qG at h
  split at h
  ·rename_i hl; cases h
   refine ⟨by have:=hc.1;have:=hv.1;omega,?_⟩
   have:=hv.append (hc.drop vs.length)
   rw [hv.1] at this ⊢
   simpa using this
  ·cases h
 |off+1,vs,[],cs',us,xs,h,hc,hv=>by simp [qG] at h
 |off+1,vs,c::cs,cs',us,xs,h,hc,hv=>by
  unfold qG at h
  obtain ⟨x,r,rfl,h1,h2⟩:=hc.bq
  split at h
  ·rename_i r' hr'
   cases h
   obtain ⟨h3,h4⟩:=sH hr' h2 hv
   refine ⟨by simp;omega,?_⟩
   have:=aI.cons h1 h4
   simpa [List.take_succ_cons,show off+1+us.length=(off+us.length)+1 by omega] using this
  ·cases h
end
end Go.AM
end
section
namespace Go.AM
section
variable {P : Program} {Y : Ctx} {ι ι' : au} {μ μ' : Mu} {H : aH} {w w' : World}
 {c1:Nat→List V→aH→(V→aH→Prop)→Prop} {c2:Nat→List V→V→Prop} {c3:C→St→(Ex→St→Prop)→Prop}
 {c4:Nat→List V→aH→(V→aH→Prop)→Prop} {c5:O→List Nat→C→C→St→(Ex→St→Prop)→Prop} {c6:C→St→(Ex→St→Prop)→Prop}
def iQ (bl:aq) (u:dZ):Prop:=∀e∈u,∃(id:Nat) (t:Ty) (xs:List t.den) (fz:Bool),e=(id,some (.arr t xs true))∧av id bl=some (.arr t xs fz)
def Na (ι:au) (μ:Mu) (u:dZ):Prop:=∀(id:Nat) (t:Ty) (xs:List t.den),(id,some (.arr t xs true))∈u→gM ι μ id t xs
theorem iQ.nil {bl:aq}:iQ bl []:=fun e h=>by cases h
theorem iQ.append {bl:aq} {u v:dZ} (h:iQ bl u) (h':iQ bl v):iQ bl (u++v):=fun e he=>(List.mem_append.1 he).elim (h e) (h' e)
theorem Na.left {u v:dZ} (h:Na ι μ (u++v)):Na ι μ u:=fun id t xs hm=>h id t xs (List.mem_append_left _ hm)
theorem Na.right {u v:dZ} (h:Na ι μ (u++v)):Na ι μ v:=fun id t xs hm=>h id t xs (List.mem_append_right _ hm)
theorem gM.mono (hi:ι.le ι') {id:Nat} {t:Ty} {xs:List t.den} (h:gM ι μ id t xs):gM ι' μ id t xs :=
 h.imp (fun h=>h) fun ⟨L,vs,h1,h2,h3,h4⟩=>⟨L,vs,h1,h2.mono hi,bf.mono (fun _ _=>af.mono hi) h3,h4⟩
theorem jt:∀{u:dZ} {ι:au} {bl:aq} {n:Nat},iQ bl u→Inv P Y ι μ ⟨n,bl⟩ w →
  ∃ι',ι.le ι'∧Inv P Y ι' μ ⟨n,bn u bl⟩ w∧Na ι' μ u
 |[],ι,bl,n,_,hI=>⟨ι,au.le_refl _,hI,fun id t xs h=>by cases h⟩
 |e::r,ι,bl,n,hz,hI=>by
  obtain ⟨id,t,xs,fz,rfl,hb⟩:=hz e (List.mem_cons_self)
  obtain ⟨ι1,hle,Hx,hF⟩:=hI.freeze hb
  have pV:iQ ((id,.arr t xs true)::aZ id bl) r:=fun e he=>by
   obtain ⟨yR,t2,xs2,fz2,rfl,eB⟩:=hz e (List.mem_cons_of_mem _ he)
   by_cases hid:yR=id
   ·subst hid
    rw [hb] at eB;cases eB
    exact ⟨yR,t,xs,true,rfl,by rw [aG,if_pos rfl]⟩
   ·exact ⟨yR,t2,xs2,fz2,rfl,by rw [aG,if_neg hid];exact eB⟩
  obtain ⟨ι2,hle2,nA,hF2⟩:=jt pV Hx
  refine ⟨ι2,au.le_trans hle hle2,nA,fun yR t2 xs2 hm=>?_⟩
  rcases List.mem_cons.1 hm with hm|hm
  ·cases hm;exact hF.mono hle2
  ·exact hF2 yR t2 xs2 hm
theorem gM.slice {id:Nat} {t:Ty} {xs:List t.den} (h:gM ι' μ id t xs) {lo n:Nat} {x:Value} (hr:Rel ι μ (.sl id t lo n) x):af ι' (.list t) ((xs.drop lo).take n) [x]:=by
 cases hr with
 |cB _ _ _ a=>exact ⟨a,0,by simp,by simp,.inl (by simp)⟩
 |sl _ _ _ _ cap L hm h1 h2 h3 =>
  rcases h with ⟨_,hn⟩|⟨L',vs,h4,h5,h6,h7⟩
  ·rw [hn] at hm;cases hm
  ·rw [h4] at hm; cases hm
   have hl:((xs.drop lo).take n).length=n:=by simp;omega
   refine ⟨some ⟨L.b,L.ba+lo * t.sz,none⟩,cap,by rw [hl],by rw [hl];exact h1,.inr ⟨_,_,(vs.drop (lo * t.sz)).take (n * t.sz),rfl,h5.sub _ _,?_⟩⟩
   exact (h6.drop (fun _ _=>af.length) lo).take (fun _ _=>af.length) n
theorem jv : ∀ {t : Ty} {bl : aq} {cs : List V} {x : t.den} {u : dZ} {r : List V}, aX (aV c1 c2 c3 c4 c5 c6) bl t cs = some (x, u, r) → iQ bl u
 | .unit,bl,cs,x,u,r,h=>by simp [aX] at h;obtain ⟨rfl,rfl⟩:=h;exact .nil
 | .bool,bl,cs,x,u,r,h=>by
  cases cs with
  |nil=>simp [aX] at h
  |cons v r'=>cases v<;>simp [aX] at h<;>(obtain ⟨rfl,rfl,rfl⟩:=h;exact .nil)
 | .str,bl,cs,x,u,r,h=>by
  cases cs with
  |nil=>simp [aX] at h
  |cons v r'=>cases v<;>simp [aX] at h<;>(obtain ⟨rfl,rfl,rfl⟩:=h;exact .nil)
 | .int k,bl,cs,x,u,r,h=>by
  cases cs with
  |nil=>simp [aX] at h
  |cons v r'=>cases v<;>simp [aX] at h<;>(obtain ⟨rfl,rfl,rfl,rfl⟩:=h;exact .nil)
 | .list t,bl,cs,x,u,r,h=>by
  cases cs with
  |nil=>simp [aX] at h
  |cons v r' =>
   cases v<;>simp only [aX] at h<;>try (simp at h;done)
   case ez t' zs=>split at h<;>cases h;exact .nil
   case bG=>cases h;exact .nil
   case sl id t' lo n =>
    split at h
    ·rename_i t'' zs fz hb
     split at h
     ·split at h
      ·cases h
       intro e he;simp at he;subst he
       exact ⟨id,_,zs,fz,rfl,hb⟩
      ·cases h
     ·cases h
    ·cases h
 | .prod a b,bl,cs,x,u,r,h=>by
  simp only [aX] at h
  split at h
  ·rename_i x1 u1 r1 h1
   split at h
   ·rename_i x2 u2 r2 h2
    cases h
    exact (jv h1).append (jv h2)
   ·cases h
  ·cases h
 | .bZ d g t,bl,cs,x,u,r,h=>by
  cases cs with
  |nil=>simp [aX] at h
  |cons v r' =>
   cases v<;>simp only [aX] at h<;>try (simp at h;done)
   case bZ d' v' =>
    split at h
    ·split at h
     ·split at h
      ·cases h;exact .nil
      ·cases h
     ·cases h
    ·cases h
theorem DF {ι:au} {g:Bool} {v:V} {cs:List V} {x:Value} (h:A6 g v=some cs) (hr:Rel ι μ v x):∃xs,aI ι μ cs xs∧gI g xs=some x:=by
 cases g with
 |true =>
  cases v<;>simp [A6] at h
  subst h
  cases hr with
  |agg _ xs h1 h2 h3=>exact ⟨xs.toList,⟨by simpa using h1,fun i v x hv hx=>h2 i v x hv (by simpa using hx)⟩,by simp [gI]⟩
 |false =>
  have:cs=[v]:=by cases v<;>simp_all [A6,V.cells?]
  subst this
  exact ⟨[x],.cons hr .nil,rfl⟩
theorem jK:∀{ι:au} {t:Ty} {bl:aq} {cs:List V} {x:t.den} {u:dZ} {r:List V} {xs:List Value},aX (aV c1 c2 c3 c4 c5 c6) bl t cs=some (x,u,r)→aI ι μ cs xs →
  iQ bl u∧∀ι',ι.le ι'→Na ι' μ u→∃us ws,xs=us++ws∧af ι' t x us∧aI ι' μ r ws
 |ι,.unit,bl,cs,x,u,r,xs,h,hr=>by
  simp [aX] at h;obtain ⟨rfl,rfl⟩:=h
  exact ⟨.nil,fun ι' hi _=>⟨[],xs,rfl,rfl,hr.mono hi (Mu.le_refl _)⟩⟩
 |ι,.bool,bl,cs,x,u,r,xs,h,hr=>by
  cases cs with
  |nil=>simp [aX] at h
  |cons v r' =>
   cases v<;>simp [aX] at h
   all_goals
    obtain ⟨rfl,rfl,rfl⟩:=h
    obtain ⟨y,ys,rfl,h1,h2⟩:=hr.bq
    cases h1
    exact ⟨.nil,fun ι' hi _=>⟨[_],ys,rfl,rfl,h2.mono hi (Mu.le_refl _)⟩⟩
 |ι,.str,bl,cs,x,u,r,xs,h,hr=>by
  cases cs with
  |nil=>simp [aX] at h
  |cons v r' =>
   cases v<;>simp [aX] at h
   all_goals
    obtain ⟨rfl,rfl,rfl⟩:=h
    obtain ⟨y,ys,rfl,h1,h2⟩:=hr.bq
    cases h1
    exact ⟨.nil,fun ι' hi _=>⟨[_],ys,rfl,rfl,h2.mono hi (Mu.le_refl _)⟩⟩
 |ι,.int k,bl,cs,x,u,r,xs,h,hr=>by
  cases cs with
  |nil=>simp [aX] at h
  |cons v r' =>
   cases v<;>simp [aX] at h
   all_goals
    obtain ⟨rfl,rfl,rfl,rfl⟩:=h
    obtain ⟨y,ys,rfl,h1,h2⟩:=hr.bq
    cases h1
    exact ⟨.nil,fun ι' hi _=>⟨[_],ys,rfl,rfl,h2.mono hi (Mu.le_refl _)⟩⟩
 |ι,.list t,bl,cs,x,u,r,xs,h,hr=>by
  cases cs with
  |nil=>simp [aX] at h
  |cons v r' =>
   obtain ⟨y,ys,rfl,h1,h2⟩:=hr.bq
   cases v<;>simp only [aX] at h<;>try (simp at h;done)
   case ez t' zs =>
    split at h
    ·rename_i zs' hc; cases h
     obtain ⟨e,hz⟩:=dI hc
     subst e;subst hz
     cases h1 with
     |ez _ _ _ hd=>exact ⟨.nil,fun ι' hi _=>⟨[y],ys,rfl,af.mono hi hd,h2.mono hi (Mu.le_refl _)⟩⟩
    ·cases h
   case bG =>
    cases h
    cases h1 with
    |bG a=>exact ⟨.nil,fun ι' hi _=>⟨[_],ys,rfl,⟨a,0,rfl,Nat.le_refl _,.inl rfl⟩,h2.mono hi (Mu.le_refl _)⟩⟩
   case sl id t' lo n =>
    split at h
    ·rename_i t'' zs fz hb
     split at h
     ·rename_i e; subst e
      split at h
      ·rename_i zs' hc; cases h
       obtain ⟨e,hz⟩:=dI hc
       subst e;subst hz
       refine ⟨fun e he=>?_,fun ι' hi hf=>⟨[y],ys,rfl,(hf id _ zs' (by simp)).slice h1,h2.mono hi (Mu.le_refl _)⟩⟩
       simp at he;subst he
       exact ⟨id,_,zs',fz,rfl,hb⟩
      ·cases h
     ·cases h
    ·cases h
 |ι,.prod a b,bl,cs,x,u,r,xs,h,hr=>by
  simp only [aX] at h
  split at h
  ·rename_i x1 u1 r1 h1
   split at h
   ·rename_i x2 u2 r2 h2
    cases h
    obtain ⟨z1,f1⟩:=jK h1 hr
    have z2:iQ bl u2:=jv h2
    refine ⟨z1.append z2,fun ι' hi hf=>?_⟩
    obtain ⟨us,ws,rfl,hd,DG⟩:=f1 ι' hi hf.left
    obtain ⟨us2,ws2,rfl,hd2,DH⟩:=(jK h2 DG).2 ι' (au.le_refl _) hf.right
    exact ⟨us++us2,ws2,by simp,⟨us,us2,rfl,hd,hd2⟩,DH⟩
   ·cases h
  ·cases h
 |ι,.bZ d g t,bl,cs,x,u,r,xs,h,hr=>by
  cases cs with
  |nil=>simp [aX] at h
  |cons v r' =>
   obtain ⟨y,ys,rfl,h1,h2⟩:=hr.bq
   cases v<;>simp only [aX] at h<;>try (simp at h;done)
   case bZ d' v' =>
    split at h
    ·rename_i e; subst e
     split at h
     ·rename_i cs hun
      split at h
      ·rename_i x0 ho
       cases h
       cases h1 with
       |bZ _ _ z hz =>
        obtain ⟨zs,r1,r2⟩:=DF hun hz
        obtain ⟨_,f1⟩:=jK ho r1
        refine ⟨.nil,fun ι' hi hf=>⟨[_],ys,rfl,?_,h2.mono hi (Mu.le_refl _)⟩⟩
        obtain ⟨us,ws,e1,hd,DG⟩:=f1 ι' hi (fun _ _ _ hm=>by cases hm)
        rw [DG.of_nil,List.append_nil] at e1
        exact ⟨us,z,hd,by rw [←e1];exact r2,rfl⟩
      ·cases h
     ·cases h
    ·cases h
theorem qP : ∀ {t : Ty} {bl : aq} {cs : List V} {x : t.den} {u : dZ} {r : List V}, aX (aV c1 c2 c3 c4 c5 c6) bl t cs = some (x, u, r) → cs.length = t.sz + r.length
 | .unit,bl,cs,x,u,r,h=>by simp [aX] at h;obtain ⟨_,rfl⟩:=h;simp [Ty.sz]
 | .bool,bl,cs,x,u,r,h=>by
  cases cs with
  |nil=>simp [aX] at h
  |cons v r'=>cases v<;>simp [aX] at h<;>(obtain ⟨_,_,rfl⟩:=h;simp [Ty.sz];omega)
 | .str,bl,cs,x,u,r,h=>by
  cases cs with
  |nil=>simp [aX] at h
  |cons v r'=>cases v<;>simp [aX] at h<;>(obtain ⟨_,_,rfl⟩:=h;simp [Ty.sz];omega)
 | .int k,bl,cs,x,u,r,h=>by
  cases cs with
  |nil=>simp [aX] at h
  |cons v r'=>cases v<;>simp [aX] at h<;>(obtain ⟨_,_,_,rfl⟩:=h;simp [Ty.sz];omega)
 | .list t,bl,cs,x,u,r,h=>by
  cases cs with
  |nil=>simp [aX] at h
  |cons v r' =>
   cases v<;>simp only [aX] at h<;>try (simp at h;done)
   case ez t' zs=>split at h<;>cases h;simp [Ty.sz];omega
   case bG=>cases h;simp [Ty.sz];omega
   case sl id t' lo n =>
    split at h
    ·split at h
     ·split at h
      ·cases h;simp [Ty.sz];omega
      ·cases h
     ·cases h
    ·cases h
 | .prod a b,bl,cs,x,u,r,h=>by
  simp only [aX] at h
  split at h
  ·rename_i x1 u1 r1 h1
   split at h
   ·rename_i x2 u2 r2 h2
    cases h
    have:=qP h1;have:=qP h2;simp only [Ty.sz];omega
   ·cases h
  ·cases h
 | .bZ d g t,bl,cs,x,u,r,h=>by
  cases cs with
  |nil=>simp [aX] at h
  |cons v r' =>
   cases v<;>simp only [aX] at h<;>try (simp at h;done)
   case bZ d' v' =>
    split at h
    ·split at h
     ·split at h
      ·cases h;simp [Ty.sz];omega
      ·cases h
     ·cases h
    ·cases h
theorem Qj {t:Ty} {bl:aq} {cs:List V} {y:t.den} {u:dZ} {x:Value} (h:aX (aV c1 c2 c3 c4 c5 c6) bl t cs=some (y,u,[])) (hr:aI ι μ cs x.cells.toList):x.cells.size=t.sz:=by
 have:=qP h;have:=hr.1;simp at *;omega
theorem qQ:∀{t:Ty} {x:t.den} {p:List Bool} {t':Ty} {y:t'.den} {xs:List Value},o3 t x p=some ⟨t',y⟩→af ι t x xs →
  af ι t' y ((xs.drop (t.bw p)).take t'.sz)∧t.bw p+t'.sz≤t.sz∧t.qC p=some t'
 |t,x,[],t',y,xs,h,hc=>by
  have:t=t'∧HEq x y:=by cases t<;>(simp [o3] at h;exact ⟨h.1,h.2⟩)
  obtain ⟨rfl,hy⟩:=this
  cases hy
  have h0:t.bw []=0:=by cases t<;>rfl
  rw [h0]
  refine ⟨by simp [List.take_of_length_le (Nat.le_of_eq hc.length)];exact hc,by omega,by cases t<;>rfl⟩
 | .prod a b,x,false::p,t',y,xs,h,hc=>by
  simp only [o3] at h
  obtain ⟨us,ws,rfl,h1,h2⟩:=hc
  obtain ⟨h3,h4,h5⟩:=qQ h h1
  refine ⟨?_,by simp only [Ty.bw,Ty.sz];omega,by simpa [Ty.qC] using h5⟩
  have hl:=h1.length
  rw [Ty.bw,List.drop_append_of_le_length (by omega),List.take_append_of_le_length (by simp;omega)]
  exact h3
 | .prod a b,x,true::p,t',y,xs,h,hc=>by
  simp only [o3] at h
  obtain ⟨us,ws,rfl,h1,h2⟩:=hc
  obtain ⟨h3,h4,h5⟩:=qQ h h2
  refine ⟨?_,by simp only [Ty.bw,Ty.sz];omega,by simpa [Ty.qC] using h5⟩
  have hl:=h1.length
  rw [Ty.bw,←hl,List.drop_append,List.drop_eq_nil_of_le (by omega)]
  simpa using h3
 | .unit,x,b::p,t',y,xs,h,hc=>by cases b<;>simp [o3] at h
 | .bool,x,b::p,t',y,xs,h,hc=>by cases b<;>simp [o3] at h
 | .str,x,b::p,t',y,xs,h,hc=>by cases b<;>simp [o3] at h
 | .int k,x,b::p,t',y,xs,h,hc=>by cases b<;>simp [o3] at h
 | .list k,x,b::p,t',y,xs,h,hc=>by cases b<;>simp [o3] at h
 | .bZ _ _ _,x,b::p,t',y,xs,h,hc=>by cases b<;>simp [o3] at h
theorem oJ : ∀ {t : Ty} {bl : aq} {x y : t.den} {p : List Bool} {vs : List V} {u : dZ}, cC (aV c1 c2 c3 c4 c5 c6) bl t x p vs = some (y, u) → iQ bl u
 |t,bl,x,y,[],vs,u,h=>by
  have:aX (aV c1 c2 c3 c4 c5 c6) bl t vs=some (y,u,[]):=by
   cases t<;>(simp only [cC] at h;split at h<;>first|(cases h;assumption)|cases h)
  exact jv this
 | .prod a b,bl,x,y,false::p,vs,u,h=>by
  simp only [cC] at h
  split at h
  ·rename_i h';cases h;exact oJ h'
  ·cases h
 | .prod a b,bl,x,y,true::p,vs,u,h=>by
  simp only [cC] at h
  split at h
  ·rename_i h';cases h;exact oJ h'
  ·cases h
 | .unit,bl,x,y,b::p,vs,u,h=>by cases b<;>simp [cC] at h
 | .bool,bl,x,y,b::p,vs,u,h=>by cases b<;>simp [cC] at h
 | .str,bl,x,y,b::p,vs,u,h=>by cases b<;>simp [cC] at h
 | .int k,bl,x,y,b::p,vs,u,h=>by cases b<;>simp [cC] at h
 | .list k,bl,x,y,b::p,vs,u,h=>by cases b<;>simp [cC] at h
 | .bZ _ _ _,bl,x,y,b::p,vs,u,h=>by cases b<;>simp [cC] at h
theorem nB:∀{t:Ty} {bl:aq} {x y:t.den} {p:List Bool} {vs:List V} {u:dZ} {us xs:List Value},cC (aV c1 c2 c3 c4 c5 c6) bl t x p vs=some (y,u) →
  aI ι μ vs us→ι.le ι'→Na ι' μ u→af ι' t x xs→t.bw p+us.length≤t.sz∧af ι' t y (xs.take (t.bw p)++us++xs.drop (t.bw p+us.length))
 |t,bl,x,y,[],vs,u,us,xs,h,hr,hi,hf,hc=>by
  have:aX (aV c1 c2 c3 c4 c5 c6) bl t vs=some (y,u,[]):=by
   cases t<;>(simp only [cC] at h;split at h<;>first|(cases h;assumption)|cases h)
  obtain ⟨us',ws,rfl,h1,h2⟩:=(jK this hr).2 ι' hi hf
  rw [h2.of_nil]
  have h0:t.bw []=0:=by cases t<;>rfl
  have hl:=h1.length
  rw [h0]
  refine ⟨by simp;omega,?_⟩
  rw [List.drop_eq_nil_of_le (by simp;have:=hc.length;omega)]
  simpa using h1
 | .prod a b,bl,x,y,false::p,vs,u,us,xs,h,hr,hi,hf,hc=>by
  simp only [cC] at h
  split at h
  ·rename_i y1 u1 h'
   cases h
   obtain ⟨as,bs,rfl,h1,h2⟩:=hc
   obtain ⟨h3,h4⟩:=nB h' hr hi hf h1
   have hl:=h1.length
   refine ⟨by simp only [Ty.bw,Ty.sz];omega,_,bs,?_,h4,h2⟩
   rw [Ty.bw,List.take_append_of_le_length (by omega),List.drop_append_of_le_length (by omega)]
   simp
  ·cases h
 | .prod a b,bl,x,y,true::p,vs,u,us,xs,h,hr,hi,hf,hc=>by
  simp only [cC] at h
  split at h
  ·rename_i y1 u1 h'
   cases h
   obtain ⟨as,bs,rfl,h1,h2⟩:=hc
   obtain ⟨h3,h4⟩:=nB h' hr hi hf h2
   have hl:=h1.length
   refine ⟨by simp only [Ty.bw,Ty.sz];omega,as,_,?_,h1,h4⟩
   rw [Ty.bw,←hl,List.take_append,List.take_of_length_le (by omega),List.drop_append,List.drop_eq_nil_of_le (by omega)]
   simp [show as.length+b.bw p+us.length - as.length=b.bw p+us.length by omega]
  ·cases h
 | .unit,bl,x,y,b::p,vs,u,us,xs,h,hr,hi,hf,hc=>by cases b<;>simp [cC] at h
 | .bool,bl,x,y,b::p,vs,u,us,xs,h,hr,hi,hf,hc=>by cases b<;>simp [cC] at h
 | .str,bl,x,y,b::p,vs,u,us,xs,h,hr,hi,hf,hc=>by cases b<;>simp [cC] at h
 | .int k,bl,x,y,b::p,vs,u,us,xs,h,hr,hi,hf,hc=>by cases b<;>simp [cC] at h
 | .list k,bl,x,y,b::p,vs,u,us,xs,h,hr,hi,hf,hc=>by cases b<;>simp [cC] at h
 | .bZ _ _ _,bl,x,y,b::p,vs,u,us,xs,h,hr,hi,hf,hc=>by cases b<;>simp [cC] at h
theorem gM.le (hi:ι.le ι') {u:dZ} (h:Na ι μ u):Na ι' μ u:=fun id t xs hm=>(h id t xs hm).mono hi
theorem vV {t:Ty} {bl:aq}:∀{ι:au} {n:Nat} {vs:List V} {ys:List t.den} {u:dZ} {xs:List Value},lC (aV c1 c2 c3 c4 c5 c6) bl t n vs=some (ys,u)→aI ι μ vs xs →
  iQ bl u∧ys.length=n∧vs.length=n * t.sz∧∀ι',ι.le ι'→Na ι' μ u→bf (af ι' t) ys xs
 |ι,0,vs,ys,u,xs,h,hr=>by
  cases vs with
  |nil=>simp [lC] at h;obtain ⟨rfl,rfl⟩:=h;exact ⟨.nil,rfl,by simp,fun _ _ _=>hr.of_nil⟩
  |cons v r=>simp [lC] at h
 |ι,n+1,vs,ys,u,xs,h,hr=>by
  simp only [lC] at h
  split at h
  ·rename_i x u1 r h1
   split at h
   ·rename_i zs u2 h2
    cases h
    obtain ⟨z1,f1⟩:=jK h1 hr
    have z2:iQ bl u2:=by
     have:∀{n:Nat} {vs:List V} {ys:List t.den} {u:dZ},lC (aV c1 c2 c3 c4 c5 c6) bl t n vs=some (ys,u)→iQ bl u:=by
      intro n
      induction n with
      |zero=>intro vs ys u h;cases vs<;>simp [lC] at h;obtain ⟨_,rfl⟩:=h;exact .nil
      |succ n ih =>
       intro vs ys u h
       simp only [lC] at h
       split at h
       ·rename_i h1
        split at h
        ·rename_i h2;cases h;exact (jv h1).append (ih h2)
        ·cases h
       ·cases h
     exact this h2
    have hlen:zs.length=n∧r.length=n * t.sz:=by
     have:∀{n:Nat} {vs:List V} {ys:List t.den} {u:dZ},lC (aV c1 c2 c3 c4 c5 c6) bl t n vs=some (ys,u)→ys.length=n∧vs.length=n * t.sz:=by
      intro n
      induction n with
      |zero=>intro vs ys u h;cases vs<;>simp [lC] at h;obtain ⟨rfl,rfl⟩:=h;simp
      |succ n ih =>
       intro vs ys u h
       simp only [lC] at h
       split at h
       ·rename_i h1
        split at h
        ·rename_i h2; cases h
         obtain ⟨q1,q2⟩:=ih h2
         have:=qP h1
         exact ⟨by simp [q1],by rw [this,q2,Nat.add_mul,Nat.one_mul,Nat.add_comm]⟩
        ·cases h
       ·cases h
     exact this h2
    refine ⟨z1.append z2,by simp [hlen.1],by rw [qP h1,hlen.2,Nat.add_mul,Nat.one_mul,Nat.add_comm],fun ι' hi hf=>?_⟩
    obtain ⟨us,ws,rfl,hd,DG⟩:=f1 ι' hi hf.left
    exact ⟨us,ws,rfl,hd,(vV h2 DG).2.2.2 ι' (au.le_refl _) hf.right⟩
   ·cases h
  ·cases h
theorem DI {t : Ty} {xs : List t.den} {vs : List Value} (h : bf (af ι t) xs vs) : ∀ {n i : Nat}, i + n = xs.length → aI ι μ (Dt (aV c1 c2 c3 c4 c5 c6) t xs n i) (vs.drop (i * t.sz))
 |0,i,e=>by
  have hl:=h.length (fun _ _=>af.length)
  have:vs.drop (i * t.sz)=[]:=List.drop_eq_nil_of_le (by rw [hl,←e];simp)
  rw [this];exact .nil
 |n+1,i,e=>by
  have hi:xs[i]?=some (xs.getD i t.zero):=by simp [List.getD,show i<xs.length by omega]
  have hc:=h.at (fun _ _=>af.length) hi
  have ih:=DI h (n:=n) (i:=i+1) (by omega)
  have e1:vs.drop (i * t.sz)=(vs.drop (i * t.sz)).take t.sz++vs.drop ((i+1) * t.sz):=by
   rw [Nat.add_mul,Nat.one_mul,←List.drop_drop,List.take_append_drop]
  rw [e1]
  exact (eE hc).append ih
theorem vW {t:Ty} {bl:aq}:∀{vs:List V} {ys:List t.den} {u:dZ} {xs:List Value},qF (aV c1 c2 c3 c4 c5 c6) bl t vs=some (ys,u)→aI ι μ vs xs →
  iQ bl u∧ys.length=vs.length∧(∀x∈xs,x.cells.size=t.sz)∧∀ι',ι.le ι'→Na ι' μ u→bf (af ι' t) ys (xs.flatMap fun x=>x.cells.toList)
 |[],ys,u,xs,h,hr=>by
  cases h
  rw [hr.of_nil]
  exact ⟨.nil,rfl,by simp,fun ι' _ _=>rfl⟩
 |v::r,ys,u,xs,h,hr=>by
  unfold qF at h
  obtain ⟨x,xs',rfl,h1,h2⟩:=hr.bq
  split at h
  ·rename_i vs hvs
   obtain ⟨hc,_⟩:=h1.cells hvs
   split at h
   ·rename_i y u1 hy
    split at h
    ·rename_i ys' u2 hys
     cases h
     obtain ⟨a1,a2,a3,a4⟩:=vW hys h2
     have z1:=jv hy
     refine ⟨z1.append a1,by simp [a2],?_,fun ι' hi hf=>?_⟩
     ·intro x' hx'
      rcases List.mem_cons.1 hx' with rfl|hx'
      ·exact Qj hy hc
      ·exact a3 x' hx'
     ·obtain ⟨us, ws, e, hd, hn⟩ := (jK hy hc).2 ι' hi hf.left
      have:=hn.of_nil;subst this
      exact ⟨us,_,by simp [e],hd,a4 ι' hi hf.right⟩
    ·cases h
   ·cases h
  ·cases h
end
end Go.AM
end
section
namespace Go.AM
section
variable {P : Program} {Y : Ctx} {ι ι' : au} {μ μ' : Mu} {H : aH} {w w' : World}
 {c1:Nat→List V→aH→(V→aH→Prop)→Prop} {c2:Nat→List V→V→Prop} {c3:C→St→(Ex→St→Prop)→Prop}
 {c4:Nat→List V→aH→(V→aH→Prop)→Prop} {c5:O→List Nat→C→C→St→(Ex→St→Prop)→Prop} {c6:C→St→(Ex→St→Prop)→Prop}
def nC (ob:List Bool):Prop:=∀b∈ob,b=true
def eZ (l:Bool) (n aC:Nat):Nat:=match l with
 |true=>max n (aC+1)
 |false=>n
def Qk (P:Program) (Y:Ctx) (ι:au) (μ:Mu) (H:aH) (w:World) (aC:Nat) (s:Sem Next) (v:V) (u:dZ) (l:Bool):Prop :=
 ∃ι' μ' x w',(s.run P w = .ok (.value x) w'∨(s.run P w = .ok .skip w'∧x=undef))∧ι.le ι'∧μ.le μ'∧(∀id,id≠aC→μ' id=μ id) ∧
  Inv P Y ι' μ' ⟨eZ l H.next aC,bn u H.bl⟩ w'∧Rel ι' μ' v x
theorem Qk.pure (h:Inv P Y ι μ H w) {aC:Nat} {s:Sem Next} {v:V} {x:Value} (hs:s.run P w = .ok (.value x) w) (hr:Rel ι μ v x):Qk P Y ι μ H w aC s v [] false :=
 ⟨ι,μ,x,w,.inl hs,au.le_refl _,Mu.le_refl _,fun _ _=>rfl,h,hr⟩
theorem Mu.sI {μ:Mu} {n:Nat} {L:Loc}:∀id,id≠n→μ.set n L id=μ id:=fun id h=>by unfold Mu.set;rw [if_neg h]
theorem Bg : ∀ (n : Nat) (r : List Nat), upTo n r = List.range n ++ r
 |0,r=>rfl
 |n+1,r=>by rw [upTo,Bg n,List.range_succ,List.append_assoc];rfl
theorem DJ {f : Nat → Option V} : ∀ {ns : List Nat} {vs : List V}, A7 f ns = some vs → ∀ (i : Nat) n, ns[i]? = some n → ∃ v, vs[i]? = some v ∧ f n = some v
 |[],vs,h,i,n,hi=>by simp at hi
 |m::ns,vs,h,i,n,hi=>by
  simp only [A7] at h
  split at h<;>try (cases h;done)
  rename_i v hv
  split at h<;>try (cases h;done)
  rename_i vs' hvs
  cases h
  cases i with
  |zero=>simp at hi;subst hi;exact ⟨v,rfl,hv⟩
  |succ i=>obtain ⟨u,hu,hf⟩:=DJ hvs i n (by simpa using hi);exact ⟨u,by simpa using hu,hf⟩
theorem KN {k : IntKind} : ∀ {vs : List V} {ns : List Int}, asI k vs = some ns → ∀ (i : Nat) v, vs[i]? = some v → ∃ n, ns[i]? = some n ∧ v = .int k n
 |[],ns,h,i,v,hv=>by simp at hv
 |w::vs,ns,h,i,v,hv=>by
  simp only [asI] at h
  split at h<;>try (cases h;done)
  rename_i k' m
  split at h<;>try (cases h;done)
  rename_i e;subst e
  split at h<;>try (cases h;done)
  rename_i ns' hns
  cases h
  cases i with
  |zero=>simp at hv;subst hv;exact ⟨m,rfl,rfl⟩
  |succ i=>obtain ⟨n,hn,e⟩:=KN hns i v (by simpa using hv);exact ⟨n,by simpa using hn,e⟩
theorem Ql {vs:List V} {j:Int} {v:V} (h:P6 (aV c1 c2 c3 c4 c5 c6) vs j=some v) (hj:j.toNat<vs.length):vs[j.toNat]?=some v:=by
 simp only [P6] at h
 split at h<;>try (cases h;done)
 rename_i k n r
 split at h<;>try (cases h;done)
 rename_i ns hns
 cases h
 have hx:(V.int k n::r)[j.toNat]?=some (V.int k n::r)[j.toNat]:=by simp
 have hall:asI k (V.int k n::r)=some (n::ns):=by simp [asI,hns]
 obtain ⟨m,hm,e⟩:=KN hall j.toNat _ hx
 rw [hx,e]
 congr 2
 show m=(n::ns).getD j.toNat 0
 simp only [List.getD,hm,Option.getD_some]
theorem DK {cs : List V} : ∀ {l : List (Nat × Nat × Int)} {o : Nat} {v : V}, Du (aV c1 c2 c3 c4 c5 c6) cs l o = some v → (∀ x ∈ l, 0 ≤ x.2.2 ∧ x.2.2 < (x.2.1 : Int)) → cs[o + lD l]? = some v
 |[],o,v,h,_=>h
 |(ej,len,j)::r,o,v,h,hb=>by
  simp only [Du] at h
  split at h<;>try (cases h;done)
  rename_i vs hvs
  have h0:=hb _ (List.mem_cons_self ..)
  simp only at h0
  have hlen:vs.length=len:=by
   have:∀{f:Nat→Option V} {ns:List Nat} {vs:List V},A7 f ns=some vs→vs.length=ns.length:=by
    intro f ns
    induction ns with
    |nil=>intro vs h;cases h;rfl
    |cons n ns ih =>
     intro vs h
     simp only [A7] at h
     split at h<;>try (cases h;done)
     split at h<;>try (cases h;done)
     rename_i vs' hvs
     cases h
     simp [ih hvs]
   rw [this hvs,Bg];simp
  have hv:=Ql h (by omega)
  have hlt:j.toNat<len:=by omega
  have hr:(upTo len [])[j.toNat]?=some j.toNat:=by rw [Bg,List.append_nil,List.getElem?_range hlt]
  obtain ⟨u,hu,hf⟩:=DJ hvs _ _ hr
  rw [hu] at hv;cases hv
  have:=DK hf (fun x hx=>hb x (List.mem_cons_of_mem _ hx))
  rw [←this]
  congr 1
  simp only [lD];omega
theorem Vc {cs:List V} {o:Nat} {v:V} (h:cs[o]?=some v):cut o 1 cs=some [v]:=by
 have hl:=(List.getElem?_eq_some_iff.1 h).1
 have e:(cs.drop o).take 1=[v]:=by
  rw [List.drop_eq_getElem_cons hl]
  simp [(List.getElem?_eq_some_iff.1 h).2]
 unfold cut
 rw [if_pos (by omega),e]
theorem vX (h : Inv P Y ι μ H w) {env : List (Nat × V)} {t : TypeId} {g : Bool} {k : Nat} {x : O} {px : Value} {ob : List Bool} {v : V} {u : dZ} {aC : Nat} (hk : cN P t = some k) (hg : sD P t = some g)
  (hx:Rel ι μ (x.ev env) px) (aj:bT (aV c1 c2 c3 c4 c5 c6) (.load g k x) env H.bl aC=some (ob,v,u)) (cL:nC ob) :
  u=[]∧∃y,(Instr.loadAt t px).run P w = .ok y w∧Rel ι μ v y:=by
 have fin:∀{b o:Nat} {cs:List V} {vs:List Value},w.rangeAt b o vs→vs.length=k→aI ι μ cs vs→(∀u∈vs,u.oneCell'=true)→bY g cs=some v →
   ∃y,(Instr.loadAt t (.pointer (some ⟨b,o,none⟩))).run P w = .ok y w∧Rel ι μ v y:=fun hr hl hR h1 hw=>by
  obtain ⟨y,hy,hv⟩:=sG hw hR h1
  exact ⟨y,HS hk hg hr hl hy,hv⟩
 simp only [bT] at aj
 split at aj<;>try (cases aj;done)
 ·rename_i id off di
  rw [di] at hx
  split at aj<;>try (cases aj;done)
  rename_i cs fz hb
  split at aj<;>try (cases aj;done)
  rename_i vs' sJ
  split at aj<;>try (cases aj;done)
  rename_i v' hwr
  cases aj
  obtain ⟨L,vs,hM,hR⟩:=h.live _ _ hb
  cases hx with
  |ptr _ _ L' hL =>
   rw [hM.mu] at hL;cases hL
   obtain ⟨r1,r2,r3⟩:=hR.qI sJ
   exact ⟨rfl,fin (dD hM.rangeAt off k) (by rw [←r1.1];exact r2) r1 (fun u hu=>hM.one u (List.mem_of_mem_drop (List.mem_of_mem_take hu))) hwr⟩
 ·rename_i cs di
  rw [di] at hx
  split at aj<;>try (cases aj;done)
  rename_i vs' sJ
  split at aj<;>try (cases aj;done)
  rename_i v' hwr
  cases aj
  cases hx with
  |eS _ b o gf h1 h2 h3 =>
   have hR:aI ι μ cs ((List.range cs.length).map gf):=⟨by simp,fun i v x hv hx=>by
    have hi:=(List.getElem?_eq_some_iff.1 hv).1
    simp [hi] at hx;subst hx;exact h2 i v hv⟩
   have hrg:w.rangeAt b o ((List.range cs.length).map gf):=fun j v hv=>by
    have hj:j<cs.length:=by have:=(List.getElem?_eq_some_iff.1 hv).1;simpa using this
    simp [hj] at hv;subst hv;exact h.rd _ _ _ (h1 j hj)
   obtain ⟨r1,r2,r3⟩:=hR.qI sJ
   have:=dD hrg 0 k
   exact ⟨rfl,fin this (by rw [←r1.1];exact r2) r1 (fun u hu=>by
    have hu:=List.mem_of_mem_drop (List.mem_of_mem_take hu)
    obtain ⟨i,_,rfl⟩:=List.mem_map.1 hu;exact h3 i) hwr⟩
 ·rename_i id te i p di
  rw [di] at hx
  split at aj<;>try (cases aj;done)
  case h_2 =>
   rename_i t' xs i' p' v' hb
   split at aj<;>try (cases aj;done)
   rename_i e;obtain ⟨rfl,rfl,rfl⟩:=e
   split at aj<;>try (cases aj;done)
   cases aj
   have hii:i=i':=by
    have:=cL _ (List.mem_singleton.2 rfl)
    simp [aV] at this;omega
   subst hii
   obtain ⟨L,us,vs,c,hM,hR,hl,h1,h2,h3,h4⟩:=h.live _ _ hb
   cases hx with
   |ep _ _ _ _ L' hL =>
    rw [hM.mu] at hL;cases hL
    have hlt:i * te.sz+te.bw p<vs.length:=by rw [h3];simpa using h2
    have hc:vs[i * te.sz+te.bw p]?=some c:=by rw [h3];simp [h2]
    have sJ:(vs.drop (i * te.sz+te.bw p)).take 1=[c]:=by
     rw [List.drop_eq_getElem_cons hlt]
     simp [(List.getElem?_eq_some_iff.1 hc).2]
    have DG:=dD hM.rangeAt (i * te.sz+te.bw p) 1
    rw [sJ] at DG
    have:=fin DG rfl (aI.cons h4 aI.nil) (fun u hu=>by
     rw [List.mem_singleton.1 hu]
     exact hM.one c (List.mem_of_getElem? hc)) (show bY false [v]=some v from rfl)
    rw [←Nat.add_assoc] at this
    exact ⟨rfl,this⟩
  rename_i t' xs fz hb
  split at aj<;>try (cases aj;done)
  rename_i e;subst e
  split at aj<;>try (cases aj;done)
  rename_i t2 y me
  split at aj<;>try (cases aj;done)
  rename_i hlen
  split at aj<;>try (cases aj;done)
  rename_i v' hwr
  cases aj
  have hi:i<xs.length:=by simpa using cL _ (List.mem_singleton.2 rfl)
  rcases h.live _ _ hb with ⟨rfl,_⟩|⟨L,vs,hM,hR,hl⟩
  ·simp at hi
  ·cases hx with
   |ep _ _ _ _ L' hL =>
    rw [hM.mu] at hL;cases hL
    have HT:xs[i]?=some (xs.getD i te.zero):=by simp [List.getD,hi]
    have hc:=hR.at (fun _ _=>af.length) HT
    obtain ⟨g1,g2,_⟩:=qQ me hc
    have DG:=dD hM.rangeAt (i * te.sz) te.sz
    have DH:=dD DG (te.bw p) t2.sz
    have mS:=eE (μ:=μ) g1
    exact ⟨rfl,fin DH (by rw [←mS.1];exact hlen) mS (af.one g1) hwr⟩
 ·rename_i ti y di
  rw [di] at hx
  split at aj<;>try (cases aj;done)
  rename_i hlen
  split at aj<;>try (cases aj;done)
  rename_i v' hwr
  cases aj
  cases hx with
  |ip _ _ b o us h1 h2 =>
   have mS:=eE (μ:=μ) h2
   exact ⟨rfl,fin (h1.rangeAt h.rd) (by rw [←mS.1];exact hlen) mS (af.one h2) hwr⟩
 ·rename_i id te m di
  rw [di] at hx
  split at aj<;>try (cases aj;done)
  rename_i t' xs fz hb
  split at aj<;>try (cases aj;done)
  rename_i e;subst e
  split at aj<;>try (cases aj;done)
  rename_i hlen
  split at aj<;>try (cases aj;done)
  rename_i v' hwr
  cases aj
  cases hx with
  |pa _ _ _ L' hL hm =>
   rcases h.live _ _ hb with ⟨rfl,hn⟩|⟨L,vs,hM,hR,hl⟩
   ·rw [hn] at hL;cases hL
   ·rw [hM.mu] at hL; cases hL
    have mS:=DI (μ:=μ) (c1:=c1) (c2:=c2) (c3:=c3) (c4:=c4) (c5:=c5) (c6:=c6) hR (n:=m) (i:=0) (by omega)
    simp only [Nat.zero_mul,List.drop_zero] at mS
    exact ⟨rfl,fin hM.rangeAt (by rw [←mS.1];exact hlen) mS hM.one hwr⟩
 ·rename_i id o l di
  rw [di] at hx
  split at aj<;>try (cases aj;done)
  rename_i cs fz hb
  split at aj<;>try (cases aj;done)
  split at aj<;>try (cases aj;done)
  rename_i v1 hga
  split at aj<;>try (cases aj;done)
  rename_i v' hwr
  cases aj
  obtain ⟨L,vs,hM,hR⟩:=h.live _ _ hb
  cases hx with
  |sp _ _ _ L' hL hbn =>
   rw [hM.mu] at hL;cases hL
   have sJ:cut (o+lD l) 1 cs=some [v1]:=Vc (DK hga hbn)
   obtain ⟨r1,r2,r3⟩:=hR.qI sJ
   exact ⟨rfl,fin (dD hM.rangeAt (o+lD l) 1) (by rw [←r1.1];exact r2) r1 (fun u hu=>hM.one u (List.mem_of_mem_drop (List.mem_of_mem_take hu))) hwr⟩
theorem dF : ∀ (u v : dZ) (bl : aq), bn (u ++ v) bl = bn v (bn u bl)
 |[],v,bl=>rfl
 |(id,none)::r,v,bl=>dF r v _
 |(id,some b)::r,v,bl=>dF r v _
theorem iQ.av : ∀ {u : dZ} {bl : aq} {id : Nat} {t : Ty} {xs : List t.den} {fz : Bool}, iQ bl u → av id bl = some (.arr t xs fz) → ∃ fz', av id (bn u bl) = some (.arr t xs fz')
 |[],bl,id,t,xs,fz,_,h=>⟨fz,h⟩
 |e::r,bl,id,t,xs,fz,hz,h=>by
  obtain ⟨id1,t1,xs1,fz1,rfl,hb⟩:=hz e List.mem_cons_self
  have pV:iQ ((id1,.arr t1 xs1 true)::aZ id1 bl) r:=fun e he=>by
   obtain ⟨yR,t2,xs2,fz2,rfl,eB⟩:=hz e (List.mem_cons_of_mem _ he)
   by_cases hid:yR=id1
   ·subst hid
    rw [hb] at eB;cases eB
    exact ⟨yR,t1,xs1,true,rfl,by rw [aG,if_pos rfl]⟩
   ·exact ⟨yR,t2,xs2,fz2,rfl,by rw [aG,if_neg hid];exact eB⟩
  by_cases hid:id=id1
  ·subst hid
   rw [hb] at h;cases h
   simp only [bn]
   exact iQ.av (fz:=true) pV (by rw [aG,if_pos rfl])
  ·simp only [bn]
   exact iQ.av pV (by rw [aG,if_neg hid];exact h)
theorem iQ.mg : ∀ {u : dZ} {bl : aq} {id : Nat}, iQ bl u → (∀ e ∈ u, e.1 ≠ id) → AM.av id (bn u bl) = AM.av id bl
 |[],bl,id,_,_=>rfl
 |e::r,bl,id,hz,h=>by
  obtain ⟨id1,t1,xs1,fz1,rfl,hb⟩:=hz e List.mem_cons_self
  have pV:iQ ((id1,.arr t1 xs1 true)::aZ id1 bl) r:=fun e he=>by
   obtain ⟨yR,t2,xs2,fz2,rfl,eB⟩:=hz e (List.mem_cons_of_mem _ he)
   by_cases hid:yR=id1
   ·subst hid
    rw [hb] at eB;cases eB
    exact ⟨yR,t1,xs1,true,rfl,by rw [aG,if_pos rfl]⟩
   ·exact ⟨yR,t2,xs2,fz2,rfl,by rw [aG,if_neg hid];exact eB⟩
  have:=iQ.mg pV (fun e he=>h e (List.mem_cons_of_mem _ he))
  simp only [bn]
  rw [this,aG,if_neg (fun e=>h _ List.mem_cons_self e.symm)]
theorem zU (h:Inv P Y ι μ H w) {aC:Nat} (hn:μ aC=none) {cs:List V} {xs:List Value} (hr:aI ι μ cs xs) (h1:∀u∈xs,u.oneCell'=true) (e:TypeId) :
  ∃μ',μ.le μ'∧(∀id,id≠aC→μ' id=μ id)∧Inv P Y ι μ' ⟨max H.next (aC+1),(aC,.cells cs false)::aZ aC H.bl⟩ (w.alloc (.cells xs.toArray e))∧Rel ι μ' (.ptr aC 0) (.pointer (some ⟨w.heap.size,0,none⟩)):=by
 let L:Loc:=⟨w.heap.size,0,xs.length,0⟩
 have hle:=Mu.eY (L:=L) hn
 have fh:μ.set aC L aC=some L:=by simp [Mu.set]
 have hfree:∀o,ι w.heap.size o=none:=fun o=>by
  cases vU:ι w.heap.size o with
  |none=>rfl
  |some y=>have:=World.block_lt_of_cell? _ _ (h.rd _ _ _ vU);simp at this
 refine ⟨_,hle,Mu.sI,h.lay hn (L:=L) rfl ⟨L,xs,⟨fh,(.inl h.below.size),⟨xs.toArray,e,?_,by simp [L],fun j v hv=>by simpa [L] using hv⟩,by simp [L],h1,(fun e=>by cases e),fun _=>hfree⟩,hr.mono (au.le_refl _) hle⟩,.ptr _ _ L fh⟩
 show (w.heap.push _)[w.heap.size]?=_
 simp
theorem uX (h:Inv P Y ι μ H w) {aC:Nat} (hn:μ aC=none) {t:Ty} {ys:List t.den} {xs rest:List Value} (hr:bf (af ι t) ys xs) (e:TypeId) (cap:Nat) (hc:ys.length≤cap) (hcap:cap * t.sz≤xs.length+rest.length) :
  ∃μ',μ.le μ'∧(∀id,id≠aC→μ' id=μ id)∧Inv P Y ι μ' ⟨max H.next (aC+1),(aC,.arr t ys false)::aZ aC H.bl⟩ (w.alloc (.cells (xs++rest).toArray e)) ∧
   Rel ι μ' (.sl aC t 0 ys.length) (.slice (some ⟨w.heap.size,0,none⟩) ys.length cap):=by
 let L:Loc:=⟨w.heap.size,0,xs.length+rest.length,ys.length⟩
 have hle:=Mu.eY (L:=L) hn
 have fh:μ.set aC L aC=some L:=by simp [Mu.set]
 have hfree:∀o,ι w.heap.size o=none:=fun o=>by
  cases vU:ι w.heap.size o with
  |none=>rfl
  |some y=>have:=World.block_lt_of_cell? _ _ (h.rd _ _ _ vU);simp at this
 refine ⟨_,hle,Mu.sI,h.lay hn (L:=L) rfl (.inr ⟨L,xs,⟨fh,(.inl h.below.size),⟨(xs++rest).toArray,e,?_,by simp [L],fun j v hv=>?_⟩,by simp [L],
  bf.one (fun _ _=>af.one) hr,(fun e=>by cases e),fun _=>hfree⟩,hr,rfl⟩),?_⟩
 ·show (w.heap.push _)[w.heap.size]? = _
  simp
 ·have := (List.getElem?_eq_some_iff.1 hv).1
  simp only [L,Nat.zero_add,List.getElem?_toArray]
  rw [List.getElem?_append_left this];exact hv
 ·have := Rel.sl (ι := ι) (μ := μ.set aC L) aC t 0 ys.length cap L fh hc (by simpa [L] using hcap) (by simp [L])
  simpa [L] using this
end
end Go.AM
end
section
namespace Go.AM
section
variable {P : Program} {Y : Ctx} {ι ι' : au} {μ μ' : Mu} {H : aH} {w w' : World}
 {c1:Nat→List V→aH→(V→aH→Prop)→Prop} {c2:Nat→List V→V→Prop} {c3:C→St→(Ex→St→Prop)→Prop}
 {c4:Nat→List V→aH→(V→aH→Prop)→Prop} {c5:O→List Nat→C→C→St→(Ex→St→Prop)→Prop} {c6:C→St→(Ex→St→Prop)→Prop}
theorem splice {α:Type} (ws us:List α) (a o sz:Nat) (h:o+us.length≤sz) :
  ws.take a++(((ws.drop a).take sz).take o++us++((ws.drop a).take sz).drop (o+us.length))++ws.drop (a+sz)=ws.take (a+o)++us++ws.drop (a+o+us.length):=by
 have h1:ws.take a++((ws.drop a).take sz).take o=ws.take (a+o):=by
  rw [List.take_take,Nat.min_eq_left (by omega),List.take_add]
 have h2:((ws.drop a).take sz).drop (o+us.length)++ws.drop (a+sz)=ws.drop (a+o+us.length):=by
  rw [List.drop_take,List.drop_drop,show ws.drop (a+sz)=(ws.drop (a+(o+us.length))).drop (sz - (o+us.length)) by rw [List.drop_drop];congr 1;omega,
   List.take_append_drop]
  congr 1;omega
 simp only [List.append_assoc]
 rw [←List.append_assoc (ws.take a),h1,h2]
theorem qR {id : Nat} : ∀ {u : dZ}, tN id u = true → ∀ e ∈ u, e.1 ≠ id
 |[],_,e,h=>by cases h
 |(s,b)::r,h,e,he=>by
  unfold tN at h
  split at h
  ·cases h
  ·rename_i hs
   rcases List.mem_cons.1 he with rfl|he
   ·intro e;simp only at e;subst e;rw [Nat.beq_refl] at hs;cases hs
   ·exact qR h e he
theorem DL (h : Inv P Y ι μ H w) {env : List (Nat × V)} {t : TypeId} {k : Nat} {x a : O} {vx pa : Value} {ob : List Bool} {v : V} {u : dZ} {aC : Nat} (hk : cN P t = some k)
  (hx:Rel ι μ (x.ev env) vx) (ha:Rel ι μ (a.ev env) pa) (aj:bT (aV c1 c2 c3 c4 c5 c6) (.store k a x) env H.bl aC=some (ob,v,u)) (cL:nC ob) :
  ∃ι' w',(Instr.storeAt t pa vx).run P w = .ok () w'∧ι.le ι'∧Inv P Y ι' μ ⟨H.next,bn u H.bl⟩ w'∧v = .any:=by
 simp only [bT] at aj
 split at aj<;>try (cases aj;done)
 rename_i vs hvs
 obtain ⟨hc,h1⟩:=hx.cells hvs
 split at aj<;>try (cases aj;done)
 rename_i hlen
 have hsz:vx.cells.size=k:=by have:=hc.1;simp at this;omega
 split at aj<;>try (cases aj;done)
 ·rename_i id off hae
  rw [hae] at ha
  split at aj<;>try (cases aj;done)
  rename_i cs hb
  split at aj<;>try (cases aj;done)
  rename_i cs' dW
  cases aj
  obtain ⟨L,ws,hM,hR⟩:=h.live _ _ hb
  cases ha with
  |ptr _ _ L' hL =>
   rw [hM.mu] at hL;cases hL
   obtain ⟨hle,gv⟩:=sH dW hR hc
   have hf:=hM.fits
   have hl:vx.cells.toList.length=k:=by simpa using hsz
   refine ⟨ι,_,iy hk (hM.there (by omega) (by omega)) hsz h1,au.le_refl _,?_,rfl⟩
   exact h.store hb hM.mu (hM.pG rfl) ⟨L,_,hM.write hle h1,gv⟩
 ·rename_i id te i p hae
  rw [hae] at ha
  split at aj<;>try (cases aj;done)
  rename_i t' xs hb
  split at aj<;>try (cases aj;done)
  rename_i e;subst e
  split at aj<;>try (cases aj;done)
  rename_i y u0 dW
  split at aj<;>try (cases aj;done)
  rename_i hni
  cases aj
  have hi:i<xs.length:=by simpa using cL _ (List.mem_singleton.2 rfl)
  have hz:=oJ dW
  obtain ⟨ι',hle,hI,hF⟩:=jt hz h
  have hb':av id (bn u0 H.bl)=some (.arr te xs false):=by rw [hz.mg (qR hni)];exact hb
  rcases hI.live _ _ hb' with ⟨rfl,_⟩|⟨L,ws,hM,hR,hl⟩
  ·simp at hi
  ·cases ha with
   |ep _ _ _ _ L' hL =>
    rw [hM.mu] at hL;cases hL
    have HT:xs[i]?=some (xs.getD i te.zero):=by simp [List.getD,hi]
    have hcell:=hR.at (fun _ _=>af.length) HT
    obtain ⟨g1,g2⟩:=nB dW hc hle hF hcell
    have hwl:=hR.length (fun _ _=>af.length)
    have hf:=hM.fits
    have yS:vx.cells.toList.length=k:=by simpa using hsz
    have hmul:i * te.sz+te.sz≤xs.length * te.sz:=by
     have:=Nat.mul_le_mul_right te.sz (show i+1≤xs.length from hi)
     rwa [Nat.add_mul,Nat.one_mul] at this
    refine ⟨ι',_,iy hk (hM.there (by omega) (by omega)) hsz h1,hle,?_,rfl⟩
    rw [dF]
    have hw:=hM.write (d:=i * te.sz+te.bw p) (us:=vx.cells.toList) (by omega) h1
    rw [←Nat.add_assoc] at hw
    refine hI.store hb' hM.mu (hM.pG rfl) (.inr ⟨L,_,hw,?_,by simpa using hl⟩)
    have tR:=hR.set (fun _ _=>af.length) hi g2
    have hsp:=splice ws vx.cells.toList (i * te.sz) (te.bw p) te.sz g1
    rw [show (i+1) * te.sz=i * te.sz+te.sz by rw [Nat.add_mul,Nat.one_mul],hsp] at tR
    exact tR
 ·rename_i id te m hae
  rw [hae] at ha
  split at aj<;>try (cases aj;done)
  rename_i t' xs hb
  split at aj<;>try (cases aj;done)
  rename_i e;subst e
  split at aj<;>try (cases aj;done)
  rename_i ys u0 dW
  split at aj<;>try (cases aj;done)
  rename_i hni
  cases aj
  obtain ⟨hz,hyl,hvl,ee⟩:=vV dW hc
  obtain ⟨ι',hle,hI,hF⟩:=jt hz h
  have hb':av id (bn u0 H.bl)=some (.arr te xs false):=by rw [hz.mg (qR hni)];exact hb
  cases ha with
  |pa _ _ _ L' hL hm =>
   rcases hI.live _ _ hb' with ⟨rfl,hn⟩|⟨L,ws,hM,hR,hl⟩
   ·rw [hn] at hL;cases hL
   ·rw [hM.mu] at hL; cases hL
    have hwl:=hR.length (fun _ _=>af.length)
    have hf:=hM.fits
    have yS:vx.cells.toList.length=k:=by simpa using hsz
    have hkk:k=xs.length * te.sz:=by rw [←hlen,hvl,hl,hm]
    refine ⟨ι',_,iy hk (hM.there (Nat.le_refl _) (by omega)) hsz h1,hle,?_,rfl⟩
    rw [dF]
    have hw:=hM.write (d:=0) (us:=vx.cells.toList) (by omega) h1
    rw [Nat.add_zero] at hw
    refine hI.store hb' hM.mu (hM.pG rfl) (.inr ⟨_,_,hw,?_,by omega⟩)
    have:ws.drop (0+vx.cells.toList.length)=[]:=List.drop_eq_nil_of_le (by omega)
    rw [this]
    simpa using ee ι' hle hF
theorem vY : ∀ {t t1 : Ty} {p q : List Bool}, t.qC p = some t1 → t.bw (p ++ q) = t.bw p + t1.bw q
 |t,t1,[],q,h=>by
  have:t=t1:=by cases t<;>(simp [Ty.qC] at h;exact h)
  subst this
  have:t.bw []=0:=by cases t<;>rfl
  rw [this];simp
 | .prod a b,t1,false::p,q,h=>by
  simp only [Ty.qC] at h
  simp only [List.cons_append,Ty.bw]
  exact vY h
 | .prod a b,t1,true::p,q,h=>by
  simp only [Ty.qC] at h
  simp only [List.cons_append,Ty.bw]
  rw [vY h];omega
 | .unit,t1,b::p,q,h=>by cases b<;>simp [Ty.qC] at h
 | .bool,t1,b::p,q,h=>by cases b<;>simp [Ty.qC] at h
 | .str,t1,b::p,q,h=>by cases b<;>simp [Ty.qC] at h
 | .int k,t1,b::p,q,h=>by cases b<;>simp [Ty.qC] at h
 | .list k,t1,b::p,q,h=>by cases b<;>simp [Ty.qC] at h
 | .bZ _ _ _,t1,b::p,q,h=>by cases b<;>simp [Ty.qC] at h
theorem vZ : ∀ {t : Ty} {vs : List V} {q : List Bool} {cs : List Value}, uA t vs = some q → aI ι μ vs cs → ∃ c, cs[t.bw q]? = some c ∧ Rel ι μ .bG c
 | .list s,[],q,cs,h,hr=>by simp [uA] at h
 | .list s,x::r,q,cs,h,hr=>by
  obtain ⟨y,ys,rfl,h1,h2⟩:=hr.bq
  cases x<;>simp [uA] at h
  subst h
  exact ⟨y,by simp [Ty.bw],h1⟩
 | .prod a b,vs,q,cs,h,hr=>by
  simp only [uA] at h
  split at h
  ·rename_i p h1
   cases h
   have:=vZ (t:=a) h1 hr
   simpa only [Ty.bw] using this
  ·split at h <;> try (cases h; done)
   rename_i p h1
   cases h
   obtain ⟨c,e1,e2⟩:=vZ h1 (hr.drop a.sz)
   rw [List.getElem?_drop] at e1
   exact ⟨c,e1,e2⟩
 | .unit,vs,q,cs,h,hr=>by simp [uA] at h
 | .bool,vs,q,cs,h,hr=>by simp [uA] at h
 | .str,vs,q,cs,h,hr=>by simp [uA] at h
 | .int k,vs,q,cs,h,hr=>by simp [uA] at h
 | .bZ _ _ _,vs,q,cs,h,hr=>by simp [uA] at h
theorem Vd (h:Inv P Y ι μ H w) {aC:Nat} (hn:μ aC=none) {t:Ty} {y:t.den} {xs:List Value} (hr:bf (af ι t) [y] xs) (e:TypeId) {p:List Bool} {c:Value} (hc:xs[t.bw p]?=some c) (hcr:Rel ι μ .bG c) :
  ∃μ',μ.le μ'∧(∀id,id≠aC→μ' id=μ id)∧Inv P Y ι μ' ⟨max H.next (aC+1),(aC,.l6 t [y] 0 p .bG)::aZ aC H.bl⟩ (w.alloc (.cells (xs++[]).toArray e)) ∧
   Rel ι μ' (.sl aC t 0 1) (.slice (some ⟨w.heap.size,0,none⟩) 1 1):=by
 let L:Loc:=⟨w.heap.size,0,xs.length,1⟩
 have hle:=Mu.eY (L:=L) hn
 have fh:μ.set aC L aC=some L:=by simp [Mu.set]
 have hfree:∀o,ι w.heap.size o=none:=fun o=>by
  cases vU:ι w.heap.size o with
  |none=>rfl
  |some y=>have:=World.block_lt_of_cell? _ _ (h.rd _ _ _ vU);simp at this
 have hlt:=(List.getElem?_eq_some_iff.1 hc).1
 have dW:xs=xs.set (t.bw p) c:=by
  conv=>lhs;rw [←List.set_getElem_self (as:=xs) hlt]
  rw [(List.getElem?_eq_some_iff.1 hc).2]
 refine ⟨_,hle,Mu.sI,h.lay hn (L:=L) rfl ⟨L,xs,xs,c,⟨fh,(.inl h.below.size),⟨(xs++[]).toArray,e,?_,by simp [L],fun j v hv=>?_⟩,by simp [L],
  bf.one (fun _ _=>af.one) hr,(fun e=>by cases e),fun _=>hfree⟩,hr,rfl,by simp,by simpa using hlt,by simpa using dW,hcr.mono (au.le_refl _) hle⟩,?_⟩
 ·show (w.heap.push _)[w.heap.size]? = _
  simp
 ·simpa [L] using hv
 ·have hl := hr.length (fun _ _ => af.length)
  have:=Rel.sl (ι:=ι) (μ:=μ.set aC L) aC t 0 1 1 L fh (Nat.le_refl _) (by simp [L,hl]) (by simp [L])
  simpa [L] using this
theorem we:∀{t:Ty} {vs:List V} {q:List Bool} {v:V} {vs':List V} {cs:List Value},k9 t vs=some (q,v,vs')→aI ι μ vs cs →
  ∃c,cs[t.bw q]?=some c∧Rel ι μ v c∧aI ι μ vs' (cs.set (t.bw q) (.slice none 0 0))
 | .list s,[],q,v,vs',cs,h,hr=>by simp [k9] at h
 | .list s,x::r,q,v,vs',cs,h,hr=>by
  obtain ⟨y,ys,rfl,h1,h2⟩:=hr.bq
  cases x<;>simp [k9] at h
  obtain ⟨rfl,rfl,rfl⟩:=h
  refine ⟨y,by simp [Ty.bw],h1,?_⟩
  simp only [Ty.bw,List.set_cons_zero]
  exact .cons (.bG _) h2
 | .prod a b,vs,q,v,vs',cs,h,hr=>by
  simp only [k9] at h
  split at h
  ·rename_i p v1 vs1 h1
   cases h
   have:=we (t:=a) h1 hr
   simpa only [Ty.bw] using this
  ·split at h <;> try (cases h; done)
   rename_i p v1 vs1 h1
   cases h
   obtain ⟨c,e1,e2,e3⟩:=we h1 (hr.drop a.sz)
   rw [List.getElem?_drop] at e1
   have hlt:=(List.getElem?_eq_some_iff.1 e1).1
   refine ⟨c,e1,e2,?_⟩
   have:cs.set (a.sz+b.bw p) (.slice none 0 0)=cs.take a.sz++(cs.drop a.sz).set (b.bw p) (.slice none 0 0):=by
    conv=>lhs;rw [←List.take_append_drop a.sz cs]
    rw [List.set_append_right _ _ (by simp;omega)]
    congr 2
    simp;omega
   simp only [Ty.bw]
   rw [this]
   exact (hr.take a.sz).append e3
 | .unit,vs,q,v,vs',cs,h,hr=>by simp [k9] at h
 | .bool,vs,q,v,vs',cs,h,hr=>by simp [k9] at h
 | .str,vs,q,v,vs',cs,h,hr=>by simp [k9] at h
 | .int k,vs,q,v,vs',cs,h,hr=>by simp [k9] at h
 | .bZ _ _ _,vs,q,v,vs',cs,h,hr=>by simp [k9] at h
theorem Qm {α:Type} {A cs B:List α} {j:Nat} {z c:α} (h:cs[j]?=some c):(A++cs.set j z++B).set (A.length+j) c=A++cs++B:=by
 obtain ⟨hj,rfl⟩:=List.getElem?_eq_some_iff.1 h
 rw [List.append_assoc,List.set_append_right _ _ (by omega),List.append_assoc]
 congr 1
 rw [show A.length+j - A.length=j by omega,List.set_append_left _ _ (by simpa using hj)]
 congr 1
 simp
theorem Bh (h : Inv P Y ι μ H w) {aC : Nat} {env : List (Nat × V)} {t : TypeId} {k : Nat} {x a : O} {vx pa : Value} {ob : List Bool} {v : V} {u : dZ} (hk : cN P t = some k)
  (hx:Rel ι μ (x.ev env) vx) (ha:Rel ι μ (a.ev env) pa) (aj:yZ (aV c1 c2 c3 c4 c5 c6) (.store k a x) env H.bl aC=some (ob,v,u)) (cL:nC ob) :
  ∃w',(Instr.storeAt t pa vx).run P w = .ok () w'∧Inv P Y ι μ ⟨H.next,bn u H.bl⟩ w'∧v = .any:=by
 simp only [yZ] at aj
 split at aj<;>try (cases aj;done)
 rename_i vs hvs
 obtain ⟨hc,h1⟩:=hx.cells hvs
 split at aj<;>try (cases aj;done)
 rename_i hlen
 have hsz:vx.cells.size=k:=by have:=hc.1;simp at this;omega
 have yS:vx.cells.toList.length=k:=by simpa using hsz
 split at aj<;>try (cases aj;done)
 rename_i id te i p hae
 rw [hae] at ha
 split at aj<;>try (cases aj;done)
 ·rename_i t' xs hb
  split at aj<;>try (cases aj;done)
  rename_i e;subst e
  split at aj<;>try (cases aj;done)
  rename_i t1 hat
  split at aj<;>try (cases aj;done)
  rename_i q v1 vs1 hop
  split at aj<;>try (cases aj;done)
  rename_i y dW
  cases aj
  have hi:i<xs.length:=by simpa using cL _ (List.mem_singleton.2 rfl)
  obtain ⟨c,e1,e2,e3⟩:=we hop hc
  rcases h.live _ _ hb with ⟨rfl,_⟩|⟨L,ws,hM,hR,hl⟩
  ·simp at hi
  ·cases ha with
   |ep _ _ _ _ L' hL =>
    rw [hM.mu] at hL;cases hL
    have HT:xs[i]?=some (xs.getD i te.zero):=by simp [List.getD,hi]
    have hcell:=hR.at (fun _ _=>af.length) HT
    obtain ⟨g1,g2⟩:=nB dW e3 (au.le_refl _) (fun id t xs h=>by cases h) hcell
    rw [List.length_set] at g1
    have hwl:=hR.length (fun _ _=>af.length)
    have hf:=hM.fits
    have hj:=(List.getElem?_eq_some_iff.1 e1).1
    have hmul:i * te.sz+te.sz≤xs.length * te.sz:=by
     have:=Nat.mul_le_mul_right te.sz (show i+1≤xs.length from hi)
     rwa [Nat.add_mul,Nat.one_mul] at this
    refine ⟨_,iy hk (hM.there (by omega) (by omega)) hsz h1,?_,rfl⟩
    have hw:=hM.write (d:=i * te.sz+te.bw p) (us:=vx.cells.toList) (by omega) h1
    rw [←Nat.add_assoc] at hw
    have tR:=hR.set (fun _ _=>af.length) hi g2
    have hsp:=splice ws (vx.cells.toList.set (t1.bw q) (.slice none 0 0)) (i * te.sz) (te.bw p) te.sz (by simpa using g1)
    rw [show (i+1) * te.sz=i * te.sz+te.sz by rw [Nat.add_mul,Nat.one_mul],hsp,List.length_set] at tR
    have hA:(ws.take (i * te.sz+te.bw p)).length=i * te.sz+te.bw p:=by rw [List.length_take];omega
    have hoff:i * te.sz+te.bw (p++q)=(ws.take (i * te.sz+te.bw p)).length+t1.bw q:=by rw [hA,vY hat];omega
    refine h.store hb hM.mu (hM.pG rfl) ⟨L,_,_,c,hw,tR,by simpa using hl,by simpa using hi,?_,?_,e2⟩
    ·rw [hoff]
     simp only [List.length_append,List.length_set];omega
    ·rw [hoff,Qm e1]
 ·rename_i t' xs i' p' v' hb
  split at aj<;>try (cases aj;done)
  rename_i e;obtain ⟨rfl,rfl⟩:=e
  split at aj<;>try (cases aj;done)
  rename_i id' s lo n
  cases aj
  have hii:i=i':=by
   have:=cL _ (List.mem_singleton.2 rfl)
   simp [aV] at this;omega
  subst hii
  obtain ⟨L,us,ws,c,hM,hR,hl,h2,h3,h4,h5⟩:=h.live _ _ hb
  cases ha with
  |ep _ _ _ _ L' hL =>
   rw [hM.mu] at hL;cases hL
   obtain ⟨c',r,ecs,hc',hr'⟩:=hc.bq
   have hr0:=hr'.of_nil;subst hr0
   have hwl:ws.length=us.length:=by rw [h4];simp
   have hf:=hM.fits
   have hk1:k=1:=by rw [←yS,ecs];rfl
   refine ⟨_,iy hk (hM.there (by omega) (by omega)) hsz h1,?_,rfl⟩
   have hw:=hM.write (d:=i * te.sz+te.bw p) (us:=vx.cells.toList) (by omega) h1
   rw [←Nat.add_assoc] at hw
   refine h.store hb hM.mu (hM.pG rfl) ⟨L,us,_,c',hw,hR,hl,h2,h3,?_,hc'⟩
   rw [ecs,h4]
   simp only [List.length_cons,List.length_nil]
   rw [List.set_eq_take_append_cons_drop,if_pos h3,List.set_eq_take_append_cons_drop,if_pos h3]
   have ht:(us.take (i * te.sz+te.bw p)).length=i * te.sz+te.bw p:=by rw [List.length_take];omega
   rw [List.take_append_of_le_length (by omega),List.take_of_length_le (by omega),List.drop_append,List.drop_eq_nil_of_le (by omega),ht]
   simp
theorem Ve {bl:aq} {n:Nat} {id:Nat} {u:dZ} (hu:clU (aV c1 c2 c3 c4 c5 c6) id bl=some u) (h:Inv P Y ι μ ⟨n,bl⟩ w):∃ι',ι.le ι'∧Inv P Y ι' μ ⟨n,bn u bl⟩ w:=by
 unfold clU at hu
 split at hu
 ·rename_i t xs i p v hb
  split at hu<;>try (cases hu;done)
  rename_i y u0 dW
  split at hu<;>try (cases hu;done)
  rename_i hni
  cases hu
  have hz:=oJ dW
  obtain ⟨ι',hle,hI,hF⟩:=jt hz h
  have hb':av id (bn u0 bl)=some (.l6 t xs i p v):=by rw [hz.mg (qR hni)];exact hb
  obtain ⟨L,us,ws,c,hM,hR,hl,h2,h3,h4,h5⟩:=h.live _ _ hb
  obtain ⟨L',us',ws',c',hM',_⟩:=hI.live _ _ hb'
  have hLL:L=L':=by have:=hM.mu.symm.trans hM'.mu;cases this;rfl
  subst hLL
  have gv:bf (af ι' t) xs us:=bf.mono (fun _ _=>af.mono hle) hR
  have HT:xs[i]?=some (xs.getD i t.zero):=by simp [List.getD,h2]
  have hcell:=gv.at (fun _ _=>af.length) HT
  obtain ⟨g1,g2⟩:=nB dW (aI.cons h5 aI.nil) hle hF hcell
  refine ⟨ι',hle,?_⟩
  rw [dF]
  refine hI.same hb' (.inr ⟨L,ws,⟨hM.mu,hM.old,hM.row,hM.fits,hM.one,fun e=>(by cases e),hM'.pG⟩,?_,by simpa using hl⟩)
  have tR:=gv.set (fun _ _=>af.length) h2 g2
  have hsp:=splice us [c] (i * t.sz) (t.bw p) t.sz g1
  rw [show (i+1) * t.sz=i * t.sz+t.sz by rw [Nat.add_mul,Nat.one_mul],hsp] at tR
  have:us.set (i * t.sz+t.bw p) c=us.take (i * t.sz+t.bw p)++[c]++us.drop (i * t.sz+t.bw p+[c].length):=by
   rw [List.set_eq_take_append_cons_drop,if_pos h3];simp
  rw [h4,this]
  exact tR
 ·cases hu
  exact ⟨ι,au.le_refl _,h⟩
theorem KO : ∀ {ids : List Nat} {ι : au} {bl : aq} {n : Nat} {u : dZ}, PO (aV c1 c2 c3 c4 c5 c6) ids bl = some u → Inv P Y ι μ ⟨n, bl⟩ w → ∃ ι', ι.le ι' ∧ Inv P Y ι' μ ⟨n, bn u bl⟩ w
 |[],ι,bl,n,u,hu,h=>by cases hu;exact ⟨ι,au.le_refl _,h⟩
 |id::r,ι,bl,n,u,hu,h=>by
  simp only [PO] at hu
  split at hu<;>try (cases hu;done)
  rename_i u1 hu1
  split at hu<;>try (cases hu;done)
  rename_i u2 hu2
  cases hu
  obtain ⟨ι1,l1,Hx⟩:=Ve hu1 h
  obtain ⟨ι2,l2,nA⟩:=KO hu2 Hx
  exact ⟨ι2,au.le_trans l1 l2,by rw [dF];exact nA⟩
theorem Bi:∀(vs:List Value) (j:Nat) (off:Nat) (cells:Array Value),off+j+vs.length≤cells.size →
  ((vs.zipIdx j).foldl (fun cs (c,j)=>cs.setIfInBounds (off+j) c) cells).toList=cells.toList.take (off+j)++vs++cells.toList.drop (off+j+vs.length)
 |[],j,off,cells,h=>by simp
 |v::r,j,off,cells,h=>by
  simp only [List.zipIdx_cons,List.foldl_cons]
  rw [show ((r.zipIdx (j+1)).foldl (fun cs (c,j)=>cs.setIfInBounds (off+j) c) (cells.setIfInBounds (off+j) v)).toList=_ from Bi r (j+1) off _ (by simp at h ⊢;omega)]
  simp only [List.length_cons] at h
  simp only [Array.toList_setIfInBounds,List.length_cons]
  rw [List.take_set,List.drop_set_of_lt (by omega),show off+(j+1)=(off+j)+1 by omega,List.take_succ_eq_append_getElem (by simp;omega)]
  rw [List.set_append_right _ _ (by simp;omega),List.length_take,Nat.min_eq_left (by simp;omega)]
  simp
  congr 1;omega
theorem nD {place:Nat→Option (Nat×Nat)} {env:List (Nat×V)} {a:Act} (he:dV ι μ env a.tmps):∀{parts:List (Nat×Operand)} {ps:List (Nat×Nat×O)} {zs cs:List V} {cells:Array Value},
  partsOf place parts=some ps→tK ps env zs=some cs→aI ι μ zs cells.toList→(∀u∈cells.toList,u.oneCell'=true) →
  ∃out,Instr.fill place cells (parts.map fun (i,x)=>(i,a.eval x))=some out∧aI ι μ cs out.toList∧∀u∈out.toList,u.oneCell'=true
 |[],ps,zs,cs,cells,h,hf,hr,h1=>by
  cases h;cases hf
  exact ⟨cells,rfl,hr,h1⟩
 |(i,x)::r,ps,zs,cs,cells,h,hf,hr,h1=>by
  unfold partsOf at h
  split at h<;>try (cases h;done)
  rename_i off k y ys hp hx hys
  cases h
  unfold tK at hf
  split at hf<;>try (cases hf;done)
  rename_i vs hvs
  obtain ⟨hc,ho⟩:=(aB he hx).cells hvs
  split at hf<;>try (cases hf;done)
  rename_i hlen
  split at hf<;>try (cases hf;done)
  rename_i cs' dW
  obtain ⟨hle,hR⟩:=sH dW hr hc
  have hsz:(a.eval x).cells.size=k:=by have:=hc.1;simp at this;omega
  have DM:=Bi (a.eval x).cells.toList 0 off cells (by simpa using hle)
  simp only [List.map_cons,Instr.fill,hp]
  rw [if_neg (by simp [hsz];simp at hle;omega)]
  refine nD he hys hf ?_ ?_
  ·rw [←Array.foldl_toList,Array.toList_zipIdx,DM];simpa using hR
  ·rw [← Array.foldl_toList, Array.toList_zipIdx, DM]
   intro u hu
   simp only [Nat.add_zero,List.mem_append] at hu
   rcases hu with (hu|hu)|hu
   ·exact h1 u (List.mem_of_mem_take hu)
   ·exact ho u hu
   ·exact h1 u (List.mem_of_mem_drop hu)
theorem pW {k:Nat}:∀(vs:List Value) (n:Nat) (cells:Array Value),(∀v∈vs,v.cells.size=k)→cells.size=(n+vs.length) * k →
  ∃out,Instr.fill (fun i=>some (i * k,k)) cells ((vs.zipIdx n).map fun (v,i)=>(i,v))=some out∧out.toList=cells.toList.take (n * k)++vs.flatMap fun v=>v.cells.toList
 |[],n,cells,_,hs=>⟨cells,rfl,by
  simp at hs
  have:cells.toList.length≤n * k:=by simp;omega
  simp [List.take_of_length_le this]⟩
 |v::r,n,cells,hv,hs=>by
  have hk:=hv v List.mem_cons_self
  simp only [List.length_cons] at hs
  have hfit:n * k+k≤cells.size:=by
   rw [hs,show n+(r.length+1)=(n+1)+r.length by omega,Nat.add_mul,Nat.add_mul,Nat.one_mul];omega
  have DM:=Bi v.cells.toList 0 (n * k) cells (by simp [hk];exact hfit)
  have hsize:((v.cells.toList.zipIdx 0).foldl (fun cs (c,j)=>cs.setIfInBounds (n * k+j) c) cells).size=cells.size:=by
   have:=congrArg List.length DM
   rw [Array.length_toList] at this
   rw [this]
   simp [hk];omega
  obtain ⟨out, h1, h2⟩ := pW r (n + 1) ((v.cells.toList.zipIdx 0).foldl (fun cs (c, j) => cs.setIfInBounds (n * k + j) c) cells) (fun u hu => hv u (List.mem_cons_of_mem _ hu))
   (by rw [hsize,hs];congr 1;omega)
  refine ⟨out,?_,?_⟩
  ·simp only [List.zipIdx_cons, List.map_cons, Instr.fill]
   rw [if_neg (by simp [hk];omega),←Array.foldl_toList,Array.toList_zipIdx]
   exact h1
  ·rw [h2, DM]
   simp only [Nat.add_zero,List.flatMap_cons,Nat.add_mul,Nat.one_mul]
   rw [List.take_append_of_le_length (by simp [hk];omega),List.take_of_length_le (by simp [hk];omega)]
   simp
end
end Go.AM
end
section
namespace Go.AM
section
variable {P : Program} {Y : Ctx} {ι ι' : au} {μ μ' : Mu} {H : aH} {w w' : World}
 {c1:Nat→List V→aH→(V→aH→Prop)→Prop} {c2:Nat→List V→V→Prop} {c3:C→St→(Ex→St→Prop)→Prop}
 {c4:Nat→List V→aH→(V→aH→Prop)→Prop} {c5:O→List Nat→C→C→St→(Ex→St→Prop)→Prop} {c6:C→St→(Ex→St→Prop)→Prop}
theorem Inv.KP (h:Inv P Y ι μ H w) {aC:Nat} (hn:μ aC=none) (t:Ty) (fz:Bool):Inv P Y ι μ ⟨max H.next (aC+1),(aC,.arr t [] fz)::aZ aC H.bl⟩ w:=by
 refine ⟨h.below,h.i0,h.iB,h.rd,h.m0,fun id hid=>h.nx id (by simp only at hid;omega),fun id B hB=>?_,?_,?_,h.gl⟩
 ·rw [aG] at hB
  split at hB
  ·rename_i e;subst e;cases hB;exact .inl ⟨rfl,hn⟩
  ·exact h.live id B hB
 ·intro id id' B B' L1 L2 h1 h2 fL hm2 e
  rw [aG] at h1 h2
  by_cases e1:id=aC<;>by_cases e2:id'=aC
  ·rw [e1,e2]
  ·subst e1;rw [hn] at fL;cases fL
  ·subst e2;rw [hn] at hm2;cases hm2
  ·rw [if_neg e1] at h1; rw [if_neg e2] at h2
   exact h.inj id id' B B' L1 L2 h1 h2 fL hm2 e
 ·intro id B hB
  rw [aG] at hB
  split at hB
  ·rename_i e;subst e;simp only;omega
  ·have:=h.lt id B hB;simp only;omega
theorem Inv.move (h : Inv P Y ι μ H w) {aC : Nat} (hn : μ aC = none) {id : Nat} {b0 b : kA} (hb0 : av id H.bl = some b0) {L L' : Loc} (hL : μ id = some L) (hLb : L'.b = L.b) (hfree : ∀ o, ι L.b o = none)
  (hos:w'.os=w.os) (Qi:w'.tape=w.tape) (hout:w'.output=w.output) (hdr:w'.drawn=w.drawn) (hsz:w'.heap.size=w.heap.size) (hk:∀k,k≠L.b→w'.heap[k]?=w.heap[k]?)
  (hmg:jd w.heap[L.b]? w'.heap[L.b]?) (hb:dz P Y.own ι (μ.set aC L') aC w' b):Inv P Y ι (μ.set aC L') ⟨max H.next (aC+1),(aC,b)::aZ aC (aZ id H.bl)⟩ w':=by
 have hold:=((h.live id b0 hb0).loc hL).1
 have hle:=Mu.eY (L:=L') hn
 have hidn:id≠aC:=fun e=>by subst e;rw [hn] at hL;cases hL
 have KQ:∀{j B},j≠aC→av j ((aC,b)::aZ aC (aZ id H.bl))=some B→j≠id∧av j H.bl=some B:=fun {j B} hj hB=>by
  rw [aG,if_neg hj,aU] at hB
  split at hB
  ·cases hB
  ·rename_i e;exact ⟨e,hB⟩
 refine ⟨⟨hos.trans h.below.os, Qi.trans h.below.tape, hout.trans h.below.output, by rw [hsz]; exact h.below.size, fun k hk' hx => ?_, by rw [hdr]; exact h.below.dr, fun k hk' => (h.below.maps k hk').trans (by
   by_cases e:k=L.b
   ·subst e;exact hmg
   ·exact .eq (hk k e))⟩,h.i0,h.iB,fun b o x hx=>?_,Mu.le_trans h.m0 hle,fun i hid=>?_,fun i B hB=>?_,?_,?_,h.gl⟩
 ·rw [hk k (Ctx.lg hold hk' hx)];exact h.below.block k hk' hx
 ·have := h.rd b o x hx
  have hne:b≠L.b:=fun e=>by subst e;rw [hfree] at hx;cases hx
  unfold World.cell? at this ⊢
  simp only at this ⊢
  rw [hk b hne];exact this
 ·simp only at hid
  unfold Mu.set;rw [if_neg (by omega)];exact h.nx i (by omega)
 ·by_cases e : i = aC
  ·subst e;rw [aG,if_pos rfl] at hB;cases hB;exact hb
  ·obtain ⟨h1, h2⟩ := KQ e hB
   refine (h.live i B h2).mono (au.le_refl _) hle (fun hm=>by unfold Mu.set;rw [if_neg e];exact hm) (fun L1 hL1=>hk _ (fun e'=>h1 (h.inj i id B b0 L1 L h2 hb0 hL1 hL e'))) (fun _ _ h=>h)
 ·intro i i' B B' L1 L2 h1 h2 fL hm2 e
  by_cases e1:i=aC<;>by_cases e2:i'=aC
  ·rw [e1,e2]
  ·obtain ⟨g1, g2⟩ := KQ e2 h2
   unfold Mu.set at fL hm2
   rw [if_pos e1] at fL;rw [if_neg e2] at hm2;cases fL
   exact absurd (h.inj i' id B' b0 L2 L g2 hb0 hm2 hL (by omega)) g1
  ·obtain ⟨g1, g2⟩ := KQ e1 h1
   unfold Mu.set at fL hm2
   rw [if_pos e2] at hm2;rw [if_neg e1] at fL;cases hm2
   exact absurd (h.inj i id B b0 L1 L g2 hb0 fL hL (by omega)) g1
  ·obtain ⟨g1, g2⟩ := KQ e1 h1
   obtain ⟨g3,g4⟩:=KQ e2 h2
   unfold Mu.set at fL hm2
   rw [if_neg e1] at fL;rw [if_neg e2] at hm2
   exact h.inj i i' B B' L1 L2 g2 g4 fL hm2 e
 ·intro i B hB
  by_cases e:i=aC
  ·subst e;simp only;omega
  ·obtain ⟨_, h2⟩ := KQ e hB
   have:=h.lt i B h2;simp only;omega
theorem sK (h : Inv P Y ι μ H w) {t : Ty} {yv : V} {x : Value} {ys : List t.den} {tx e' : TypeId} (hk : P.underlying tx = some (.slice e')) (hy : elems (aV c1 c2 c3 c4 c5 c6) H.bl t yv = some ys)
  (hr:Rel ι μ yv x):∃news,Src P t.sz tx x ys.length news w∧bf (af ι t) ys news:=by
 have nil:∀a cap,Src P t.sz tx (.slice a 0 cap) 0 [] w:=fun a cap=>by
  cases a with
  |none=>exact Src.ofNil w hk cap
  |some a=>exact Src.ofSlice w hk a 0 cap [] (by simp) (fun j u h=>by simp at h) (fun u h=>by cases h)
 have ofR:∀{b o n cap:Nat} {us:List Value},w.rangeAt b o us→us.length=n * t.sz→(∀u∈us,u.oneCell'=true)→Src P t.sz tx (.slice (some ⟨b,o,none⟩) n cap) n us w:=fun hrg hl h1 =>
  Src.ofSlice w hk _ _ _ _ hl (fun j u hu=>by rw [Addr.add_mid];exact hrg j u hu) h1
 unfold elems at hy
 split at hy<;>try (cases hy;done)
 ·cases hy;cases hr;exact ⟨[],nil _ _,rfl⟩
 ·rename_i t' zs
  obtain ⟨e,hz⟩:=dI hy
  subst e;subst hz
  cases hr with
  |ez _ _ _ hd =>
   obtain ⟨a,cap,e,hle,hd⟩:=hd
   cases e
   rcases hd with rfl|⟨b,o,us,rfl,hrd,hc⟩
   ·exact ⟨[],nil a cap,rfl⟩
   ·exact ⟨us,ofR (hrd.rangeAt h.rd) (hc.length (fun _ _=>af.length)) (hc.one fun _ _=>af.one),hc⟩
 ·rename_i id t' lo n
  split at hy<;>try (cases hy;done)
  rename_i t'' zs fz hb
  split at hy<;>try (cases hy;done)
  rename_i e;subst e
  split at hy<;>try (cases hy;done)
  rename_i zs' hc
  cases hy
  obtain ⟨e,hz⟩:=dI hc
  subst e;subst hz
  cases hr with
  |cB=>exact ⟨[],by simpa using nil _ _,by simp [bf]⟩
  |sl _ _ _ _ cap L hm h1 h2 h3 =>
   rcases h.live _ _ hb with ⟨_,hn⟩|⟨L',vs,hM,hR,hl⟩
   ·rw [hn] at hm;cases hm
   ·rw [hM.mu] at hm; cases hm
    have hlen:((zs'.drop lo).take n).length=n:=by simp;omega
    have ee:=(hR.drop (fun _ _=>af.length) lo).take (fun _ _=>af.length) n
    have Hy:=ee.length (fun _ _=>af.length)
    rw [hlen] at Hy
    refine ⟨_,?_,ee⟩
    show Src P _ tx _ ((zs'.drop lo).take n).length _ w
    rw [hlen]
    exact ofR (dD hM.rangeAt _ _) Hy (ee.one fun _ _=>af.one)
theorem eF {e:TypeId} {k:Nat} (h:jF P e=some k):∃i z,P.info? e=some i∧i.zero=some z∧i.bytes≤lF∧z.cells.size=i.size∧i.size=k:=by
 unfold jF at h
 split at h<;>try (cases h;done)
 rename_i i hi
 split at h<;>try (cases h;done)
 rename_i z hz
 split at h<;>try (cases h;done)
 rename_i hb
 cases h
 exact ⟨i,z,hi,hz,hb.1,hb.2,rfl⟩
theorem wg (h : Inv P Y ι μ H w) {aC : Nat} (hn : μ aC = none) {t : Ty} {tt tx ty e e' : TypeId} (ht : P.underlying tt = some (.slice e)) (htx : P.underlying tx = some (.slice e')) (he : jF P e = some t.sz)
  {base:Option Addr} {n cap:Nat} {xs ys:List t.den} {olds news:List Value} (hxl:xs.length=n) (hxs:bf (af ι t) xs olds)
  (hold:(Builtin.firstCells t.sz n (.slice base n cap)).run P w.drew = .ok olds.toArray w.drew) {x:Value} (hs:Src P t.sz tx x ys.length news w) (hys:bf (af ι t) ys news)
  (hg:cap<n+ys.length) (lp:n+ys.length<cM) :
  ∃μ' v w',(Builtin.append_ #[tt,tx] ty #[.slice base n cap,x]).run P w = .ok v w'∧μ.le μ'∧(∀id,id≠aC→μ' id=μ id) ∧
   Inv P Y ι μ' ⟨max H.next (aC+1),(aC,.arr t (xs++ys) false)::aZ aC H.bl⟩ w'∧Rel ι μ' (.sl aC t 0 (n+ys.length)) v:=by
 obtain ⟨i,z,hi,hz,hby,hzs,hsz⟩:=eF he
 have hfit:Builtin.nextslicecap (n+ys.length) cap * i.bytes≤281474976710656:=by
  refine growslice_fits hg (Nat.le_trans (Nat.mul_le_mul (Nat.le_of_lt lp) hby) ?_)
  unfold cM lF;decide
 have h63:((n+ys.length:Nat):Int)≤9223372036854775807:=by unfold cM at lp;omega
 rw [←hsz] at hold hs
 have hr:=run_append_grow_src w tt tx ty e i z ht hi hz base n cap olds hold x ys.length news hs hg h63 hfit
 have ee:bf (af ι t) (xs++ys) (olds++news):=hxs.append hys
 have hl:=ee.length (fun _ _=>af.length)
 have hge:=grownCap_ge w (n+ys.length) cap e
 obtain ⟨μ', m1, m0, m2, m3⟩ := uX (aC := aC) (rest := (Builtin.zeroCells z.cells (grownCap w (n + ys.length) cap e - (n + ys.length))).toList) h.drew hn ee e (grownCap w (n + ys.length) cap e)
  (by simp [hxl]; exact hge) (by
   have hzc:(Builtin.zeroCells z.cells (grownCap w (n+ys.length) cap e - (n+ys.length))).toList.length=(grownCap w (n+ys.length) cap e - (n+ys.length)) * t.sz:=by
    rw [Array.length_toList,size_zeroCells,hzs,hsz]
   rw [hl,hzc,List.length_append,hxl,←Nat.add_mul]
   exact Nat.mul_le_mul_right _ (by omega))
 refine ⟨μ',_,_,hr,m1,m0,?_,?_⟩
 ·have:(olds++news++(Builtin.zeroCells z.cells (grownCap w (n+ys.length) cap e - (n+ys.length))).toList).toArray =
    (olds++news).toArray++Builtin.zeroCells z.cells (grownCap w (n+ys.length) cap e - (n+ys.length)):=by
   apply Array.ext';simp
  rw [this] at m2;exact m2
 ·simpa [hxl] using m3
theorem Bk (h : Inv P Y ι μ H w) {aC : Nat} (hn : μ aC = none) {env : List (Nat × V)} {tt tx ty e e' : TypeId} {k : Nat} {sO xO : O} {s x : Value} {ob : List Bool} {v : V} {u : dZ}
  (ht:P.underlying tt=some (.slice e)) (htx:P.underlying tx=some (.slice e')) (he:jF P e=some k)
  (hs:Rel ι μ (sO.ev env) s) (hx:Rel ι μ (xO.ev env) x) (aj:bT (aV c1 c2 c3 c4 c5 c6) (.append k sO xO) env H.bl aC=some (ob,v,u)) (cL:nC ob) :
  ∃μ' y w',(Builtin.append_ #[tt,tx] ty #[s,x]).run P w = .ok y w'∧μ.le μ'∧(∀id,id≠aC→μ' id=μ id)∧Inv P Y ι μ' ⟨max H.next (aC+1),bn u H.bl⟩ w'∧Rel ι μ' v y:=by
 -- a slice with no element and no room
 have empty:∀{t:Ty} {ys:List t.den} (a:Option Addr) (bl:aq),(∀id B,av id bl=some B→av id H.bl=some B)→t.sz=k→elems (aV c1 c2 c3 c4 c5 c6) H.bl t (xO.ev env)=some ys→ys.length<cM →
   ∃μ' y w',(Builtin.append_ #[tt,tx] ty #[.slice a 0 0,x]).run P w = .ok y w'∧μ.le μ'∧(∀id,id≠aC→μ' id=μ id)∧Inv P Y ι μ' ⟨max H.next (aC+1),(aC,.arr t ys false)::aZ aC bl⟩ w'∧Rel ι μ' (.sl aC t 0 ys.length) y:=by
  intro t ys a bl qD hk hy lp
  subst hk
  obtain ⟨news,hsrc,ee⟩:=sK h htx hy hx
  have hI:Inv P Y ι μ ⟨H.next,bl⟩ w:=h.sub qD
  by_cases hm:ys.length=0
  ·have : ys = [] := List.length_eq_zero_iff.1 hm
   subst this
   have hn:news=[]:=ee
   subst hn
   obtain ⟨i,z,hi,hz,hby,hzs,hsz⟩:=eF he
   refine ⟨μ,.slice a 0 0,w,?_,Mu.le_refl _,fun _ _=>rfl,hI.KP hn t false,.cB _ _ _ a⟩
   rw [←hsz] at hsrc
   have hlen:=hsrc.len w
   have hcells:=hsrc.cells
   simp only [List.length_nil] at hcells hlen
   cases a<;>simp [Builtin.append_,run_underlying ht,run_underlying htx,sizeOf,typeInfo,hi,hlen,hcells,storeCells]
  ·have hf:(Builtin.firstCells t.sz 0 (.slice a 0 0)).run P w.drew = .ok ([]:List Value).toArray w.drew:=by
    cases a with
    |none=>exact run_firstCells_none _ _ _ _ _
    |some a=>exact run_firstCells_some _ _ _ _ _ _ [] (by simp) (fun j u h=>by simp at h)
   obtain ⟨μ',y,w',r1,r2,r0,r3,r4⟩:=wg (ty:=ty) hI hn ht htx he (n:=0) (xs:=[]) (ys:=ys) rfl rfl hf hsrc ee (by omega) (by omega)
   exact ⟨μ',y,w',r1,r2,r0,r3,by simpa using r4⟩
 simp only [bT] at aj
 split at aj<;>try (cases aj;done)
 ·rename_i hse
  rw [hse] at hs
  split at aj<;>try (cases aj;done)
  rename_i t DN
  split at aj<;>try (cases aj;done)
  rename_i hk
  split at aj<;>try (cases aj;done)
  rename_i ys hy
  cases aj
  cases hs with
  |bG a =>
   have lp:ys.length<cM:=by simpa using cL _ (List.mem_singleton.2 rfl)
   exact empty a H.bl (fun _ _ h=>h) hk hy lp
 ·rename_i id t lo n hse
  rw [hse] at hs
  split at aj<;>try (cases aj;done)
  rename_i hk
  split at aj<;>try (cases aj;done)
  rename_i t' xs hb
  split at aj<;>try (cases aj;done)
  rename_i e1;subst e1
  split at aj<;>try (cases aj;done)
  rename_i xs' hc
  split at aj<;>try (cases aj;done)
  rename_i ys hy
  cases aj
  obtain ⟨e1,hz⟩:=dI hc
  subst hz
  have lp:n+ys.length<cM:=by simpa using cL _ (List.mem_singleton.2 rfl)
  have hdel:∀i B,av i (aZ id H.bl)=some B→av i H.bl=some B:=fun i B hB=>by rw [aU] at hB;split at hB<;>simp_all
  simp only [bn]
  cases hs with
  |cB _ _ _ a =>
   have:=empty a _ hdel hk hy (by omega)
   simpa using this
  |sl _ _ _ _ cap L hm h1 h2 h3 =>
   rcases h.live _ _ hb with ⟨_,hn⟩|⟨L',vs,hM,hR,hl⟩
   ·rw [hn] at hm;cases hm
   ·rw [hM.mu] at hm; cases hm
    subst hk
    obtain ⟨news,hsrc,ee⟩:=sK h htx hy hx
    have hlen:((xs'.drop lo).take n).length=n:=by simp;omega
    have holds:=(hR.drop (fun _ _=>af.length) lo).take (fun _ _=>af.length) n
    have Hy:=holds.length (fun _ _=>af.length)
    rw [hlen] at Hy
    have hrg:w.rangeAt L.b (L.ba+lo * t'.sz) ((vs.drop (lo * t'.sz)).take (n * t'.sz)):=dD hM.rangeAt _ _
    by_cases hroom:n+ys.length≤cap
    ·obtain ⟨i, z, hi, hz, hby, hzs, hsz⟩ := eF he
     have yT:=ee.length (fun _ _=>af.length)
     have hone:=ee.one (fun _ _=>af.one)
     have afG:L.ba+lo * t'.sz+n * t'.sz+news.length≤L.tot:=by
      rw [yT]
      have:lo * t'.sz+n * t'.sz+ys.length * t'.sz≤(lo+cap) * t'.sz:=by
       rw [←Nat.add_mul,←Nat.add_mul];exact Nat.mul_le_mul_right _ (by omega)
      omega
     have hth:w.there L.b (L.ba+lo * t'.sz+n * t'.sz) news.length:=hM.there (by omega) afG
     rw [←hsz] at hsrc
     have hr := run_append_room_src w tt tx ty e i ht hi L.b (L.ba + lo * t'.sz) n cap x ys.length news hsrc hroom
      (fun j hj=>by rw [hsz];exact (hth j hj).1) (fun j hj=>by rw [hsz];exact (hth j hj).2)
     rw [hsz] at hr
     let L2:Loc:=⟨L.b,L.ba+lo * t'.sz,L.tot,n+ys.length⟩
     have hle:=Mu.eY (L:=L2) hn
     have fh:μ.set aC L2 aC=some L2:=by simp [Mu.set]
     refine ⟨_, _, _, hr, hle, Mu.sI, h.move hn (L' := L2) hb hM.mu rfl (hM.pG rfl) (cW _ _ _ _).1 (cW _ _ _ _).2.1 (cW _ _ _ _).2.2.1 (cW _ _ _ _).2.2.2 (size_setCells _ _ _ _)
      (fun k hk=>gO _ _ _ _ _ hk) (jJ _ _ _ _ _) (.inr ⟨L2,(vs.drop (lo * t'.sz)).take (n * t'.sz)++news,?_,?_,?_⟩),?_⟩
     ·-- the memory: the old cells from 'lo' on, the new ones behind them
      obtain ⟨c,ec,hc1,hc2,hc3⟩:=hM.row
      have dW:=fun (j:Nat) (hj:j<news.length)=>World.cell?_setCells_in L.b news (L.ba+lo * t'.sz+n * t'.sz) w (fun j hj=>(hth j hj).1) j hj
      have hout:=fun (a:Addr) h=>World.cell?_setCells_out L.b news (L.ba+lo * t'.sz+n * t'.sz) w a h
      have hrow:∃c':Array Value,(w.setCells L.b (L.ba+lo * t'.sz+n * t'.sz) news).heap[L.b]?=some (.cells c' ec (0,0))∧c'.size=c.size:=by
       have key:∀(us:List Value) (o:Nat) (w:World) (c:Array Value),w.heap[L.b]?=some (.cells c ec (0,0))→∃c':Array Value,(w.setCells L.b o us).heap[L.b]?=some (.cells c' ec (0,0))∧c'.size=c.size:=by
        intro us
        induction us with
        |nil=>intro o w c hc;exact ⟨c,hc,rfl⟩
        |cons u us ih =>
         intro o w c hc
         obtain ⟨c',e1,e2⟩:=ih (o+1) (w.setCell ⟨L.b,o,none⟩ u) (c.setIfInBounds o u) (by simp [World.setCell,Array.getElem?_modify,hc])
         exact ⟨c',e1,by simpa using e2⟩
       exact key _ _ _ _ hc1
      obtain ⟨c',hc4,hc5⟩:=hrow
      refine ⟨fh,hM.old,⟨c',ec,hc4,by rw [hc5];exact hc2,fun j v hv=>?_⟩,by simp only [L2,List.length_append,Hy];omega,?_,(fun e=>by cases e),fun _=>hM.pG rfl⟩
      ·have hcell:(w.setCells L.b (L.ba+lo * t'.sz+n * t'.sz) news).cell? ⟨L.b,L.ba+lo * t'.sz+j,none⟩=some v:=by
        by_cases hj:j<n * t'.sz
        ·rw [List.getElem?_append_left (by omega)] at hv
         rw [hout _ (fun _ _=>.inl (by show L.ba+lo * t'.sz+j<_;omega))]
         exact hrg j v hv
        ·rw [List.getElem?_append_right (by omega), Hy] at hv
         have hj2:=(List.getElem?_eq_some_iff.1 hv).1
         have:=dW (j - n * t'.sz) hj2
         rw [show L.ba+lo * t'.sz+n * t'.sz+(j - n * t'.sz)=L.ba+lo * t'.sz+j by omega] at this
         rw [this,←hv,List.getElem?_eq_getElem hj2]
       simp [World.cell?,hc4] at hcell
       exact hcell
      ·intro v hv
       rcases List.mem_append.1 hv with hv|hv
       ·exact hM.one v (List.mem_of_mem_drop (List.mem_of_mem_take hv))
       ·exact hone v hv
     ·exact holds.append ee
     ·simp only [L2,List.length_append,hlen]
     ·have := Rel.sl (ι := ι) (μ := μ.set aC L2) aC t' 0 (n + ys.length) cap L2 fh hroom (by simp only [L2, Nat.zero_add]; have : (lo + cap) * t'.sz = lo * t'.sz + cap * t'.sz := Nat.add_mul _ _ _; omega) (by simp [L2])
      simpa [L2] using this
    ·have hf:(Builtin.firstCells t'.sz n (.slice (some ⟨L.b,L.ba+lo * t'.sz,none⟩) n cap)).run P w.drew = .ok ((vs.drop (lo * t'.sz)).take (n * t'.sz)).toArray w.drew :=
      run_firstCells_some _ _ _ _ _ _ _ Hy (fun j u hu=>by rw [Addr.add_mid,World.cell?_drew];exact hrg j u hu)
     exact wg (ty:=ty) (h.sub hdel) hn ht htx he hlen holds hf hsrc ee (by omega) lp
end
end Go.AM
end
section
namespace Go.AM
section
variable {P : Program} {Y : Ctx} {ι ι' : au} {μ μ' : Mu} {H : aH} {w w' : World}
 {c1:Nat→List V→aH→(V→aH→Prop)→Prop} {c2:Nat→List V→V→Prop} {c3:C→St→(Ex→St→Prop)→Prop}
 {c4:Nat→List V→aH→(V→aH→Prop)→Prop} {c5:O→List Nat→C→C→St→(Ex→St→Prop)→Prop} {c6:C→St→(Ex→St→Prop)→Prop}
theorem kG {v:V} {b:Bool} {x:Value} (h:M8 v=some b) (hr:Rel ι μ v x):x = .bool b:=by
 cases v<;>simp [M8] at h<;>(subst h;cases hr;rfl)
theorem cA (op:BinOp) (t:TypeId) (x y:Operand) {a b:Value} (h:a ≠ .nilIface) (ha:∀cs,a ≠ .agg cs):(eqGuard op t x y a b).run P w = .ok () w:=by
 cases op<;>try rfl
 all_goals cases a<;>first|rfl|exact absurd rfl h|exact absurd rfl (ha _)
theorem Vf (a b:ByteArray):yY (gr a++gr b)=a++b:=by
 have key:∀l:List UInt8,(l.map fun b=>(b.toNat:Int)).map (fun z=>UInt8.ofNat z.toNat)=l:=by
  intro l
  rw [List.map_map]
  conv=>rhs;rw [←List.map_id l]
  exact List.map_congr_left fun b _=>by simp
 apply ByteArray.ext
 simp only [yY,gr,List.map_append,key,ByteArray.data_append]
 rw [←List.append_toArray]
theorem zV {op : BinOp} {bo : yV} (hb : vM op = some bo) {t : TypeId} {xo yo : Operand} {v1 v2 : V} {a b : Value} (h1 : Rel ι μ v1 a) (h2 : Rel ι μ v2 b) {x y : O} {env : List (Nat × V)}
  (hx:x.ev env=v1) (hy:y.ev env=v2) {bl:aq} {n:Nat} {ob:List Bool} {v:V} {u:dZ} (aj:bT (aV c1 c2 c3 c4 c5 c6) (.bin bo x y) env bl n=some (ob,v,u)) (cL:nC ob) :
  u=[]∧∃z,(do eqGuard op t xo yo a b;binOp op t a b:Sem Value).run P w = .ok z w∧Rel ι μ v z:=by
 simp only [bT,hx,hy] at aj
 split at aj
 ·rename_i k m k' m' 
  cases h1;cases h2
  have hg:=cA (P:=P) (w:=w) op t xo yo (a:=.int k m) (b:=.int k' m') (by simp) (by simp)
  split at aj
  ·cases op <;> simp [vM] at hb
   simp only [zN] at aj
   cases aj
   have e1:=cL _ (List.mem_cons_self)
   have e2:=cL _ (List.mem_cons_of_mem _ (List.mem_cons_self))
   simp at e1
   refine ⟨rfl,.int k (m * 2 ^ m'.toNat),?_,.int _ _⟩
   have hw:=jH e2
   simp [hg,binOp,Op.shift,show ¬m'<0 by omega,Nat.min_eq_left (show m'.toNat≤k.bits by omega),hw]
  ·cases op <;> simp [vM] at hb
   simp only [zN] at aj
   cases aj
   have e1:=cL _ (List.mem_cons_self)
   simp at e1
   refine ⟨rfl,.int k (m.fdiv (2 ^ m'.toNat)),?_,.int _ _⟩
   simp [hg,binOp,Op.shift,show ¬m'<0 by omega,Nat.min_eq_left (show m'.toNat≤k.bits by omega)]
  ·split at aj <;> try (cases aj; done)
   rename_i hk;subst hk
   cases op<;>cases hb<;>simp only [HL] at aj<;>first|(cases aj;done)|skip
   all_goals first|cases aj|(split at aj<;>cases aj)
   all_goals
    refine ⟨rfl,?_⟩
    first
     |(refine ⟨_,?_,.bool _⟩;simp [hg,binOp,Op.intCmp];done)
     |(refine ⟨_,?_,.bool _⟩;simp [hg,binOp,Op.intCmp,bne];done)
     |(refine ⟨_,?_,.int _ _⟩;simp [hg,binOp,Op.intBits];done)
     |(refine ⟨_,?_,.int _ _⟩;simp [hg,binOp,Op.intArith];done)
     |(refine ⟨_,?_,.int _ _⟩;have e1:=jH (cL _ (List.mem_singleton.2 rfl));simp [hg,binOp,Op.intArith,e1];done)
     |(refine ⟨_,?_,.int _ _⟩;have e1:=cL _ (List.mem_cons_self);have e2:=jH (cL _ (List.mem_cons_of_mem _ (List.mem_cons_self)));simp at e1;simp [hg,binOp,Op.intDiv,e1,e2];done)
     |(refine ⟨_,?_,.int _ _⟩;have e1:=cL _ (List.mem_cons_self);simp at e1;simp [hg,binOp,Op.intDiv,e1];done)
 ·rename_i s1 s2
  cases h1;cases h2
  have hg:=cA (P:=P) (w:=w) op t xo yo (a:=.string s1) (b:=.string s2) (by simp) (by simp)
  cases op<;>cases hb<;>simp only [HM] at aj<;>first|(cases aj;done)|skip
  all_goals
   cases aj
   refine ⟨rfl,?_⟩
  case h_2.str.str.add.refl.refl =>
   refine ⟨_,?_,.str _⟩
   show _=Result.ok (Value.string (yY (gr s1++gr s2))) w
   have hz:=cL _ (List.mem_singleton.2 rfl)
   have h2:((s1.size:Int)+(s2.size:Int))≤9223372036854775807:=by
    have e2:IntKind.i64.max=9223372036854775807:=by decide
    have pV:(IntKind.i64.min≤((s1.size:Int)+(s2.size:Int))∧((s1.size:Int)+(s2.size:Int))≤IntKind.i64.max):=by simpa [aV] using hz
    rw [e2] at pV;exact pV.2
   rw [Vf]
   simp [hg,binOp,Op.stringOp]
   exact h2
  all_goals
   have hor:(if Op.bytesLess s1.toList s2.toList=true then true else s1.toList==s2.toList)=(Op.bytesLess s1.toList s2.toList||s1.toList==s2.toList):=by
    cases Op.bytesLess s1.toList s2.toList<;>simp
   try rw [hor]
   refine ⟨_,?_,.bool _⟩
   simp [hg,binOp,Op.stringOp]
 ·cases aj
theorem cZ {k:Kd} {ks:List Kd} {as bs:List V} {c:Bool} (h:aK (aV c1 c2 c3 c4 c5 c6) (k::ks) as bs=some c):∃a as' b bs',as=a::as'∧bs=b::bs':=by
 cases as with
 |nil=>cases k<;>simp [aK] at h
 |cons a as =>
  cases bs with
  |nil=>cases k<;>cases a<;>simp [aK] at h
  |cons b bs=>exact ⟨a,as,b,bs,rfl,rfl⟩
theorem iz {d:Nat} {xs ys:Array Value}:∀{fs:List Field} {n:Nat} {ks:List Kd} {as bs:List V} {c:Bool},tQ P n fs=some ks→aI ι μ as (xs.toList.drop n)→aI ι μ bs (ys.toList.drop n) →
  aK (aV c1 c2 c3 c4 c5 c6) ks as bs=some c→(Op.eqFields (d+1) xs ys fs).run P w = .ok c w
 |[],n,ks,as,bs,c,hf,ha,hb,h=>by
  cases hf
  cases as<;>cases bs<;>simp [aK] at h
  subst h;rfl
 |f::r,n,ks,as,bs,c,hf,ha,hb,h=>by
  unfold tQ at hf
  split at hf<;>try (cases hf;done)
  rename_i hn
  obtain ⟨hname,hoff⟩:=hn
  have step:∀{x y:Value} {xs' ys':List Value} {b rest:Bool} {Vg:TypeDesc},P.underlying f.type=some Vg→(match Vg with | .struct _=>false | .array _ _=>false|_=>true)=true→xs.toList.drop n=x::xs'→ys.toList.drop n=y::ys' →
    (Op.equalIn (d+1) f.type x y).run P w = .ok b w→(Op.eqFields (d+1) xs ys r).run P w = .ok rest w→(Op.eqFields (d+1) xs ys (f::r)).run P w = .ok (b&&rest) w:=by
   intro x y xs' ys' b rest Vg hu hd hx hy he hr
   have hagg:(isAgg f.type).run P w = .ok false w:=by
    unfold isAgg
    rw [Sem.run_bind,run_underlying hu w]
    cases Vg<;>simp_all
   have hx0:xs[n]?=some x:=by
    have:(xs.toList.drop n)[0]?=some x:=by rw [hx];rfl
    simpa using this
   have hy0:ys[n]?=some y:=by
    have:(ys.toList.drop n)[0]?=some y:=by rw [hy];rfl
    simpa using this
   have p1:(part f.type xs f.offset).run P w = .ok x w:=by simp [part,hagg,hoff,hx0]
   have p2:(part f.type ys f.offset).run P w = .ok y w:=by simp [part,hagg,hoff,hy0]
   simp only [Op.eqFields,if_pos hname,Sem.run_bind,p1,p2,Result.andThen_ok,he]
   cases b<;>simp [hr]
  split at hf<;>try (cases hf;done)
  all_goals
   rename_i ks' hu hks
   cases hf
   obtain ⟨a,as',b,bs',e1,e2⟩:=cZ h
   subst e1;subst e2
   obtain ⟨x,xs',hx,ha1,ha2⟩:=ha.bq
   obtain ⟨y,ys',hy,iA,eB⟩:=hb.bq
   have Qn:aI ι μ as' (xs.toList.drop (n+1)):=by rw [←List.drop_drop (i:=1),hx];exact ha2
   have Dk:aI ι μ bs' (ys.toList.drop (n+1)):=by rw [←List.drop_drop (i:=1),hy];exact eB
  ·simp only [aK] at h
   split at h<;>try (cases h;done)
   rename_i p q hp hq
   split at h<;>try (cases h;done)
   rename_i rest gJ
   cases h
   rw [kG hp ha1] at hx
   rw [kG hq iA] at hy
   exact step hu rfl hx hy (run_equalIn_bool' w d f.type p q hu) (iz hks Qn Dk gJ)
  ·cases a <;> cases b <;> simp only [aK] at h <;> try (cases h; done)
   split at h<;>try (cases h;done)
   rename_i hkk;subst hkk
   split at h<;>try (cases h;done)
   rename_i rest gJ
   cases h
   cases ha1;cases iA
   exact step hu rfl hx hy (run_equalIn_int w d f.type _ _ _ _ hu) (iz hks Qn Dk gJ)
  ·cases a <;> cases b <;> simp only [aK] at h <;> try (cases h; done)
   split at h<;>try (cases h;done)
   rename_i rest gJ
   cases h
   cases ha1;cases iA
   exact step hu rfl hx hy (run_equalIn_string w d f.type _ _ hu) (iz hks Qn Dk gJ)
theorem eG:∀{ks ls:List Kd} {as bs:List V} {c:Bool},aK (aV c1 c2 c3 c4 c5 c6) (ks++ls) as bs=some c →
  ∃a b,aK (aV c1 c2 c3 c4 c5 c6) ks (as.take ks.length) (bs.take ks.length)=some a∧aK (aV c1 c2 c3 c4 c5 c6) ls (as.drop ks.length) (bs.drop ks.length)=some b∧c=(a&&b)
 |[],ls,as,bs,c,h=>⟨true,c,by simp [aK],by simpa using h,rfl⟩
 |k::ks,ls,as,bs,c,h=>by
  obtain ⟨a,as',b,bs',rfl,rfl⟩:=cZ h
  rw [List.cons_append] at h
  simp only [List.length_cons,List.take_succ_cons,List.drop_succ_cons]
  cases k
  ·simp only [aK] at h
   split at h<;>try (cases h;done)
   rename_i p q hp hq
   split at h<;>try (cases h;done)
   rename_i rest hr
   cases h
   obtain ⟨x,y,h1,h2,h3⟩:=eG hr
   refine ⟨_,y,by simp only [aK,hp,hq,h1];rfl,h2,?_⟩
   subst h3;simp [aV,Bool.and_assoc]
  ·cases a <;> cases b <;> simp only [aK] at h <;> try (cases h; done)
   split at h<;>try (cases h;done)
   rename_i hk
   split at h<;>try (cases h;done)
   rename_i rest hr
   cases h
   obtain ⟨x,y,h1,h2,h3⟩:=eG hr
   refine ⟨_,y,by simp only [aK,if_pos hk,h1];rfl,h2,?_⟩
   subst h3;simp [aV,Bool.and_assoc]
  ·cases a <;> cases b <;> simp only [aK] at h <;> try (cases h; done)
   split at h<;>try (cases h;done)
   rename_i rest hr
   cases h
   obtain ⟨x,y,h1,h2,h3⟩:=eG hr
   refine ⟨_,y,by simp only [aK,h1];rfl,h2,?_⟩
   subst h3;simp [aV,Bool.and_assoc]
theorem nE : ∀ {ks : List Kd} {as bs : List V} {c : Bool}, aK (aV c1 c2 c3 c4 c5 c6) ks as bs = some c → as.length = ks.length ∧ bs.length = ks.length
 |[],as,bs,c,h=>by cases as<;>cases bs<;>simp [aK] at h ⊢
 |k::ks,as,bs,c,h=>by
  obtain ⟨a,as',b,bs',rfl,rfl⟩:=cZ h
  have:∃d,aK (aV c1 c2 c3 c4 c5 c6) ks as' bs'=some d:=by
   cases k
   all_goals
    cases a<;>cases b<;>simp only [aK] at h<;>repeat (first|(cases h;done)|(split at h))
   all_goals (first|(exact ⟨_,by assumption⟩)|(cases h;done))
  obtain ⟨d,hd⟩:=this
  have:=nE hd
  simp [this.1,this.2]
theorem qS {d:Nat} {k':IntKind} {e:TypeId} {xs ys:Array Value} (he:P.underlying e=some (.int k')):∀{m n:Nat} {as bs:List V} {c:Bool},aI ι μ as (xs.toList.drop n)→aI ι μ bs (ys.toList.drop n) →
  aK (aV c1 c2 c3 c4 c5 c6) (List.replicate m .i) as bs=some c→(Op.eqItems (d+1) e 1 xs ys (List.range' n m)).run P w = .ok c w
 |0,n,as,bs,c,ha,hb,h=>by
  cases as<;>cases bs<;>simp [aK] at h
  subst h;rfl
 |m+1,n,as,bs,c,ha,hb,h=>by
  rw [List.replicate_succ] at h
  obtain ⟨a,as',b,bs',e1,e2⟩:=cZ h
  subst e1;subst e2
  obtain ⟨x,xs',hx,ha1,ha2⟩:=ha.bq
  obtain ⟨y,ys',hy,iA,eB⟩:=hb.bq
  have Qn:aI ι μ as' (xs.toList.drop (n+1)):=by rw [←List.drop_drop (i:=1),hx];exact ha2
  have Dk:aI ι μ bs' (ys.toList.drop (n+1)):=by rw [←List.drop_drop (i:=1),hy];exact eB
  cases a<;>cases b<;>simp only [aK] at h<;>try (cases h;done)
  split at h<;>try (cases h;done)
  rename_i hk
  split at h<;>try (cases h;done)
  rename_i rest gJ
  cases h
  cases ha1;cases iA
  have hagg:(isAgg e).run P w = .ok false w:=by
   unfold isAgg
   rw [Sem.run_bind,run_underlying he w]
   rfl
  have hx0:∀{zs:Array Value} {z:Value} {zs':List Value},zs.toList.drop n=z::zs'→zs[n]?=some z:=fun {zs z zs'} h=>by
   have:(zs.toList.drop n)[0]?=some z:=by rw [h];rfl
   simpa using this
  have p1:∀{zs:Array Value} {z:Value} {zs':List Value},zs.toList.drop n=z::zs'→(part e zs (n * 1)).run P w = .ok z w:=fun {zs z zs'} h=>by
   simp [part,hagg,hx0 h]
  rw [List.range'_succ]
  subst hk
  rename_i z1 z2 _
  have ih:=qS (d:=d) he Qn Dk gJ
  simp only [Op.eqItems,Sem.run_bind,p1 hx,p1 hy,Result.andThen_ok,run_equalIn_int w d e _ _ _ _ he]
  show _=Result.ok (z1==z2&&rest) w
  cases hz:(z1==z2)
  ·simp
  ·simpa using ih
theorem aad {d : Nat} {t : TypeId} {xs ys : Array Value} {ks : List Kd} {as bs : List V} {c : Bool} (ht : U5 P t = some ks) (ha : aI ι μ as xs.toList) (hb : aI ι μ bs ys.toList)
  (h:aK (aV c1 c2 c3 c4 c5 c6) ks as bs=some c):(Op.equalIn (d+2) t (.agg xs) (.agg ys)).run P w = .ok c w∧∃m e i,P.underlying t=some (.array m e)∧ks=List.replicate m .i∧P.info? t=some i∧P.cellsOf t=m:=by
 unfold U5 at ht
 split at ht<;>try (cases ht;done)
 rename_i m e hu
 split at ht<;>try (cases ht;done)
 rename_i k' he
 split at ht<;>try (cases ht;done)
 rename_i hc
 cases ht
 obtain ⟨h1,h2,h3,h4⟩:=hc
 obtain ⟨i,hi⟩:=Option.isSome_iff_exists.1 h2
 obtain ⟨i',hi'⟩:=Option.isSome_iff_exists.1 h3
 refine ⟨?_,m,e,i',hu,rfl,hi',h4⟩
 rw [run_equalIn_array w (d+1) xs ys hu hi,h1,List.range_eq_range']
 exact qS (d:=d) he (by simpa using ha) (by simpa using hb) h
theorem eP {d:Nat} {xs ys:Array Value}:∀{fs:List Field} {n:Nat} {ks:List Kd} {as bs:List V} {c:Bool},gN P n fs=some ks→aI ι μ as (xs.toList.drop n)→aI ι μ bs (ys.toList.drop n) →
  aK (aV c1 c2 c3 c4 c5 c6) ks as bs=some c→(Op.eqFields (d+2) xs ys fs).run P w = .ok c w
 |[],n,ks,as,bs,c,hf,ha,hb,h=>by
  cases hf
  cases as<;>cases bs<;>simp [aK] at h
  subst h;rfl
 |f::r,n,ks,as,bs,c,hf,ha,hb,h=>by
  unfold gN at hf
  split at hf<;>try (cases hf;done)
  rename_i hn
  obtain ⟨hname,hoff⟩:=hn
  have step:∀{x y:Value} {xs' ys':List Value} {b rest:Bool} {Vg:TypeDesc},P.underlying f.type=some Vg→(match Vg with | .struct _=>false | .array _ _=>false|_=>true)=true→xs.toList.drop n=x::xs'→ys.toList.drop n=y::ys' →
    (Op.equalIn (d+2) f.type x y).run P w = .ok b w→(Op.eqFields (d+2) xs ys r).run P w = .ok rest w→(Op.eqFields (d+2) xs ys (f::r)).run P w = .ok (b&&rest) w:=by
   intro x y xs' ys' b rest Vg hu hd hx hy he hr
   have hagg:(isAgg f.type).run P w = .ok false w:=by
    unfold isAgg
    rw [Sem.run_bind,run_underlying hu w]
    cases Vg<;>simp_all
   have hx0:xs[n]?=some x:=by
    have:(xs.toList.drop n)[0]?=some x:=by rw [hx];rfl
    simpa using this
   have hy0:ys[n]?=some y:=by
    have:(ys.toList.drop n)[0]?=some y:=by rw [hy];rfl
    simpa using this
   have p1:(part f.type xs f.offset).run P w = .ok x w:=by simp [part,hagg,hoff,hx0]
   have p2:(part f.type ys f.offset).run P w = .ok y w:=by simp [part,hagg,hoff,hy0]
   simp only [Op.eqFields,if_pos hname,Sem.run_bind,p1,p2,Result.andThen_ok,he]
   cases b<;>simp [hr]
  split at hf<;>try (cases hf;done)
  ·rename_i hu
   cases hks:gN P (n+1) r<;>rw [hks] at hf<;>simp only [Option.map_none,Option.map_some,Option.some.injEq] at hf
   ·cases hf
   rename_i ks'
   subst hf
   obtain ⟨a,as',b,bs',e1,e2⟩:=cZ h
   subst e1;subst e2
   obtain ⟨x,xs',hx,ha1,ha2⟩:=ha.bq
   obtain ⟨y,ys',hy,iA,eB⟩:=hb.bq
   have Qn:aI ι μ as' (xs.toList.drop (n+1)):=by rw [←List.drop_drop (i:=1),hx];exact ha2
   have Dk:aI ι μ bs' (ys.toList.drop (n+1)):=by rw [←List.drop_drop (i:=1),hy];exact eB
   simp only [aK] at h
   split at h<;>try (cases h;done)
   rename_i p q hp hq
   split at h<;>try (cases h;done)
   rename_i rest gJ
   cases h
   rw [kG hp ha1] at hx
   rw [kG hq iA] at hy
   exact step hu rfl hx hy (run_equalIn_bool' w (d+1) f.type p q hu) (eP hks Qn Dk gJ)
  ·rename_i hu
   cases hks:gN P (n+1) r<;>rw [hks] at hf<;>simp only [Option.map_none,Option.map_some,Option.some.injEq] at hf
   ·cases hf
   rename_i ks'
   subst hf
   obtain ⟨a,as',b,bs',e1,e2⟩:=cZ h
   subst e1;subst e2
   obtain ⟨x,xs',hx,ha1,ha2⟩:=ha.bq
   obtain ⟨y,ys',hy,iA,eB⟩:=hb.bq
   have Qn:aI ι μ as' (xs.toList.drop (n+1)):=by rw [←List.drop_drop (i:=1),hx];exact ha2
   have Dk:aI ι μ bs' (ys.toList.drop (n+1)):=by rw [←List.drop_drop (i:=1),hy];exact eB
   cases a<;>cases b<;>simp only [aK] at h<;>try (cases h;done)
   split at h<;>try (cases h;done)
   rename_i hkk;subst hkk
   split at h<;>try (cases h;done)
   rename_i rest gJ
   cases h
   cases ha1;cases iA
   exact step hu rfl hx hy (run_equalIn_int w (d+1) f.type _ _ _ _ hu) (eP hks Qn Dk gJ)
  ·rename_i hu
   cases hks:gN P (n+1) r<;>rw [hks] at hf<;>simp only [Option.map_none,Option.map_some,Option.some.injEq] at hf
   ·cases hf
   rename_i ks'
   subst hf
   obtain ⟨a,as',b,bs',e1,e2⟩:=cZ h
   subst e1;subst e2
   obtain ⟨x,xs',hx,ha1,ha2⟩:=ha.bq
   obtain ⟨y,ys',hy,iA,eB⟩:=hb.bq
   have Qn:aI ι μ as' (xs.toList.drop (n+1)):=by rw [←List.drop_drop (i:=1),hx];exact ha2
   have Dk:aI ι μ bs' (ys.toList.drop (n+1)):=by rw [←List.drop_drop (i:=1),hy];exact eB
   cases a<;>cases b<;>simp only [aK] at h<;>try (cases h;done)
   split at h<;>try (cases h;done)
   rename_i rest gJ
   cases h
   cases ha1;cases iA
   exact step hu rfl hx hy (run_equalIn_string w (d+1) f.type _ _ hu) (eP hks Qn Dk gJ)
  ·rename_i gs hu
   split at hf<;>try (cases hf;done)
   rename_i ls hls
   cases hks:gN P (n+ls.length) r<;>rw [hks] at hf<;>simp only [Option.map_none,Option.map_some,Option.some.injEq] at hf
   ·cases hf
   rename_i ks'
   subst hf
   obtain ⟨c1',c2',h1,h2,h3⟩:=eG h
   have hlen:=nE h1
   unfold Qb at hls
   rw [hu] at hls
   dsimp only at hls
   split at hls<;>try (cases hls;done)
   rename_i je
   split at hls<;>try (cases hls;done)
   rename_i ls' hfl
   split at hls<;>try (cases hls;done)
   rename_i hsz
   cases hls
   obtain ⟨i,hi⟩:=Option.isSome_iff_exists.1 je.2
   have hagg:(isAgg f.type).run P w = .ok true w:=by
    unfold isAgg
    rw [Sem.run_bind,run_underlying hu w]
    simp
   have hsize:(sizeOf f.type).run P w = .ok ls.length w:=by rw [←hsz];exact run_sizeOf w hi
   have p1:(part f.type xs f.offset).run P w = .ok (.agg (xs.extract n (n+ls.length))) w:=by
    simp only [part,Sem.run_bind,hagg,Result.andThen_ok,if_true,hsize,hoff];rfl
   have p2:(part f.type ys f.offset).run P w = .ok (.agg (ys.extract n (n+ls.length))) w:=by
    simp only [part,Sem.run_bind,hagg,Result.andThen_ok,if_true,hsize,hoff];rfl
   have hfo:P.fieldsOf f.type=gs:=by simp [Program.fieldsOf,hu]
   have ex:∀zs:Array Value,(zs.extract n (n+ls.length)).toList.drop 0=(zs.toList.drop n).take ls.length:=fun zs=>by
    rw [List.drop_zero,Array.toList_extract,List.extract_eq_take_drop];congr 1;omega
   have e0:=run_equalIn_struct (P:=P) w (d+1) f.type (xs.extract n (n+ls.length)) (ys.extract n (n+ls.length)) (by rw [hfo];exact hu) je.1
   rw [hfo] at e0
   have e1:(Op.eqFields (d+1) (xs.extract n (n+ls.length)) (ys.extract n (n+ls.length)) gs.toList).run P w = .ok c1' w:=iz (d:=d) (xs:=xs.extract n (n+ls.length)) (ys:=ys.extract n (n+ls.length)) hfl (by rw [ex];exact ha.take _) (by rw [ex];exact hb.take _) h1
   have e2:(Op.eqFields (d+2) xs ys r).run P w = .ok c2' w:=eP (d:=d) (xs:=xs) (ys:=ys) hks (by rw [←List.drop_drop];exact ha.drop _) (by rw [←List.drop_drop];exact hb.drop _) h2
   have e3:=e0.trans e1
   subst h3
   simp only [Op.eqFields,if_pos hname,Sem.run_bind,p1,p2,Result.andThen_ok,e3]
   cases c1'<;>simp [e2]
  ·rename_i hu
   split at hf<;>try (cases hf;done)
   rename_i ls hls
   cases hks:gN P (n+ls.length) r<;>rw [hks] at hf<;>simp only [Option.map_none,Option.map_some,Option.some.injEq] at hf
   ·cases hf
   rename_i ks'
   subst hf
   obtain ⟨c1',c2',h1,h2,h3⟩:=eG h
   have hlen:=nE h1
   have hagg:(isAgg f.type).run P w = .ok true w:=by
    unfold isAgg
    rw [Sem.run_bind,run_underlying hu w]
    simp
   have ex:∀zs:Array Value,(zs.extract n (n+ls.length)).toList=(zs.toList.drop n).take ls.length:=fun zs=>by
    rw [Array.toList_extract,List.extract_eq_take_drop];congr 1;omega
   obtain ⟨e1,m,e,i,-,hm,hi,hsz⟩:=aad (d:=d) (w:=w) (xs:=xs.extract n (n+ls.length)) (ys:=ys.extract n (n+ls.length)) hls (by rw [ex];exact ha.take _) (by rw [ex];exact hb.take _) h1
   have hsl:P.cellsOf f.type=ls.length:=by rw [hm,List.length_replicate];exact hsz
   have hsize:(sizeOf f.type).run P w = .ok ls.length w:=by rw [←hsl];exact run_sizeOf w hi
   have p1:(part f.type xs f.offset).run P w = .ok (.agg (xs.extract n (n+ls.length))) w:=by
    simp only [part,Sem.run_bind,hagg,Result.andThen_ok,if_true,hsize,hoff];rfl
   have p2:(part f.type ys f.offset).run P w = .ok (.agg (ys.extract n (n+ls.length))) w:=by
    simp only [part,Sem.run_bind,hagg,Result.andThen_ok,if_true,hsize,hoff];rfl
   have e2:(Op.eqFields (d+2) xs ys r).run P w = .ok c2' w:=eP (d:=d) (xs:=xs) (ys:=ys) hks (by rw [←List.drop_drop];exact ha.drop _) (by rw [←List.drop_drop];exact hb.drop _) h2
   subst h3
   simp only [Op.eqFields,if_pos hname,Sem.run_bind,p1,p2,Result.andThen_ok,e1]
   cases c1'<;>simp [e2]
end
end Go.AM
end
section
namespace Go.AM
section
variable {P : Program} {Y : Ctx} {ι ι' : au} {μ μ' : Mu} {H : aH} {w w' : World}
 {c1:Nat→List V→aH→(V→aH→Prop)→Prop} {c2:Nat→List V→V→Prop} {c3:C→St→(Ex→St→Prop)→Prop}
 {c4:Nat→List V→aH→(V→aH→Prop)→Prop} {c5:O→List Nat→C→C→St→(Ex→St→Prop)→Prop} {c6:C→St→(Ex→St→Prop)→Prop}
theorem nF : ∀ {t t1 : Ty} {p : List Bool} (q : List Bool), t.qC p = some t1 → t.bw (p ++ q) = t.bw p + t1.bw q
 |t,t1,[],q,h=>by
  have:t=t1:=by cases t<;>(simp [Ty.qC] at h;exact h)
  subst this
  have h0:t.bw []=0:=by cases t<;>rfl
  simp [h0]
 | .prod a b,t1,false::p,q,h=>by simp only [Ty.qC] at h;simp only [List.cons_append,Ty.bw];exact nF q h
 | .prod a b,t1,true::p,q,h=>by simp only [Ty.qC] at h;simp only [List.cons_append,Ty.bw];rw [nF q h];omega
 | .unit,t1,b::p,q,h=>by cases b<;>simp [Ty.qC] at h
 | .bool,t1,b::p,q,h=>by cases b<;>simp [Ty.qC] at h
 | .str,t1,b::p,q,h=>by cases b<;>simp [Ty.qC] at h
 | .int k,t1,b::p,q,h=>by cases b<;>simp [Ty.qC] at h
 | .list k,t1,b::p,q,h=>by cases b<;>simp [Ty.qC] at h
 | .bZ _ _ _,t1,b::p,q,h=>by cases b<;>simp [Ty.qC] at h
theorem zW {off : Nat} {path : List Bool} {x : O} {env : List (Nat × V)} {bl : aq} {n : Nat} {ob : List Bool} {v : V} {u : dZ} {px : Value} (hx : Rel ι μ (x.ev env) px)
  (aj:bT (aV c1 c2 c3 c4 c5 c6) (.jl off path x) env bl n=some (ob,v,u)) (cL:nC ob):u=[]∧∃b o,px = .pointer (some ⟨b,o,none⟩)∧Rel ι μ v (.pointer (some ⟨b,o+off,none⟩)):=by
 simp only [bT] at aj
 split at aj<;>try (cases aj;done)
 ·rename_i id o di
  rw [di] at hx
  cases aj
  cases hx with
  |ptr _ _ L hL=>exact ⟨rfl,_,_,rfl,by rw [Nat.add_assoc];exact .ptr id (o+off) L hL⟩
 ·rename_i cs di
  rw [di] at hx
  split at aj<;>try (cases aj;done)
  rename_i hle
  cases aj
  cases hx with
  |eS _ b o g h1 h2 h3 =>
   refine ⟨rfl,_,_,rfl,.eS _ b (o+off) (fun i=>g (off+i)) (fun i hi=>?_) (fun i v hv=>?_) (fun i=>h3 _)⟩
   ·rw [Nat.add_assoc];exact h1 _ (by simp at hi;omega)
   ·exact h2 _ v (by simpa using hv)
 ·rename_i id t i p di
  rw [di] at hx
  split at aj<;>try (cases aj;done)
  rename_i t1 hat
  split at aj<;>try (cases aj;done)
  rename_i hoff
  split at aj<;>try (cases aj;done)
  cases aj
  cases hx with
  |ep _ _ _ _ L hL =>
   refine ⟨rfl,_,_,rfl,?_⟩
   have:=Rel.ep (ι:=ι) id t i (p++path) L hL
   rw [nF path hat,hoff,←Nat.add_assoc] at this
   exact this
 ·rename_i t y di
  rw [di] at hx
  split at aj<;>try (cases aj;done)
  rename_i hoff
  split at aj<;>try (cases aj;done)
  rename_i t2 z me
  cases aj
  cases hx with
  |ip _ _ b o us h1 h2 =>
   obtain ⟨g1,g2,_⟩:=qQ me h2
   rw [hoff] at g1
   exact ⟨rfl,_,_,rfl,.ip t2 z b (o+off) _ (h1.sub off t2.sz) g1⟩
 ·rename_i id t m di
  rw [di] at hx
  split at aj<;>try (cases aj;done)
  rename_i hoff
  cases aj
  cases hx with
  |pa _ _ _ L hL hm =>
   refine ⟨rfl,_,_,rfl,?_⟩
   have:=Rel.ep (ι:=ι) id t (off / t.sz) [] L hL
   have h0:t.bw []=0:=by cases t<;>rfl
   rw [h0,Nat.add_zero,hoff.1] at this
   exact this
 ·rename_i t xs di
  rw [di] at hx
  split at aj<;>try (cases aj;done)
  rename_i hoff
  cases aj
  have hi:off / t.sz<xs.length:=by simpa using cL _ (List.mem_singleton.2 rfl)
  cases hx with
  |kC _ _ b o us h1 h2 =>
   have HT:xs[off / t.sz]?=some (xs.getD (off / t.sz) t.zero):=by simp [List.getD,hi]
   have hc:=h2.at (fun _ _=>af.length) HT
   rw [hoff] at hc
   exact ⟨rfl,_,_,rfl,.ip t _ b (o+off) _ (h1.sub off t.sz) hc⟩
 ·rename_i id o l di
  rw [di] at hx
  cases aj
  cases hx with
  |sp _ _ _ L hL hb =>
   refine ⟨rfl,_,_,rfl,?_⟩
   have:=Rel.sp (ι:=ι) id (o+off) l L hL hb
   have e:L.ba+(o+off+lD l)=L.ba+(o+lD l)+off:=by omega
   rwa [e] at this
theorem Nb {ej : Nat} {x i : O} {env : List (Nat × V)} {bl : aq} {n : Nat} {ob : List Bool} {v : V} {u : dZ} {px iv : Value} (hx : Rel ι μ (x.ev env) px) (hi : Rel ι μ (i.ev env) iv)
  (aj:bT (aV c1 c2 c3 c4 c5 c6) (.idx ej x i) env bl n=some (ob,v,u)) (cL:nC ob) :
  u=[]∧∃k m b o len cap,iv = .int k m∧px = .slice (some ⟨b,o,none⟩) len cap∧0≤m∧m<len∧Rel ι μ v (.pointer (some ⟨b,o+m.toNat * ej,none⟩)):=by
 simp only [bT] at aj
 split at aj<;>try (cases aj;done)
 rename_i k m hie
 rw [hie] at hi
 cases hi
 split at aj<;>try (cases aj;done)
 ·rename_i id t lo len di
  rw [di] at hx
  split at aj<;>try (cases aj;done)
  rename_i hsz
  cases aj
  have hb:=cL _ (List.mem_singleton.2 rfl)
  simp only [decide_eq_true_eq] at hb
  have iA:m<(len:Int):=hb.2
  cases hx with
  |cB=>omega
  |sl _ _ _ _ cap L hL h1 h2 h3 =>
   refine ⟨rfl,k,m,_,_,_,_,rfl,rfl,hb.1,iA,?_⟩
   have:=Rel.ep (ι:=ι) id t (lo+m.toNat) [] L hL
   have h0:t.bw []=0:=by cases t<;>rfl
   rw [h0,Nat.add_mul,Nat.add_zero,←Nat.add_assoc,hsz] at this
   rw [hsz];exact this
 ·rename_i t xs di
  rw [di] at hx
  split at aj<;>try (cases aj;done)
  rename_i hsz
  cases aj
  have hb:=cL _ (List.mem_singleton.2 rfl)
  simp only [decide_eq_true_eq] at hb
  have iA:m<(xs.length:Int):=hb.2
  cases hx with
  |ez _ _ _ hd =>
   obtain ⟨a,cap,e,hle,hd⟩:=hd
   cases e
   rcases hd with rfl|⟨b,o,us,rfl,hrd,hc⟩
   ·simp at iA;omega
   ·have HT : xs[m.toNat]? = some (xs.getD m.toNat t.zero) := by simp [List.getD, show m.toNat < xs.length by omega]
    have hcell:=hc.at (fun _ _=>af.length) HT
    refine ⟨rfl,k,m,_,_,_,_,rfl,rfl,hb.1,iA,?_⟩
    rw [←hsz]
    exact .ip t _ b _ _ (hrd.sub (m.toNat * t.sz) t.sz) hcell
theorem wh {k : IntKind} : ∀ {a z : Int} {vs : List V} {xs : List Value}, ic (aV c1 c2 c3 c4 c5 c6) true k a vs = some z → aI ι μ vs xs → (xs.foldlM Builtin.max2 (.int k a)).run P w = .ok (.int k z) w
 |a,z,[],xs,h,hr=>by cases h;rw [hr.of_nil];rfl
 |a,z,v::r,xs,h,hr=>by
  obtain ⟨x,xs',rfl,h1,h2⟩:=hr.bq
  cases v<;>simp only [ic] at h<;>try (cases h;done)
  split at h<;>try (cases h;done)
  rename_i hk;subst hk
  cases h1
  simp only [List.foldlM_cons,Builtin.max2,Sem.run_bind,Sem.run_pure,Result.andThen_ok]
  exact wh h h2
theorem wj {k : IntKind} : ∀ {a z : Int} {vs : List V} {xs : List Value}, ic (aV c1 c2 c3 c4 c5 c6) false k a vs = some z → aI ι μ vs xs → (xs.foldlM Builtin.min2 (.int k a)).run P w = .ok (.int k z) w
 |a,z,[],xs,h,hr=>by cases h;rw [hr.of_nil];rfl
 |a,z,v::r,xs,h,hr=>by
  obtain ⟨x,xs',rfl,h1,h2⟩:=hr.bq
  cases v<;>simp only [ic] at h<;>try (cases h;done)
  split at h<;>try (cases h;done)
  rename_i hk;subst hk
  cases h1
  simp only [List.foldlM_cons,Builtin.min2,Sem.run_bind,Sem.run_pure,Result.andThen_ok]
  exact wj h h2
theorem oK {t:Ty} {v:Value} (h:tP t v=true):af ι t t.zero [v]:=by
 unfold tP at h
 split at h<;>try (cases h;done)
 ·simp at h;subst h;rfl
 ·rename_i s
  have:s=ByteArray.empty:=ByteArray.size_eq_zero_iff.1 (by simpa using h)
  subst this;rfl
 ·simp at h;obtain ⟨rfl,rfl⟩:=h;rfl
 ·exact ⟨none,0,rfl,Nat.le_refl _,.inl rfl⟩
theorem fM : ∀ {t : Ty} {vs r : List Value}, dJ t vs = some r → ∃ us, vs = us ++ r ∧ af ι t t.zero us
 | .unit,vs,r,h=>by cases h;exact ⟨[],rfl,rfl⟩
 | .bool,vs,r,h=>by
  cases vs<;>simp [dJ] at h
  obtain ⟨h,rfl⟩:=h;exact ⟨[_],rfl,oK h⟩
 | .str,vs,r,h=>by
  cases vs<;>simp [dJ] at h
  obtain ⟨h,rfl⟩:=h;exact ⟨[_],rfl,oK h⟩
 | .int k,vs,r,h=>by
  cases vs<;>simp [dJ] at h
  obtain ⟨h,rfl⟩:=h;exact ⟨[_],rfl,oK h⟩
 | .list t,vs,r,h=>by
  cases vs<;>simp [dJ] at h
  obtain ⟨h,rfl⟩:=h;exact ⟨[_],rfl,oK h⟩
 | .prod a b,vs,r,h=>by
  simp only [dJ] at h
  split at h<;>try (cases h;done)
  rename_i r1 h1
  obtain ⟨us,rfl,hu⟩:=fM h1
  obtain ⟨ws,rfl,hw⟩:=fM h
  exact ⟨us++ws,by simp,us,ws,rfl,hu,hw⟩
 | .bZ _ _ _,vs,r,h=>by cases vs<;>simp [dJ] at h
end
end Go.AM
end
