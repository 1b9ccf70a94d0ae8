/- A small typed machine: its data, its values, its heap, its operations. Nothing here speaks of the model's runs. How the small machine's values and heap stand for the model's. The model's code, read as the small machine's. The small machine's code: what must hold for it to end well. The small machine's heap in the model's world. What is read and written, small machine and model. Data out of cells and into them. Each operation of the small machine is the model's: loads, stores, new blocks. Each operation of the small machine is the model's: literals, stores, append, make. Each operation of the small machine is the model's: append, make, slices. Each operation of the small machine is the model's: the plain ones; all of them. Each operation of the small machine is the model's: all of them. -/
import Derived.Deep.MidRow
import Derived.Deep.AppendSrc
import Derived.RangeFuncNested
import Derived.RangeFuncLeaves
import Derived.KernelRfl
import Derived.Laws.StructEq
import Derived.ChangeKeysEq
set_option linter.unusedSectionVars false
set_option linter.unusedVariables false
set_option linter.unusedSimpArgs false
section
namespace Go.AM
inductive Ty where
 |unit|bool|str|int (k:IntKind)|list (t:Ty)|prod (a b:Ty)|cu (d:Nat) (g:Bool) (a:Ty)
 deriving DecidableEq
@[reducible] def Ty.den : Ty → Type
 | .unit=>Unit
 | .bool=>Bool
 | .str=>ByteArray
 | .int _=>Int
 | .list t=>List t.den
 | .prod a b=>a.den×b.den
 | .cu _ _ a=>a.den
def Ty.sz : Ty → Nat
 | .unit=>0
 | .prod a b=>a.sz+b.sz
 | .bool=>1
 | .str=>1
 | .int _=>1
 | .list _=>1
 | .cu _ _ _=>1
def Ty.zero : (t : Ty) → t.den
 | .unit=>()
 | .bool=>false
 | .str=>ByteArray.empty
 | .int _=>(0:Int)
 | .list _=>[]
 | .prod a b=>(a.zero,b.zero)
 | .cu _ _ a=>a.zero
inductive V where
 |any
 |tf (b:Bool)
 |bool (b:Bool)
 |int (k:IntKind) (n:Int)
 |str (s:ByteArray)
 |eE
 |cG
 |ff
 |eO (t:Ty) (xs:List t.den)
 |bX
 |sl (id:Nat) (t:Ty) (lo n:Nat)
 |ptr (id off:Nat)
 |fu (cells:List V)
 |ep (id:Nat) (t:Ty) (i:Nat) (p:List Bool)
 |ip (t:Ty) (x:t.den)
 |fn (f:Nat) (first captured:List V)
 |yl (id:Nat)
 |agg (cs:List V)
 |cK (vs:List V)
 |cu (t:TypeId) (v:V)
 |cb (c:Bool)
 |mp (id:Nat)
 |cD
 |pa (id:Nat) (t:Ty) (n:Nat)
 |kV (t:Ty) (xs:List t.den)
 |sp (id o:Nat) (l:List (Nat×Nat×Int))
def V.cells? : V → Option (List V)
 | .agg cs=>some cs
 | .any=>none
 | .cK _=>none
 | .cb _=>none
 |v=>some [v]
def get (t : Nat) : List (Nat × V) → V
 |[]=>.any
 |(s,v)::r=>match Nat.beq s t with
  |true=>v
  |false=>get t r
inductive O where
 |t (n:Nat)
 |c (v:V)
 |m (n:Nat) (dz:List (Nat×Nat))
def LW (dz : List (Nat × Nat)) : V → V
 | .cu t v=>match dz.lookup t with
  |some f=>.fn f [v] []
  |none=>.any
 |_=>.any
def O.ev (x:O) (env:List (Nat×V)):V :=
 match x with
 | .t n=>get n env
 | .c v=>v
 | .m n dz=>LW dz (get n env)
inductive yJ where
 |add|sub|mul|quo|rem|and|or|xor|andNot|shl|shr|eql|neq|lss|leq|gtr|geq
 deriving DecidableEq
inductive gA where
 |vN
 |LX (len eL:Nat) (g:Bool)
 |bytes
 |text
 |clear (t:Ty)
 |LY (neg:Bool)
 |Fp (neg:Bool)
 |Fq (neg:Bool)
 |iQ
 |iR (kt:Ty) (kg:Bool) (vt:Ty) (vg:Bool)
 |gh (kt:Ty) (kg:Bool) (vt:Ty) (vg ok:Bool)
 |iw (kt:Ty) (kg:Bool) (vt:Ty) (vg:Bool)
 |QT
 |mkif (t:TypeId)
 |Fs (t:Ty) (n:Nat)
 |QU (t:Ty) (n:Nat)
 |capn
 |W0 (t:Ty)
 deriving DecidableEq
inductive Kd where
 |b|i|s
 deriving DecidableEq
inductive I where
 |mv (x:O)
 |pick (c a b:O)
 |alloc (z:List V)
 |box (x:O)
 |build (z:List V) (parts:List (Nat×Nat×O))
 |dS (t:Ty) (xs:List O)
 |load (agg:Bool) (k:Nat) (x:O)
 |store (k:Nat) (a x:O)
 |bin (op:yJ) (x y:O)
 |QV (neg:Bool) (x y:O)
 |eqs (neg:Bool) (ks:List Kd) (x y:O)
 |neg (x:O)
 |not (x:O)
 |conv (k:IntKind) (x:O)
 |mD (off:Nat) (path:List Bool) (x:O)
 |field (agg:Bool) (off k:Nat) (x:O)
 |idx (eL:Nat) (x i:O)
 |yK (len eL:Nat) (x i:O)
 |ext (k:Nat) (x:O)
 |len (x:O)
 |lens (x:O)
 |yL (n:Nat)
 |append (eL:Nat) (x y:O)
 |iM (t:Ty) (n:O)
 |AN (f:Nat) (first captured:List O)
 |slice (eL:Nat) (x:O) (lo hi mx:Option O)
 |lC (mx:Bool) (x:O) (ys:List O)
 |ex (e:gA) (xs:List O)
inductive eR where
 |op (dst:Option Nat) (g:Option (Nat×Bool)) (i:I)
 |call (dst:Option Nat) (g:Option (Nat×Bool)) (f:O) (args:List O) (tys:List (Option Ty))
inductive C where
 |skip
 |aV (items:List eR)
 |draw (cS:List (List Nat)) (items:List eR)
 |seq (a b:C)
 |cond (c:O) (a b:C)
 |block (id:Nat) (c:C)
 |loop (c:C)
 |exit (id:Nat)
 |ret
 |bH (f:O) (params:List Nat) (assign body:C)
 |gK (pre:List eR) (m:O) (it:Nat) (cl:List Nat) (e:Option Nat) (kt:Ty) (kg:Bool) (vt:Ty) (vg:Bool) (pH:Nat) (body:C)
inductive Ex where
 |normal
 |exit (id:Nat)
 |ret
inductive pY where
 |ready|busy|done|exhausted
 deriving DecidableEq
inductive kR where
 |cells (cs:List V) (fz:Bool)
 |arr (t:Ty) (xs:List t.den) (fz:Bool)
 |loop (st:pY) (jump:Option Ex) (d:Nat) (env:List (Nat×V)) (params:List Nat) (assign body:C) (N:Nat)
 |ig
 |map (kt:Ty) (kg:Bool) (vt:Ty) (vg:Bool) (es:List (kt.den×vt.den))
 |mw (t:Ty) (xs:List t.den) (i:Nat) (p:List Bool) (v:V)
abbrev aq:=List (Nat×kR)
def ay (id : Nat) : aq → Option kR
 |[]=>none
 |(s,b)::r=>match Nat.beq s id with
  |true=>some b
  |false=>ay id r
def bu (id : Nat) : aq → aq
 |[]=>[]
 |(s,b)::r=>match Nat.beq s id with
  |true=>bu id r
  |false=>(s,b)::bu id r
structure aG where
 next:Nat
 bl:aq
abbrev eF:=List (Nat×Option kR)
def bx : eF → aq → aq
 |[],bl=>bl
 |(id,none)::r,bl=>bx r (bu id bl)
 |(id,some b)::r,bl=>bx r ((id,b)::bu id bl)
structure St where
 env:List (Nat×V)
 H:aG
 ms:List Nat
structure Ar where
 add:Int→Int→Int
 sub:Int→Int→Int
 mul:Int→Int→Int
 quo:Int→Int→Int
 rem:Int→Int→Int
 bits:yJ→IntKind→Int→Int→Int
 shr:Int→Int→Int
 shl:Int→Int→Int
 W1:Int→Int→Int
 imax:Int→Int→Int
 eq:Int→Int→Bool
 lt:Int→Int→Bool
 le:Int→Int→Bool
 beq:Bool→Bool→Bool
 seq:ByteArray→ByteArray→Bool
 slt:ByteArray→ByteArray→Bool
 JW:ByteArray→Int
 QW:Bool→Bool→Bool
 sE:Bool→Bool
 Ft:Bool→Bool→Bool→Bool
 de:IntKind→Int→Bool
 bZ:Int→Int→Bool
 LC:Nat→Nat→Bool
 len:{α:Type}→List α→Nat
 get:{α:Type}→α→List α→Nat→α
 set:{α:Type}→List α→Nat→α→List α
 sub':{α:Type}→List α→Nat→Nat→List α
 app:{α:Type}→List α→List α→List α
 rep:{α:Type}→Nat→α→List α
 Fu:Nat→Nat→Nat
 LZ:Nat→Nat→Nat
 sF:Int→Nat
 sat:ByteArray→Nat→Int
 bys:ByteArray→List Int
 txt:List Int→ByteArray
 wr:IntKind→Int→Int
 clr:{α:Type}→α→List α→Nat→Nat→List α
 mhas:(t:Ty)→{β:Type}→List (t.den×β)→t.den→Bool
 gh:(t:Ty)→{β:Type}→β→List (t.den×β)→t.den→β
 iw:(t:Ty)→{β:Type}→List (t.den×β)→t.den→β→List (t.den×β)
 call:Nat→List V→aG→(V→aG→Prop)→Prop
 gO:Nat→List V→V→Prop
 loop:C→St→(Ex→St→Prop)→Prop
 round:Nat→List V→aG→(V→aG→Prop)→Prop
 bH:O→List Nat→C→C→St→(Ex→St→Prop)→Prop
 gK:C→St→(Ex→St→Prop)→Prop
def jR (t t':Ty) (xs:List t.den):Option (List t'.den):=if h:t=t' then some (h▸xs) else none
def dJ : (t : Ty) → t.den → t.den → Bool
 | .unit,_,_=>true
 | .bool,a,b=>a==b
 | .str,a,b=>a.data.toList==b.data.toList
 | .int _,a,b=>a==b
 | .list _,_,_=>false
 | .prod a b,x,y=>dJ a x.1 y.1&&dJ b x.2 y.2
 | .cu _ _ a,x,y=>dJ a x y
def aO (t:Ty) {β:Type} (es:List (t.den×β)) (k:t.den):Bool:=es.any fun e=>dJ t k e.1
def az (t : Ty) {β : Type} (d : β) : List (t.den × β) → t.den → β
 |[],_=>d
 |e::r,k=>if dJ t k e.1=true then e.2 else az t d r k
def eS : (t : Ty) → t.den → t.den → Bool
 | .unit,_,_=>false
 | .bool,a,b => !a&&b
 | .str,a,b=>Op.bytesLess a.toList b.toList
 | .int _,a,b=>decide (a<b)
 | .list _,_,_=>false
 | .prod a b,x,y=>eS a x.1 y.1||(dJ a x.1 y.1&&eS b x.2 y.2)
 | .cu _ _ a,x,y=>eS a x y
def pI (t : Ty) {β : Type} : List (t.den × β) → t.den → β → List (t.den × β)
 |[],k,v=>[(k,v)]
 |e::r,k,v=>if eS t k e.1=true then (k,v)::e::r else e::pI t r k v
def bg (t:Ty) {β:Type} (es:List (t.den×β)) (k:t.den) (v:β):List (t.den×β) :=
 if aO t es k=true then es.map (fun e=>if dJ t k e.1=true then (k,v) else e) else pI t es k v
def KD (t:Ty) {β:Type} (es:List (t.den×β)):Prop:=es.Pairwise fun a b=>dJ t a.1 b.1=false
def eU (s:ByteArray):List Int:=s.data.toList.map fun b=>(b.toNat:Int)
def sG (s:ByteArray) (n:Nat):Int:=(eU s).getD n 0
def CJ (ys:List Int):ByteArray:=⟨(ys.map fun z=>UInt8.ofNat z.toNat).toArray⟩
def AO {α:Type} (z:α) (xs:List α) (lo n:Nat):List α:=xs.take lo++List.replicate n z++xs.drop (lo+n)
def cz : (t : Ty) → t.den → List V
 | .unit,_=>[]
 | .bool,b=>[.bool b]
 | .str,s=>[.str s]
 | .int k,n=>[.int k n]
 | .list t,xs=>[.eO t xs]
 | .prod a b,x=>cz a x.1++cz b x.2
 | .cu d g t,x=>[.cu d (iS g (cz t x))]
where iS (g:Bool) (vs:List V):V:=match g with
 |true=>.agg vs
 |false=>match vs with
  |[v]=>v
  |_=>.any
def AP : Bool → V → Option (List V)
 |true,.agg cs=>some cs
 |true,_=>none
 |false,.agg _=>none
 |false,v=>v.cells?
def bt (ar : Ar) (bl : aq) : (t : Ty) → List V → Option (t.den × eF × List V)
 | .unit,vs=>some ((),[],vs)
 | .bool,.bool b::r=>some (b,[],r)
 | .bool,.tf b::r=>some (b,[],r)
 | .str,.str s::r=>some (s,[],r)
 | .int k,.int k' n::r=>if k=k' then some (n,[],r) else none
 | .list t,.eO t' xs::r=>match jR t' t xs with
  |some ys=>some (ys,[],r)
  |none=>none
 | .list _,.bX::r=>some ([],[],r)
 | .list t,.sl id t' lo n::r=>match ay id bl with
  |some (.arr t'' xs _) =>
   if t'=t'' then
    match jR t'' t xs with
    |some ys=>some (ar.sub' ys lo n,[(id,some (.arr t'' xs true))],r)
    |none=>none
   else none
  |_=>none
 | .prod a b,vs=>match bt ar bl a vs with
  |some (x,u,r)=>match bt ar bl b r with
   |some (y,u',r')=>some ((x,y),u++u',r')
   |none=>none
  |none=>none
 | .cu d g t,.cu d' v::r=>if d=d' then
   (match AP g v with
   |some cs=>match bt ar [] t cs with
    |some (x,[],[])=>some (x,[],r)
    |_=>none
   |none=>none) else none
 |_,_=>none
def pn : (t : Ty) → t.den → List Bool → Option (Σ t' : Ty, t'.den)
 |t,x,[]=>some ⟨t,x⟩
 | .prod a _,x,false::p=>pn a x.1 p
 | .prod _ b,x,true::p=>pn b x.2 p
 |_,_,_=>none
def Ty.qD : Ty → List Bool → Option Ty
 |t,[]=>some t
 | .prod a _,false::p=>a.qD p
 | .prod _ b,true::p=>b.qD p
 |_,_=>none
def Ty.bE : Ty → List Bool → Nat
 | .prod a _,false::p=>a.bE p
 | .prod a b,true::p=>a.sz+b.bE p
 |_,_=>0
def cM (ar : Ar) (bl : aq) : (t : Ty) → t.den → List Bool → List V → Option (t.den × eF)
 |t,_,[],vs=>match bt ar bl t vs with
  |some (y,u,[])=>some (y,u)
  |_=>none
 | .prod a _,x,false::p,vs=>match cM ar bl a x.1 p vs with
  |some (y,u)=>some ((y,x.2),u)
  |none=>none
 | .prod _ b,x,true::p,vs=>match cM ar bl b x.2 p vs with
  |some (y,u)=>some ((x.1,y),u)
  |none=>none
 |_,_,_,_=>none
def qG (ar : Ar) (bl : aq) (t : Ty) : List V → Option (List t.den × eF)
 |[]=>some ([],[])
 |v::r=>match v.cells? with
  |some vs=>match bt ar bl t vs with
   |some (x,u,[])=>match qG ar bl t r with
    |some (xs,u')=>some (x::xs,u++u')
    |none=>none
   |_=>none
  |none=>none
def cut (off k:Nat) (cs:List V):Option (List V) :=
 if off+k≤cs.length then some ((cs.drop off).take k) else none
def cn (agg:Bool) (cs:List V):Option V :=
 match agg,cs with
 |true,cs=>some (.agg cs)
 |false,[c]=>some c
 |false,_=>none
def qH : Nat → List V → List V → Option (List V)
 |0,vs,cs=>if vs.length≤cs.length then some (vs++cs.drop vs.length) else none
 |off+1,vs,c::cs=>match qH off vs cs with
  |some r=>some (c::r)
  |none=>none
 |_+1,_,[]=>none
def tU : List (Nat × Nat × O) → List (Nat × V) → List V → Option (List V)
 |[],_,cs=>some cs
 |(off,k,x)::r,env,cs =>
  match (x.ev env).cells? with
  |some vs=>if vs.length=k then (match qH off vs cs with
   |some cs'=>tU r env cs'
   |none=>none) else none
  |none=>none
def tV (id : Nat) : eF → Bool
 |[]=>true
 |(s,_)::r=>match Nat.beq s id with
  |true=>false
  |false=>tV id r
abbrev Out:=Option (List Bool×V×eF)
def Fv (ar:Ar) (op:yJ) (k:IntKind) (a b:Int):Out :=
 match op with
 | .add=>match ar.add a b with|z=>some ([ar.de k z],.int k z,[])
 | .sub=>match ar.sub a b with|z=>some ([ar.de k z],.int k z,[])
 | .mul=>match k.signed with
  |true=>match ar.mul a b with|z=>some ([ar.de k z],.int k z,[])
  |false=>some ([],.int k (ar.wr k (ar.mul a b)),[])
 | .quo=>match ar.quo a b with|z=>some ([ar.sE (ar.eq b 0),ar.de k z],.int k z,[])
 | .rem=>some ([ar.sE (ar.eq b 0)],.int k (ar.rem a b),[])
 | .and=>some ([],.int k (ar.bits .and k a b),[])
 | .or=>some ([],.int k (ar.bits .or k a b),[])
 | .xor=>some ([],.int k (ar.bits .xor k a b),[])
 | .andNot=>some ([],.int k (ar.bits .andNot k a b),[])
 | .shl=>none
 | .shr=>none
 | .eql=>some ([],.bool (ar.eq a b),[])
 | .neq=>some ([],.bool (ar.sE (ar.eq a b)),[])
 | .lss=>some ([],.bool (ar.lt a b),[])
 | .leq=>some ([],.bool (ar.le a b),[])
 | .gtr=>some ([],.bool (ar.lt b a),[])
 | .geq=>some ([],.bool (ar.le b a),[])
def Fw (ar:Ar) (op:yJ) (a b:ByteArray):Out :=
 match op with
 | .add=>match ar.add (ar.JW a) (ar.JW b) with|z=>some ([ar.de .i64 z],.str (ar.txt (ar.app (ar.bys a) (ar.bys b))),[])
 | .eql=>some ([],.bool (ar.seq a b),[])
 | .neq=>some ([],.bool (ar.sE (ar.seq a b)),[])
 | .lss=>some ([],.bool (ar.slt a b),[])
 | .leq=>some ([],.bool (ar.Ft (ar.slt a b) true (ar.seq a b)),[])
 | .gtr=>some ([],.bool (ar.sE (ar.Ft (ar.slt a b) true (ar.seq a b))),[])
 | .geq=>some ([],.bool (ar.sE (ar.slt a b)),[])
 |_=>none
def zm (ar:Ar) (op:yJ) (k:IntKind) (a b:Int):Out :=
 match op with
 | .shl=>match ar.shl a b with|z=>some ([ar.bZ b k.bits,ar.de k z],.int k z,[])
 | .shr=>some ([ar.bZ b k.bits],.int k (ar.shr a b),[])
 |_=>none
def JX : V → Option Bool
 | .bool b=>some b
 | .tf b=>some b
 |_=>none
def aK (ar : Ar) : List Kd → List V → List V → Option Bool
 |[],[],[]=>some true
 | .i::ks,.int k a::r,.int k' b::s=>if k=k' then (match aK ar ks r s with
  |some c=>some (ar.QW (ar.eq a b) c)
  |none=>none) else none
 | .s::ks,.str a::r,.str b::s=>match aK ar ks r s with
  |some c=>some (ar.QW (ar.seq a b) c)
  |none=>none
 | .b::ks,x::r,y::s=>match JX x,JX y with
  |some a,some b=>match aK ar ks r s with
   |some c=>some (ar.QW (ar.beq a b) c)
   |none=>none
  |_,_=>none
 |_,_,_=>none
def iN (ar : Ar) (mx : Bool) (k : IntKind) : Int → List V → Option Int
 |a,[]=>some a
 |a,.int k' b::r=>if k=k' then iN ar mx k (match mx with|true=>ar.imax a b|false=>ar.W1 a b) r else none
 |_,_=>none
def pZ : V → Option Int
 | .int _ n=>some n
 |_=>none
def cA (env : List (Nat × V)) (d : Int) : Option O → Option Int
 |none=>some d
 |some x=>pZ (x.ev env)
def elems (ar : Ar) (bl : aq) (t : Ty) : V → Option (List t.den)
 | .bX=>some []
 | .eO t' xs=>jR t' t xs
 | .sl id t' lo n=>match ay id bl with
  |some (.arr t'' xs _)=>if t'=t'' then (match jR t'' t xs with
   |some ys=>some (ar.sub' ys lo n)
   |none=>none) else none
  |_=>none
 |_=>none
def Fx : V → Option Ty
 | .eO t _=>some t
 | .sl _ t _ _=>some t
 |_=>none
def bI:Nat:=2 ^ 30
def lN (ar : Ar) (bl : aq) (t : Ty) : Nat → List V → Option (List t.den × eF)
 |0,[]=>some ([],[])
 |0,_=>none
 |n+1,vs=>match bt ar bl t vs with
  |some (x,u,r)=>match lN ar bl t n r with
   |some (xs,u')=>some (x::xs,u++u')
   |none=>none
  |none=>none
def CK (ar : Ar) (t : Ty) (xs : List t.den) : Nat → Nat → List V
 |0,_=>[]
 |n+1,i=>cz t (ar.get t.zero xs i)++CK ar t xs n (i+1)
def HK (k : IntKind) : List V → Option (List Int)
 |[]=>some []
 | .int k' z::r=>if k=k' then (match HK k r with
  |some zs=>some (z::zs)
  |none=>none) else none
 |_=>none
def colZ (len eL:Nat) (zs:List Int) (m:Nat):List Int:=(List.range len).map fun j=>zs.getD (j * eL+m) 0
def QX (ar:Ar) (k:IntKind) (len eL:Nat) (zs:List Int) (i:Nat):List V:=(List.range eL).map fun m=>.int k (ar.get 0 (colZ len eL zs m) i)
def HL (kt vt LD LF:Ty) (es:List (kt.den×vt.den)):Option (List (LD.den×LF.den)):=if h:kt=LD∧vt=LF then some (h.1▸h.2▸es) else none
def jq (bl:aq) (kt:Ty) (kg:Bool) (vt:Ty) (vg:Bool) (id:Nat):Option (List (kt.den×vt.den)):=match ay id bl with
 |some (.map LD Vf LF QY es)=>if kg=Vf∧vg=QY then HL LD LF kt vt es else none
 |_=>none
def keyOf (ar:Ar) (kt:Ty) (kg:Bool) (k:V):Option kt.den:=match AP kg k with
 |some cs=>match bt ar [] kt cs with
  |some (x,[],[])=>some x
  |_=>none
 |none=>none
def iU (ar:Ar) (e:gA) (vs:List V) (bl:aq) (aC:Nat):Out :=
 match e with
 | .vN=>match vs with
  |[.str s,.int _ n]=>some ([ar.bZ n (ar.JW s)],.int .u8 (ar.sat s (ar.sF n)),[])
  |_=>none
 | .LX len eL g=>match vs with
  |[.agg cs,.int _ i]=>match Nat.beq cs.length (len * eL) with
   |false=>none
   |true=>match cs with
    | .int k z::r=>match HK k (.int k z::r) with
     |some zs=>match cn g (QX ar k len eL zs (ar.sF i)) with
      |some v=>some ([ar.bZ i (Int.ofNat len)],v,[])
      |none=>none
     |none=>none
    |cs=>match i with
     | .ofNat n=>if n<len then (match cut (n * eL) eL cs with
      |some vs=>match cn g vs with
       |some v=>some ([],v,[])
       |none=>none
      |none=>none) else none
     |_=>none
  |_=>none
 | .bytes=>match vs with
  |[.str s]=>some ([],.eO (.int .u8) (ar.bys s),[])
  |_=>none
 | .text=>match vs with
  |[v]=>match elems ar bl (.int .u8) v with
   |some ys=>some ([],.str (ar.txt ys),[])
   |none=>none
  |_=>none
 | .clear t=>match vs with
  |[.sl id t' lo n]=>if t'=t then (match ay id bl with
   |some (.arr t'' xs false)=>if t'=t'' then some ([],.cK [],[(id,some (.arr t'' (ar.clr t''.zero xs lo n) false))]) else none
   |_=>none) else none
  |_=>none
 | .LY neg=>match vs with
  |[.sl _ _ _ n]=>match neg with
   |false=>some ([],.cb (ar.eq (Int.ofNat n) 0),[])
   |true=>none
  |[.eO _ xs]=>match neg with
   |false=>some ([],.cb (ar.eq (Int.ofNat (ar.len xs)) 0),[])
   |true=>none
  |_=>none
 | .Fp neg=>match vs with
  |[.mp _]=>some ([],.tf neg,[])
  |[.cD]=>some ([],.tf (!neg),[])
  |_=>none
 | .Fq neg=>match vs with
  |[.ptr _ _]=>some ([],.tf neg,[])
  |[.eE]=>some ([],.tf (!neg),[])
  |_=>none
 | .iQ=>match vs with
  |[.cu t v]=>some ([],.cu t v,[])
  |[.ptr id o]=>some ([],.ptr id o,[])
  |[.fu cs]=>some ([],.fu cs,[])
  |_=>none
 | .iR kt kg vt vg=>some ([],.mp aC,[(aC,some (.map kt kg vt vg []))])
 | .gh kt kg vt vg ok=>match vs with
  |[m,k]=>match keyOf ar kt kg k with
   |some x=>match (match m with
    | .mp id=>jq bl kt kg vt vg id
    | .cD=>some []
    |_=>none) with
    |some es=>match cz.iS vg (cz vt (ar.gh kt vt.zero es x)) with
     |v=>match ok with
      |true=>some ([],.cK [v,.bool (ar.mhas kt es x)],[])
      |false=>some ([],v,[])
    |none=>none
   |none=>none
  |_=>none
 | .iw kt kg vt vg=>match vs with
  |[.mp id,k,v]=>match keyOf ar kt kg k with
   |some x=>match keyOf ar vt vg v with
    |some y=>match jq bl kt kg vt vg id with
     |some es=>some ([],.any,[(id,some (.map kt kg vt vg (ar.iw kt es x y)))])
     |none=>none
    |none=>none
   |none=>none
  |_=>none
 | .QT=>match vs with
  |[.mp id]=>match ay id bl with
   |some (.map _ _ _ _ es)=>some ([],.int .i64 (Int.ofNat (ar.len es)),[])
   |_=>none
  |[.cD]=>some ([],.int .i64 0,[])
  |_=>none
 | .mkif t=>match vs with
  |[v]=>some ([],.cu t v,[])
  |_=>none
 | .Fs t n=>some ([],.pa aC t n,[(aC,some (.arr t (ar.rep n t.zero) false))])
 | .QU t n=>match vs with
  |[.agg cs]=>match lN ar bl t n cs with
   |some (xs,u)=>some ([],.pa aC t n,u++[(aC,some (.arr t xs false))])
   |none=>none
  |_=>none
 | .capn=>match vs with
  |[.bX]=>some ([],.int .i64 0,[])
  |_=>none
 | .W0 t=>match vs with
  |[.bX,.int _ z]=>match ar.sF z with
   |m=>some ([ar.bZ z (Int.ofNat bI)],.sl aC t 0 m,[(aC,some (.arr t (ar.rep m t.zero) false))])
  |_=>none
def gA.lays : gA → Bool
 | .iR _ _ _ _=>true
 | .Fs _ _=>true
 | .QU _ _=>true
 | .W0 _=>true
 |_=>false
def upTo : Nat → List Nat → List Nat
 |0,r=>r
 |n+1,r=>upTo n (n::r)
def AQ (f : Nat → Option V) : List Nat → Option (List V)
 |[]=>some []
 |n::r=>match f n with
  |some v=>match AQ f r with
   |some vs=>some (v::vs)
   |none=>none
  |none=>none
def asI (k : IntKind) : List V → Option (List Int)
 |[]=>some []
 |v::r=>match v with
  | .int k' n=>if k=k' then (match asI k r with
   |some ns=>some (n::ns)
   |none=>none) else none
  |_=>none
def L5 (ar:Ar) (vs:List V) (j:Int):Option V:=match vs with
 | .int k n::r=>match asI k r with
  |some ns=>some (.int k (ar.get 0 (n::ns) (ar.sF j)))
  |none=>none
 |_=>none
def CL (ar : Ar) (cs : List V) : List (Nat × Nat × Int) → Nat → Option V
 |[],o=>cs[o]?
 |(eL,len,j)::r,o=>match AQ (fun n=>CL ar cs r (o+n * eL)) (upTo len []) with
  |some vs=>L5 ar vs j
  |none=>none
def bY (ar:Ar) (i:I) (env:List (Nat×V)) (bl:aq) (aC:Nat):Out :=
 match i with
 | .mv x=>some ([],x.ev env,[])
 | .pick c a b =>
  match c.ev env with
  | .tf true=>some ([],a.ev env,[])
  | .tf false=>some ([],b.ev env,[])
  | .bool c=>match JX (a.ev env),JX (b.ev env) with
   |some x,some y=>some ([],.bool (ar.Ft c x y),[])
   |_,_=>none
  |_=>none
 | .alloc z=>some ([],.ptr aC 0,[(aC,some (.cells z false))])
 | .box x=>match (x.ev env).cells? with
  |some cs=>some ([],.ptr aC 0,[(aC,some (.cells cs false))])
  |none=>none
 | .build z parts=>match tU parts env z with
  |some cs=>some ([],.agg cs,[])
  |none=>none
 | .dS t xs=>match qG ar bl t (xs.map (·.ev env)) with
  |some (ys,u)=>some ([],.sl aC t 0 xs.length,u++[(aC,some (.arr t ys false))])
  |none=>none
 | .load agg k x =>
  match x.ev env with
  | .ptr id off=>match ay id bl with
   |some (.cells cs _)=>match cut off k cs with
    |some vs=>match cn agg vs with
     |some v=>some ([],v,[])
     |none=>none
    |none=>none
   |_=>none
  | .fu cs=>match cut 0 k cs with
   |some vs=>match cn agg vs with
    |some v=>some ([],v,[])
    |none=>none
   |none=>none
  | .ep id t i p=>match ay id bl with
   |some (.arr t' xs _)=>if t=t' then
     match pn t' (ar.get t'.zero xs i) p with
     |some ⟨t2,y⟩=>match cz t2 y with
      |vs=>if vs.length=k then (match cn agg vs with
       |some v=>some ([ar.LC i (ar.len xs)],v,[])
       |none=>none) else none
     |none=>none
    else none
   |some (.mw t' xs i' p' v)=>if t=t'∧p=p'∧k=1 then (match agg with
    |false=>some ([ar.eq (Int.ofNat i) (Int.ofNat i')],v,[])
    |true=>none) else none
   |_=>none
  | .ip t y=>match cz t y with
   |vs=>if vs.length=k then (match cn agg vs with
    |some v=>some ([],v,[])
    |none=>none) else none
  | .pa id t m=>match ay id bl with
   |some (.arr t' xs _)=>if t=t' then (match CK ar t' xs m 0 with
    |vs=>if vs.length=k then (match cn agg vs with
     |some v=>some ([],v,[])
     |none=>none) else none) else none
   |_=>none
  | .sp id o l=>match ay id bl with
   |some (.cells cs _)=>match k with
    |1=>match CL ar cs l o with
     |some v=>match cn agg [v] with
      |some v=>some ([],v,[])
      |none=>none
     |none=>none
    |_=>none
   |_=>none
  |_=>none
 | .store k a x =>
  match (x.ev env).cells? with
  |none=>none
  |some vs=>if vs.length=k then
   (match a.ev env with
   | .ptr id off=>match ay id bl with
    |some (.cells cs false)=>match qH off vs cs with
     |some cs'=>some ([],.any,[(id,some (.cells cs' false))])
     |none=>none
    |_=>none
   | .ep id t i p=>match ay id bl with
    |some (.arr t' xs false)=>if t=t' then
      match cM ar bl t' (ar.get t'.zero xs i) p vs with
      |some (y,u)=>match tV id u with
       |true=>some ([ar.LC i (ar.len xs)],.any,u++[(id,some (.arr t' (ar.set xs i y) false))])
       |false=>none
      |none=>none
     else none
    |_=>none
   | .pa id t m=>match ay id bl with
    |some (.arr t' xs false)=>if t=t' then
      match lN ar bl t' m vs with
      |some (ys,u)=>match tV id u with
       |true=>some ([],.any,u++[(id,some (.arr t' ys false))])
       |false=>none
      |none=>none
     else none
    |_=>none
   |_=>none) else none
 | .bin op x y =>
  match x.ev env,y.ev env with
  | .int k a,.int k' b=>match op with
   | .shl=>zm ar .shl k a b
   | .shr=>zm ar .shr k a b
   |_=>if k=k' then Fv ar op k a b else none
  | .str a,.str b=>Fw ar op a b
  |_,_=>none
 | .QV neg x y=>match JX (x.ev env),JX (y.ev env) with
  |some a,some b=>some ([],.bool (match neg with|true=>ar.sE (ar.beq a b)|false=>ar.beq a b),[])
  |_,_=>none
 | .eqs neg ks x y =>
  match x.ev env,y.ev env with
  | .agg xs,.agg ys=>match aK ar ks xs ys with
   |some c=>some ([],.bool (match neg with|true=>ar.sE c|false=>c),[])
   |none=>none
  |_,_=>none
 | .neg x=>match x.ev env with
  | .int k a=>match k.signed with
   |true=>match ar.sub 0 a with|z=>some ([ar.de k z],.int k z,[])
   |false=>some ([],.int k (ar.wr k (ar.sub 0 a)),[])
  |_=>none
 | .not x=>match x.ev env with
  | .tf b=>some ([],.tf (!b),[])
  | .bool b=>some ([],.bool (ar.sE b),[])
  |_=>none
 | .conv k x=>match x.ev env with
  | .int _ n=>some ([ar.de k n],.int k n,[])
  |_=>none
 | .mD off path x=>match x.ev env with
  | .ptr id o=>some ([],.ptr id (o+off),[])
  | .fu cs=>if off≤cs.length then some ([],.fu (cs.drop off),[]) else none
  | .ep id t i p=>match t.qD p with
   |some t1=>if t1.bE path=off then (match t1.qD path with
    |some _=>some ([],.ep id t i (p++path),[])
    |none=>none) else none
   |none=>none
  | .ip t y=>if t.bE path=off then (match pn t y path with
   |some ⟨t2,z⟩=>some ([],.ip t2 z,[])
   |none=>none) else none
  | .pa id t m=>if (off / t.sz) * t.sz=off∧off / t.sz<m then some ([],.ep id t (off / t.sz) [],[]) else none
  | .kV t xs=>if (off / t.sz) * t.sz=off then some ([ar.LC (off / t.sz) (ar.len xs)],.ip t (ar.get t.zero xs (off / t.sz)),[]) else none
  | .sp id o l=>some ([],.sp id (o+off) l,[])
  |_=>none
 | .field agg off k x=>match x.ev env with
  | .agg cs=>match cut off k cs with
   |some vs=>match cn agg vs with
    |some v=>some ([],v,[])
    |none=>none
   |none=>none
  |_=>none
 | .idx eL x i =>
  match i.ev env with
  | .int _ n=>match x.ev env with
   | .sl id t lo m=>if t.sz=eL then some ([ar.bZ n (Int.ofNat m)],.ep id t (ar.Fu lo (ar.sF n)) [],[]) else none
   | .eO t xs=>if t.sz=eL then some ([ar.bZ n (Int.ofNat (ar.len xs))],.ip t (ar.get t.zero xs (ar.sF n)),[]) else none
   |_=>none
  |_=>none
 | .yK len eL x i =>
  match x.ev env with
  | .pa id t m=>match i.ev env with
   | .int _ j=>if t.sz=eL∧m=len then some ([ar.bZ j (Int.ofNat len)],.ep id t (ar.sF j) [],[]) else none
   |_=>none
  | .kV t xs=>match i.ev env with
   | .int _ j=>if t.sz=eL then some ([ar.bZ j (Int.ofNat len),ar.bZ j (Int.ofNat (ar.len xs))],.ip t (ar.get t.zero xs (ar.sF j)),[]) else none
   |_=>none
  | .ptr id o=>match i.ev env with
   | .int _ j=>some ([ar.bZ j (Int.ofNat len)],.sp id o [(eL,len,j)],[])
   |_=>none
  | .sp id o l=>match i.ev env with
   | .int _ j=>some ([ar.bZ j (Int.ofNat len)],.sp id o ((eL,len,j)::l),[])
   |_=>none
  | .fu cs=>match i.ev env with
   | .int _ (.ofNat n)=>if n<len then (if n * eL≤cs.length then some ([],.fu (cs.drop (n * eL)),[]) else none) else none
   |_=>none
  |_=>none
 | .ext k x=>match x.ev env with
  | .cK vs=>match vs[k]? with
   |some v=>some ([],v,[])
   |none=>none
  |_=>none
 | .len x=>match x.ev env with
  | .sl _ _ _ n=>some ([],.int .i64 (Int.ofNat n),[])
  | .eO _ xs=>some ([],.int .i64 (Int.ofNat (ar.len xs)),[])
  | .bX=>some ([],.int .i64 0,[])
  |_=>none
 | .lens x=>match x.ev env with
  | .str s=>some ([],.int .i64 (ar.JW s),[])
  |_=>none
 | .yL n=>some ([],.int .i64 (Int.ofNat n),[])
 | .append eL x y =>
  match x.ev env with
  | .bX=>match Fx (y.ev env) with
   |some t=>if t.sz=eL then
     (match elems ar bl t (y.ev env) with
     |some ys=>match ar.len ys with
      |m=>some ([ar.LC m bI],.sl aC t 0 m,[(aC,some (.arr t ys false))])
     |none=>none) else none
   |none=>none
  | .sl id t lo n=>if t.sz=eL then
   (match ay id bl with
   |some (.arr t' xs false)=>if t'=t then
    (match jR t' t xs with
    |some xs'=>match elems ar bl t (y.ev env) with
     |some ys=>match ar.Fu n (ar.len ys) with
      |m=>some ([ar.LC m bI],.sl aC t 0 m,[(id,none),(aC,some (.arr t (ar.app (ar.sub' xs' lo n) ys) false))])
     |none=>none
    |none=>none) else none
   |_=>none) else none
  |_=>none
 | .iM t n=>match n.ev env with
  | .int _ z=>match ar.sF z with
   |m=>some ([ar.bZ z (Int.ofNat bI)],.sl aC t 0 m,[(aC,some (.arr t (ar.rep m t.zero) false))])
  |_=>none
 | .AN f a b=>some ([],.fn f (a.map (·.ev env)) (b.map (·.ev env)),[])
 | .slice eL x lo hi mx =>
  match mx with
  |some m=>match hi with
   |some h=>match pZ (m.ev env),pZ (h.ev env),cA env 0 lo with
    |some a,some b,some c=>match x.ev env with
     | .sl _ _ _ _=>some ([ar.eq a 0,ar.eq b 0,ar.eq c 0],.bX,[])
     | .eO _ _=>some ([ar.eq a 0,ar.eq b 0,ar.eq c 0],.bX,[])
     | .bX=>some ([ar.eq a 0,ar.eq b 0,ar.eq c 0],.bX,[])
     |_=>none
    |_,_,_=>none
   |none=>none
  |none =>
   match x.ev env with
   | .sl id t l n=>if t.sz=eL then
    (match cA env 0 lo,cA env (Int.ofNat n) hi with
    |some a,some b=>some ([ar.le 0 a,ar.le a b,ar.le b (Int.ofNat n)],.sl id t (ar.Fu l (ar.sF a)) (ar.LZ (ar.sF b) (ar.sF a)),[])
    |_,_=>none) else none
   | .eO t xs=>if t.sz=eL then
    (match cA env 0 lo,cA env (Int.ofNat (ar.len xs)) hi with
    |some a,some b=>some ([ar.le 0 a,ar.le a b,ar.le b (Int.ofNat (ar.len xs))],.eO t (ar.sub' xs (ar.sF a) (ar.LZ (ar.sF b) (ar.sF a))),[])
    |_,_=>none) else none
   | .bX=>(match cA env 0 lo,cA env 0 hi with
    |some a,some b=>some ([ar.eq a 0,ar.eq b 0],.bX,[])
    |_,_=>none)
   |_=>none
 | .ex e xs=>iU ar e (xs.map (·.ev env)) bl aC
 | .lC mx x ys=>match x.ev env with
  | .int k a=>match iN ar mx k a (ys.map (·.ev env)) with
   |some z=>some ([],.int k z,[])
   |none=>none
  |_=>none
def lD : Ty → List V → Option (List Bool × V × List V)
 | .list _,.sl id t lo n::r=>some ([],.sl id t lo n,.bX::r)
 | .prod a b,vs=>match lD a vs with
  |some (p,v,vs')=>some (false::p,v,vs')
  |none=>match lD b (vs.drop a.sz) with
   |some (p,v,vs')=>some (true::p,v,vs.take a.sz++vs')
   |none=>none
 |_,_=>none
def uI : Ty → List V → Option (List Bool)
 | .list _,.bX::_=>some []
 | .prod a b,vs=>match uI a vs with
  |some p=>some (false::p)
  |none=>match uI b (vs.drop a.sz) with
   |some p=>some (true::p)
   |none=>none
 |_,_=>none
def yM (ar:Ar) (i:I) (env:List (Nat×V)) (bl:aq) (aC:Nat):Out:=match i with
 | .dS t xs=>match xs with
  |[x]=>match (x.ev env).cells? with
   |some vs=>match uI t vs with
    |some p=>match bt ar bl t vs with
     |some (y,[],[])=>some ([],.sl aC t 0 1,[(aC,some (.mw t [y] 0 p .bX))])
     |_=>none
    |none=>none
   |none=>none
  |_=>none
 | .store k a x=>match (x.ev env).cells? with
  |none=>none
  |some vs=>if vs.length=k then (match a.ev env with
   | .ep id t i p=>match ay id bl with
    |some (.arr t' xs false)=>if t=t' then (match t'.qD p with
     |some t1=>match lD t1 vs with
      |some (q,v,vs')=>match cM ar bl t' (ar.get t'.zero xs i) p vs' with
       |some (y,[])=>some ([ar.LC i (ar.len xs)],.any,[(id,some (.mw t' (ar.set xs i y) i (p++q) v))])
       |_=>none
      |none=>none
     |none=>none) else none
    |some (.mw t' xs i' p' _)=>if t=t'∧p=p' then (match vs with
     |[.sl id' s lo n]=>some ([ar.eq (Int.ofNat i) (Int.ofNat i')],.any,[(id,some (.mw t' xs i' p' (.sl id' s lo n)))])
     |_=>none) else none
    |_=>none
   |_=>none) else none
 |_=>none
def Ma : aq → List Nat
 |[]=>[]
 |(id,.mw _ _ _ _ _)::r=>id::Ma r
 |_::r=>Ma r
def AR : aq → List Nat
 |[]=>[]
 |(id,.mw _ _ _ _ v)::r=>match v with
  | .bX=>AR r
  |_=>id::AR r
 |_::r=>AR r
def clU (ar:Ar) (id:Nat) (bl:aq):Option eF:=match ay id bl with
 |some (.mw t xs i p v)=>match cM ar bl t (ar.get t.zero xs i) p [v] with
  |some (y,u)=>match tV id u with
   |true=>some (u++[(id,some (.arr t (ar.set xs i y) false))])
   |false=>none
  |none=>none
 |_=>some []
def LG (ar : Ar) : List Nat → aq → Option eF
 |[],_=>some []
 |id::r,bl=>match clU ar id bl with
  |some u=>match LG ar r (bx u bl) with
   |some u'=>some (u++u')
   |none=>none
  |none=>none
def Mb (ar:Ar) (S:St) (k:St→Prop):Prop:=k S∨∃ids u,LG ar ids S.H.bl=some u∧k ⟨S.env,⟨S.H.next,bx u S.H.bl⟩,S.ms⟩
def I.lays : I → Bool
 | .alloc _ | .box _ | .dS _ _ | .append _ _ _ | .iM _ _=>true
 | .ex e _=>e.lays
 |_=>false
def LH (l:Bool) (n:Nat):Nat:=match l with
 |true=>n+1
 |false=>n
def AS (t:Nat) (v:V) (r:List (Nat×V)):List (Nat×V):=(t,v)::r
def put (d:Option Nat) (v:V) (env:List (Nat×V)):List (Nat×V) :=
 match d with
 |some t=>AS t v env
 |none=>env
def uJ : List Bool → Prop
 |[]=>True
 |[b]=>b=true
 |b::r=>b=true∧uJ r
def Br (c:Bool) (t e:Unit→Prop):Prop:=(c=true→t ())∧(c=false→e ())
def QZ (s:Nat) (b:Bool) (S:St):St:={ S with env:=AS s (.tf b) S.env }
def qI (o:Out) (l:Bool) (dst:Option Nat) (S:St) (K:St→Prop):Prop :=
 match o with
 |some ([],v,u)=>K ⟨put dst v S.env,⟨LH l S.H.next,bx u S.H.bl⟩,S.ms⟩
 |some (ob,v,u)=>uJ ob∧K ⟨put dst v S.env,⟨LH l S.H.next,bx u S.H.bl⟩,S.ms⟩
 |none=>False
def wpOp (ar:Ar) (dst:Option Nat) (i:I) (S:St) (K:St→Prop):Prop :=
 qI (bY ar i S.env S.H.bl S.H.next) i.lays dst S K∨qI (yM ar i S.env S.H.bl S.H.next) i.lays dst S K ∨
  ∃ids u,LG ar ids S.H.bl=some u∧qI (bY ar i S.env (bx u S.H.bl) S.H.next) i.lays dst ⟨S.env,⟨S.H.next,bx u S.H.bl⟩,S.ms⟩ K
def HM : Ty → V → V
 | .list t,.bX=>.eO t []
 | .bool,.tf b=>.bool b
 |_,v=>v
def vc : Ty → List Ty
 | .unit=>[]
 | .prod a b=>vc a++vc b
 |t=>[t]
def AU : List Ty → List V → List V
 |t::ts,c::cs=>HM t c::AU ts cs
 |_,cs=>cs
def Mc (ty:Option Ty) (v:V):V:=match ty with
 |none=>v
 |some t=>match v with
  | .agg cs=>.agg (AU (vc t) cs)
  |v=>HM t v
def hT : Ty → Ty
 | .list _=>.str
 | .prod a b=>.prod (hT a) (hT b)
 |t=>t
def hTs (ts:List (Option Ty)):List (Option Ty):=ts.map (·.map hT)
def cO : List (Option Ty) → List V → List V
 |t::ts,v::vs=>Mc t v::cO ts vs
 |_,vs=>vs
def ve (ar:Ar) (dst:Option Nat) (f:O) (args:List O) (tys:List (Option Ty)) (S:St) (K:St→Prop):Prop :=
 match f.ev S.env with
 | .fn f first cap=>ar.call f (first++cO tys (args.map (·.ev S.env))++cap) S.H fun v H=>K ⟨put dst v S.env,H,S.ms⟩
 | .yl id=>ar.round id (cO tys (args.map (·.ev S.env))) S.H fun v H=>K ⟨put dst v S.env,H,S.ms⟩
 |_=>False
def Fy (ar:Ar) (dst:Option Nat) (f:O) (args:List O) (tys:List (Option Ty)) (S:St) (K:St→Prop):Prop:=Mb ar S fun S=>ve ar dst f args tys S K
def oK (g:Option (Nat×Bool)) (dst:Option Nat) (S:St) (K:St→Prop) (run:St→Prop):Prop :=
 match g with
 |none=>run S
 |some (s,b)=>match get s S.env with
  | .tf c=>match c,b with
   |true,true=>run S
   |false,false=>run S
   |true,false=>K ⟨put dst (.cK []) S.env,S.H,S.ms⟩
   |false,true=>K ⟨put dst (.cK []) S.env,S.H,S.ms⟩
  | .bool c => Br c
   (fun _=>match b with
    |true=>run (QZ s true S)
    |false=>K ⟨put dst (.cK []) (QZ s true S).env,S.H,S.ms⟩)
   (fun _=>match b with
    |false=>run (QZ s false S)
    |true=>K ⟨put dst (.cK []) (QZ s false S).env,S.H,S.ms⟩)
  | .cK _=>K ⟨put dst (.cK []) S.env,S.H,S.ms⟩
  |_=>False
def fD (ar : Ar) : List eR → St → (St → Prop) → Prop
 |[],S,K=>K S
 | .op d g i::r,S,K=>oK g d S (fun S=>fD ar r S K) (fun S=>wpOp ar d i S (fun S=>fD ar r S K))
 | .call d g f a tys::r,S,K=>oK g d S (fun S=>fD ar r S K) (fun S=>Fy ar d f a tys S (fun S=>fD ar r S K))
end Go.AM
end
section
namespace Go.AM
abbrev au:=Nat→Nat→Option Value
structure Loc where
 b:Nat
 ba:Nat
 tot:Nat
 len:Nat
abbrev Mu:=Nat→Option Loc
def au.le (i j:au):Prop:=∀b o x,i b o=some x→j b o=some x
def Mu.le (m n:Mu):Prop:=∀id L,m id=some L→n id=some L
theorem au.le_refl (i:au):i.le i:=fun _ _ _ h=>h
theorem Mu.le_refl (i:Mu):i.le i:=fun _ _ h=>h
theorem au.le_trans {i j k:au} (h:i.le j) (h':j.le k):i.le k:=fun _ _ _ hx=>h' _ _ _ (h _ _ _ hx)
theorem Mu.le_trans {i j k:Mu} (h:i.le j) (h':j.le k):i.le k:=fun _ _ hx=>h' _ _ (h _ _ hx)
def Reads (ι:au) (b o:Nat) (vs:List Value):Prop:=∀j v,vs[j]?=some v→ι b (o+j)=some v
def bw {α : Type} (D : α → List Value → Prop) : List α → List Value → Prop
 |[],vs=>vs=[]
 |x::xs,vs=>∃us ws,vs=us++ws∧D x us∧bw D xs ws
def iq : Bool → List Value → Option Value
 |true,xs=>some (.agg xs.toArray)
 |false,[x]=>some x
 |false,_=>none
def ag (ι : au) : (t : Ty) → t.den → List Value → Prop
 | .unit,_,vs=>vs=[]
 | .bool,b,vs=>vs=[.bool b]
 | .str,s,vs=>vs=[.string s]
 | .int k,n,vs=>vs=[.int k n]
 | .list t,xs,vs=>∃a cap,vs=[.slice a xs.length cap]∧xs.length≤cap ∧
   (xs=[]∨∃b o us,a=some ⟨b,o,none⟩∧Reads ι b o us∧bw (ag ι t) xs us)
 | .prod a b,x,vs=>∃us ws,vs=us++ws∧ag ι a x.1 us∧ag ι b x.2 ws
 | .cu d g t,x,vs=>∃xs v,ag ι t x xs∧iq g xs=some v∧vs=[.iface d v]
def fO (ι:au) (g:Bool) (t:Ty) (x:t.den) (v:Value):Prop:=∃xs,ag ι t x xs∧iq g xs=some v
theorem Reads.mono {ι ι':au} (h:ι.le ι') {b o:Nat} {vs:List Value} (hr:Reads ι b o vs):Reads ι' b o vs :=
 fun j v hj=>h _ _ _ (hr j v hj)
theorem bw.mono {α : Type} {D E : α → List Value → Prop} (h : ∀ x us, D x us → E x us) : ∀ {xs : List α} {vs : List Value}, bw D xs vs → bw E xs vs
 |[],_,hc=>hc
 |_::_,_,⟨us,ws,e,h1,h2⟩=>⟨us,ws,e,h _ _ h1,bw.mono h h2⟩
theorem ag.mono {ι ι' : au} (h : ι.le ι') : ∀ {t : Ty} {x : t.den} {vs : List Value}, ag ι t x vs → ag ι' t x vs
 | .unit,_,_,hc=>hc
 | .bool,_,_,hc=>hc
 | .str,_,_,hc=>hc
 | .int _,_,_,hc=>hc
 | .list t,xs,vs,⟨a,cap,e,hl,hx⟩=>⟨a,cap,e,hl,hx.imp id fun ⟨b,o,us,ha,hr,hc⟩ =>
   ⟨b,o,us,ha,hr.mono h,bw.mono (fun x us hd=>ag.mono (t:=t) h hd) hc⟩⟩
 | .prod _ _,_,_,⟨us,ws,e,h1,h2⟩=>⟨us,ws,e,ag.mono h h1,ag.mono h h2⟩
 | .cu _ _ _,_,_,⟨xs,v,h1,h2,h3⟩=>⟨xs,v,ag.mono h h1,h2,h3⟩
theorem ag.length {ι : au} : ∀ {t : Ty} {x : t.den} {vs : List Value}, ag ι t x vs → vs.length = t.sz
 | .unit,_,_,hc=>by simp [ag] at hc;subst hc;rfl
 | .bool,_,_,hc=>by simp [ag] at hc;subst hc;rfl
 | .str,_,_,hc=>by simp [ag] at hc;subst hc;rfl
 | .int _,_,_,hc=>by simp [ag] at hc;subst hc;rfl
 | .list _,_,_,⟨_,_,e,_,_⟩=>by subst e;rfl
 | .prod _ _,_,_,⟨us,ws,e,h1,h2⟩=>by subst e;simp [Ty.sz,ag.length h1,ag.length h2]
 | .cu _ _ _,_,_,⟨xs,v,h1,h2,h3⟩=>by subst h3;rfl
theorem ag.one {ι : au} : ∀ {t : Ty} {x : t.den} {vs : List Value}, ag ι t x vs → ∀ v ∈ vs, v.oneCell' = true
 | .unit,_,_,hc=>by simp [ag] at hc;subst hc;simp
 | .bool,_,_,hc=>by simp [ag] at hc;subst hc;simp [Value.oneCell']
 | .str,_,_,hc=>by simp [ag] at hc;subst hc;simp [Value.oneCell']
 | .int _,_,_,hc=>by simp [ag] at hc;subst hc;simp [Value.oneCell']
 | .list _,_,_,⟨_,_,e,_,_⟩=>by subst e;simp [Value.oneCell']
 | .prod _ _,_,_,⟨us,ws,e,h1,h2⟩=>by
  subst e;intro v hv;rcases List.mem_append.1 hv with h|h
  ·exact ag.one h1 v h
  ·exact ag.one h2 v h
 | .cu _ _ _,_,_,⟨xs,v,h1,h2,h3⟩=>by subst h3;simp [Value.oneCell']
theorem fO.mono {ι ι':au} (h:ι.le ι') {g:Bool} {t:Ty} {x:t.den} {v:Value} (hv:fO ι g t x v):fO ι' g t x v:=by
 obtain ⟨xs,h1,h2⟩:=hv
 exact ⟨xs,h1.mono h,h2⟩
def eV (ι : au) (kt : Ty) (kg : Bool) (vt : Ty) (vg : Bool) : List (kt.den × vt.den) → List MapEntry → Prop
 |[],ms=>ms=[]
 |e::es,ms=>∃m r,ms=m::r∧fO ι kg kt e.1 m.key∧fO ι vg vt e.2 m.val∧eV ι kt kg vt vg es r
theorem eV.mono {ι ι' : au} (h : ι.le ι') {kt vt : Ty} {kg vg : Bool} : ∀ {es : List (kt.den × vt.den)} {ms : List MapEntry}, eV ι kt kg vt vg es ms → eV ι' kt kg vt vg es ms
 |[],_,he=>he
 |_::_,_,⟨m,r,e,h1,h2,h3⟩=>⟨m,r,e,h1.mono h,h2.mono h,eV.mono h h3⟩
theorem eV.length {ι : au} {kt vt : Ty} {kg vg : Bool} : ∀ {es : List (kt.den × vt.den)} {ms : List MapEntry}, eV ι kt kg vt vg es ms → ms.length = es.length
 |[],_,he=>by simp [eV] at he;subst he;rfl
 |_::_,_,⟨m,r,e,h1,h2,h3⟩=>by subst e;simp [eV.length h3]
section cat
variable {α:Type} {D:α→List Value→Prop} {n:Nat}
theorem bw.length (hD : ∀ x us, D x us → us.length = n) : ∀ {xs : List α} {vs : List Value}, bw D xs vs → vs.length = xs.length * n
 |[],_,hc=>by simp [bw] at hc;subst hc;simp
 |x::xs,_,⟨us,ws,e,h1,h2⟩=>by
  subst e;simp [hD _ _ h1,bw.length hD h2,Nat.add_mul];omega
theorem bw.one (hD : ∀ x us, D x us → ∀ v ∈ us, Value.oneCell' v = true) : ∀ {xs : List α} {vs : List Value}, bw D xs vs → ∀ v ∈ vs, Value.oneCell' v = true
 |[],_,hc=>by simp [bw] at hc;subst hc;simp
 |x::xs,_,⟨us,ws,e,h1,h2⟩=>by
  subst e;intro v hv;rcases List.mem_append.1 hv with h|h
  ·exact hD _ _ h1 v h
  ·exact bw.one hD h2 v h
theorem bw.append : ∀ {xs ys : List α} {vs ws : List Value}, bw D xs vs → bw D ys ws → bw D (xs ++ ys) (vs ++ ws)
 |[],_,_,_,hc,h=>by simp [bw] at hc;subst hc;simpa using h
 |x::xs,_,_,_,⟨us,ws,e,h1,h2⟩,h=>by subst e;exact ⟨us,_,List.append_assoc ..,h1,h2.append h⟩
theorem bw.drop (hD : ∀ x us, D x us → us.length = n) : ∀ (k : Nat) {xs : List α} {vs : List Value}, bw D xs vs → bw D (xs.drop k) (vs.drop (k * n))
 |0,xs,vs,h=>by simpa using h
 |k+1,[],vs,h=>by simp [bw] at h;subst h;simp [bw]
 |k+1,x::xs,vs,⟨us,ws,e,h1,h2⟩=>by
  subst e
  have hl:=hD _ _ h1
  have:(us++ws).drop ((k+1) * n)=ws.drop (k * n):=by
   rw [List.drop_append,List.drop_eq_nil_of_le (by rw [hl,Nat.add_mul];omega),hl]
   simp [Nat.add_mul]
  rw [this]
  exact bw.drop hD k h2
theorem bw.take (hD : ∀ x us, D x us → us.length = n) : ∀ (k : Nat) {xs : List α} {vs : List Value}, bw D xs vs → bw D (xs.take k) (vs.take (k * n))
 |0,xs,vs,h=>by simp [bw]
 |k+1,[],vs,h=>by simp [bw] at h;subst h;simp [bw]
 |k+1,x::xs,vs,⟨us,ws,e,h1,h2⟩=>by
  subst e
  have hl:=hD _ _ h1
  refine ⟨us,ws.take (k * n),?_,h1,bw.take hD k h2⟩
  rw [List.take_append,List.take_of_length_le (by rw [hl,Nat.add_mul];omega),hl]
  simp [Nat.add_mul]
theorem bw.at (hD:∀x us,D x us→us.length=n) {xs:List α} {vs:List Value} (h:bw D xs vs) {i:Nat} {x:α} (hx:xs[i]?=some x) :
  D x ((vs.drop (i * n)).take n):=by
 have h1:=h.drop hD i
 obtain ⟨hi,rfl⟩:=List.getElem?_eq_some_iff.1 hx
 rw [List.drop_eq_getElem_cons hi] at h1
 obtain ⟨us,ws,e,hd,_⟩:=h1
 rw [e,List.take_append,List.take_of_length_le (by rw [hD _ _ hd];exact Nat.le_refl _),hD _ _ hd]
 simpa using hd
theorem bw.set (hD:∀x us,D x us→us.length=n) {xs:List α} {vs:List Value} (h:bw D xs vs) {i:Nat} (hi:i<xs.length) {y:α} {us:List Value} (hy:D y us) :
  bw D (xs.set i y) (vs.take (i * n)++us++vs.drop ((i+1) * n)):=by
 have h1:=h.take hD i
 have h2:=h.drop hD (i+1)
 rw [List.set_eq_take_append_cons_drop,if_pos hi,List.append_assoc]
 exact h1.append ⟨us,_,rfl,hy,h2⟩
theorem bw.rep {y : α} {us : List Value} (hy : D y us) : ∀ k : Nat, bw D (List.replicate k y) (List.flatten (List.replicate k us))
 |0=>rfl
 |k+1=>⟨us,_,by simp [List.replicate_succ],hy,bw.rep hy k⟩
end cat
def lP : List (Nat × Nat × Int) → Nat
 |[]=>0
 |(eL,_,j)::r=>j.toNat * eL+lP r
inductive Rel (ι : au) (μ : Mu) : V → Value → Prop
 |any (x):Rel ι μ .any x
 |tf (b):Rel ι μ (.tf b) (.bool b)
 |bool (b):Rel ι μ (.bool b) (.bool b)
 |int (k n):Rel ι μ (.int k n) (.int k n)
 |str (s):Rel ι μ (.str s) (.string s)
 |eE:Rel ι μ .eE (.pointer none)
 |cG:Rel ι μ .cG .nilFunc
 |ff:Rel ι μ .ff .nilIface
 |eO (t xs x) (h:ag ι (.list t) xs [x]):Rel ι μ (.eO t xs) x
 |bX (a):Rel ι μ .bX (.slice a 0 0)
 |sl (id t lo n cap L) (h:μ id=some L) (h1:n≤cap) (h2:L.ba+(lo+cap) * t.sz≤L.tot) (h3:lo+n≤L.len) :
   Rel ι μ (.sl id t lo n) (.slice (some ⟨L.b,L.ba+lo * t.sz,none⟩) n cap)
 |bN (id t lo a):Rel ι μ (.sl id t lo 0) (.slice a 0 0)
 |ptr (id off L) (h:μ id=some L):Rel ι μ (.ptr id off) (.pointer (some ⟨L.b,L.ba+off,none⟩))
 |fu (cs b o) (g:Nat→Value) (h1:∀i,i<cs.length→ι b (o+i)=some (g i)) (h2:∀i v,cs[i]?=some v→Rel ι μ v (g i)) (h3:∀i,(g i).oneCell'=true) :
   Rel ι μ (.fu cs) (.pointer (some ⟨b,o,none⟩))
 |ep (id t i p L) (h:μ id=some L):Rel ι μ (.ep id t i p) (.pointer (some ⟨L.b,L.ba+i * t.sz+t.bE p,none⟩))
 |ip (t x b o us) (h1:Reads ι b o us) (h2:ag ι t x us):Rel ι μ (.ip t x) (.pointer (some ⟨b,o,none⟩))
 | fn (f fs cs) (xs ys : Array Value) (h1 : fs.length = xs.size) (h2 : ∀ (i : Nat) v x, fs[i]? = some v → xs[i]? = some x → Rel ι μ v x)
   (h3:cs.length=ys.size) (h4:∀(i:Nat) v x,cs[i]?=some v→ys[i]?=some x→Rel ι μ v x):Rel ι μ (.fn f fs cs) (.func (.func f) xs ys)
 |yl (id L) (h:μ id=some L):Rel ι μ (.yl id) (.func (.yield L.b) #[] #[])
 |agg (cs) (xs:Array Value) (h1:cs.length=xs.size) (h2:∀(i:Nat) v x,cs[i]?=some v→xs[i]?=some x→Rel ι μ v x) (h3:∀x∈xs.toList,x.oneCell'=true):Rel ι μ (.agg cs) (.agg xs)
 |cK (cs) (xs:Array Value) (h1:cs.length=xs.size) (h2:∀(i:Nat) v x,cs[i]?=some v→xs[i]?=some x→Rel ι μ v x):Rel ι μ (.cK cs) (.tuple xs)
 |cu (t v x) (h:Rel ι μ v x):Rel ι μ (.cu t v) (.iface t x)
 |cb (c b) (h:b=true→c=true):Rel ι μ (.cb c) (.bool b)
 |mp (id L) (h:μ id=some L):Rel ι μ (.mp id) (.map (some L.b))
 |cD:Rel ι μ .cD (.map none)
 |pa (id t n L) (h:μ id=some L) (hn:L.len=n):Rel ι μ (.pa id t n) (.pointer (some ⟨L.b,L.ba,none⟩))
 |kV (t xs b o us) (h1:Reads ι b o us) (h2:bw (ag ι t) xs us):Rel ι μ (.kV t xs) (.pointer (some ⟨b,o,none⟩))
 |sp (id o l L) (h:μ id=some L) (hb:∀x∈l,0≤x.2.2∧x.2.2<(x.2.1:Int)):Rel ι μ (.sp id o l) (.pointer (some ⟨L.b,L.ba+(o+lP l),none⟩))
theorem Rel.mono {ι ι':au} {μ μ':Mu} (hi:ι.le ι') (hm:μ.le μ') {v:V} {x:Value} (h:Rel ι μ v x):Rel ι' μ' v x:=by
 induction h with
 |any x=>exact .any x
 |tf b=>exact .tf b
 |bool b=>exact .bool b
 |int k n=>exact .int k n
 |str s=>exact .str s
 |eE=>exact .eE
 |cG=>exact .cG
 |ff=>exact .ff
 |eO t xs x h=>exact .eO t xs x (ag.mono (t:=.list t) hi h)
 |bX a=>exact .bX a
 |sl id t lo n cap L h h1 h2 h3=>exact .sl id t lo n cap L (hm _ _ h) h1 h2 h3
 |bN id t lo a=>exact .bN id t lo a
 |ptr id off L h=>exact .ptr id off L (hm _ _ h)
 |fu cs b o g h1 h2 h3 ih=>exact .fu cs b o g (fun i h=>hi _ _ _ (h1 i h)) ih h3
 |ep id t i p L h=>exact .ep id t i p L (hm _ _ h)
 |ip t x b o us h1 h2=>exact .ip t x b o us (h1.mono hi) (ag.mono hi h2)
 |fn f fs cs xs ys h1 h2 h3 h4 ih1 ih2=>exact .fn f fs cs xs ys h1 ih1 h3 ih2
 |yl id L h=>exact .yl id L (hm _ _ h)
 |agg cs xs h1 h2 h3 ih=>exact .agg cs xs h1 ih h3
 |cK cs xs h1 h2 ih=>exact .cK cs xs h1 ih
 |cu t v x h ih=>exact .cu t v x ih
 |cb c b h=>exact .cb c b h
 |mp id L h=>exact .mp id L (hm _ _ h)
 |cD=>exact .cD
 |pa id t n L h hn=>exact .pa id t n L (hm _ _ h) hn
 |kV t xs b o us h1 h2=>exact .kV t xs b o us (h1.mono hi) (bw.mono (fun _ _=>ag.mono hi) h2)
 |sp id o l L h hb=>exact .sp id o l L (hm _ _ h) hb
def aI (ι:au) (μ:Mu) (cs:List V) (xs:List Value):Prop :=
 cs.length=xs.length∧∀(i:Nat) v x,cs[i]?=some v→xs[i]?=some x→Rel ι μ v x
section rell
variable {ι ι':au} {μ μ':Mu}
theorem aI.nil:aI ι μ [] []:=⟨rfl,fun i v x h=>by simp at h⟩
theorem aI.cons {v:V} {x:Value} {cs:List V} {xs:List Value} (h:Rel ι μ v x) (hl:aI ι μ cs xs):aI ι μ (v::cs) (x::xs) :=
 ⟨by simp [hl.1],fun i w y hw hy=>by
  cases i with
  |zero=>simp at hw hy;subst hw;subst hy;exact h
  |succ i=>exact hl.2 i w y (by simpa using hw) (by simpa using hy)⟩
theorem aI.bC {v:V} {cs:List V} {xs:List Value} (h:aI ι μ (v::cs) xs):∃x r,xs=x::r∧Rel ι μ v x∧aI ι μ cs r:=by
 cases xs with
 |nil=>exact absurd h.1 (by simp)
 |cons x r=>exact ⟨x,r,rfl,h.2 0 v x rfl rfl,by have:=h.1;simpa using this,fun i w y hw hy=>h.2 (i+1) w y (by simpa using hw) (by simpa using hy)⟩
theorem aI.of_nil {xs:List Value} (h:aI ι μ [] xs):xs=[]:=by have:=h.1;cases xs<;>simp_all
theorem aI.mono (hi:ι.le ι') (hm:μ.le μ') {cs:List V} {xs:List Value} (h:aI ι μ cs xs):aI ι' μ' cs xs :=
 ⟨h.1,fun i v x hv hx=>(h.2 i v x hv hx).mono hi hm⟩
theorem aI.append {cs ds:List V} {xs ys:List Value} (h:aI ι μ cs xs) (h':aI ι μ ds ys):aI ι μ (cs++ds) (xs++ys):=by
 induction cs generalizing xs with
 |nil=>rw [h.of_nil];simpa using h'
 |cons c cs ih=>obtain ⟨x,r,rfl,h1,h2⟩:=h.bC;exact .cons h1 (ih h2)
theorem aI.drop {cs:List V} {xs:List Value} (h:aI ι μ cs xs) (k:Nat):aI ι μ (cs.drop k) (xs.drop k) :=
 ⟨by simp [h.1],fun i v x hv hx=>h.2 (k+i) v x (by simpa using hv) (by simpa using hx)⟩
theorem aI.take {cs:List V} {xs:List Value} (h:aI ι μ cs xs) (k:Nat):aI ι μ (cs.take k) (xs.take k) :=
 ⟨by simp [h.1],fun i v x hv hx=>by
  rw [List.getElem?_take] at hv hx
  split at hv
  ·rename_i hk;rw [if_pos hk] at hx;exact h.2 i v x hv hx
  ·simp at hv⟩
theorem aI.at {cs:List V} {xs:List Value} (h:aI ι μ cs xs) {i:Nat} {v:V} (hv:cs[i]?=some v):∃x,xs[i]?=some x∧Rel ι μ v x:=by
 have hi:=(List.getElem?_eq_some_iff.1 hv).1
 exact ⟨xs[i]'(by rw [←h.1];exact hi),by simp,h.2 i v _ hv (by simp)⟩
theorem aI.qJ {cs vs:List V} {off k:Nat} {xs:List Value} (h:aI ι μ cs xs) (hc:cut off k cs=some vs):aI ι μ vs ((xs.drop off).take k)∧vs.length=k∧off+k≤xs.length:=by
 unfold cut at hc
 split at hc
 ·rename_i hk
  cases hc
  exact ⟨(h.drop off).take k,by simp;omega,by rw [←h.1];exact hk⟩
 ·cases hc
end rell
theorem Rel.cells {ι:au} {μ:Mu} {v:V} {x:Value} (h:Rel ι μ v x) {cs:List V} (hv:v.cells?=some cs):aI ι μ cs x.cells.toList∧∀u∈x.cells.toList,u.oneCell'=true:=by
 cases h
 case any=>cases hv
 case cK=>cases hv
 case cb=>cases hv
 case agg cs xs h1 h2 h3 =>
  cases hv
  exact ⟨⟨by simpa [Value.cells] using h1,fun i v x hv hx=>h2 i v x hv (by simpa [Value.cells] using hx)⟩,h3⟩
 case eO t xs h =>
  obtain ⟨a,cap,e,hl,hx⟩:=h
  cases e
  cases hv
  exact ⟨.cons (.eO t xs _ ⟨a,cap,rfl,hl,hx⟩) .nil,by simp [Value.cells,Value.oneCell']⟩
 case fu cs b o g h1 h2 h3=>cases hv;exact ⟨.cons (.fu cs b o g h1 h2 h3) .nil,by simp [Value.cells,Value.oneCell']⟩
 case fn f fs cs xs ys h1 h2 h3 h4=>cases hv;exact ⟨.cons (.fn f fs cs xs ys h1 h2 h3 h4) .nil,by simp [Value.cells,Value.oneCell']⟩
 all_goals
  cases hv
  refine ⟨.cons ?_ .nil,by simp [Value.cells,Value.oneCell']⟩
  first
   |(constructor;done)
   |(constructor<;>assumption)
theorem zn {ι:au} {μ:Mu} {g:Bool} {cs:List V} {xs:List Value} {v:Value} (h:iq g xs=some v) (hr:aI ι μ cs xs) (h1:∀u∈xs,u.oneCell'=true):Rel ι μ (cz.iS g cs) v:=by
 cases g with
 |true =>
  cases h
  exact .agg _ _ (by simpa using hr.1) (fun i v x hv hx=>hr.2 i v x hv (by simpa using hx)) (by simpa using h1)
 |false =>
  match xs,h with
  |[c],h =>
   cases h
   match cs,hr with
   |[v'],hr=>exact hr.2 0 v' _ rfl rfl
   |[],hr=>exact absurd hr.1 (by simp)
   |_::_::_,hr=>exact absurd hr.1 (by simp)
theorem eW {ι : au} {μ : Mu} : ∀ {t : Ty} {x : t.den} {vs : List Value}, ag ι t x vs → aI ι μ (cz t x) vs
 | .unit,_,_,h=>by simp [ag] at h;subst h;exact .nil
 | .bool,_,_,h=>by simp [ag] at h;subst h;exact .cons (.bool _) .nil
 | .str,_,_,h=>by simp [ag] at h;subst h;exact .cons (.str _) .nil
 | .int _,_,_,h=>by simp [ag] at h;subst h;exact .cons (.int _ _) .nil
 | .list t,xs,_,h=>by
  obtain ⟨a,cap,e,hl,hx⟩:=h
  subst e
  exact .cons (.eO t xs _ ⟨a,cap,rfl,hl,hx⟩) .nil
 | .prod _ _,_,_,⟨us,ws,e,h1,h2⟩=>by subst e;exact (eW h1).append (eW h2)
 | .cu d g t,x,_,⟨xs,v,h1,h2,h3⟩=>by
  subst h3
  exact .cons (.cu d _ v (zn h2 (eW h1) (ag.one h1))) .nil
def iy (ι:au) (μ:Mu) (id:Nat) (t:Ty) (xs:List t.den):Prop :=
 (xs=[]∧μ id=none)∨∃L vs,μ id=some L∧Reads ι L.b L.ba vs∧bw (ag ι t) xs vs∧xs.length=L.len
def Fz:List Int:=[0,1,56,2,57,49,28,3,61,58,42,50,38,29,17,4,62,47,59,36,45,43,51,22,53,39,33,30,24,18,12,5,63,55,48,27,60,41,37,16,46,35,44,21,52,32,23,11,54,26,40,15,34,20,31,10,25,14,19,9,13,8,7,6]
def oL (P:Program) (g:Nat):Option (List Int):=match P.globals[g]? with
 |some gl=>if gl.name == "math/bits.deBruijn64tab" then some Fz else none
 |none=>none
def je (P:Program) (ι:au):Prop:=∀g dz,oL P g=some dz→Reads ι g 0 (dz.map fun z=>Value.int .u8 z)
theorem je.mono {P:Program} {ι ι':au} (h:je P ι) (hi:ι.le ι'):je P ι':=fun g dz hg=>(h g dz hg).mono hi
theorem je.rel {P:Program} {ι:au} (h:je P ι) (μ:Mu) {g:Nat} {dz:List Int} (hg:oL P g=some dz):Rel ι μ (.kV (.int .u8) dz) (.pointer (some ⟨g,0,none⟩)):=by
 refine .kV (.int .u8) dz g 0 (dz.map fun z=>Value.int .u8 z) (h g dz hg) ?_
 clear hg
 induction dz with
 |nil=>rfl
 |cons z r ih=>exact ⟨[.int .u8 z],_,rfl,rfl,ih⟩
theorem je.none {P:Program} (h:(List.range P.globals.size).all (fun g=>(oL P g).isNone)=true) (ι:au):je P ι:=fun g dz hg=>by
 have hs:g<P.globals.size:=by
  unfold oL at hg
  split at hg
  ·rename_i gl h';exact (Array.getElem?_eq_some_iff.1 h').1
  ·cases hg
 have:=List.all_eq_true.1 h g (List.mem_range.2 hs)
 rw [hg] at this;cases this
theorem dU {t t':Ty} {xs:List t.den} {ys:List t'.den} (h:jR t t' xs=some ys):∃e:t=t',ys=e▸xs:=by
 unfold jR at h
 split at h
 ·rename_i e;cases h;exact ⟨e,rfl⟩
 ·cases h
theorem zo {ι:au} {μ:Mu} {t:Ty} {v:V} {x:Value} (h:Rel ι μ v x):Rel ι μ (HM t v) x:=by
 unfold HM
 split
 ·cases h;exact .eO _ _ _ ⟨_,0,rfl,Nat.le_refl _,.inl rfl⟩
 ·cases h;exact .bool _
 ·exact h
theorem tW {ι : au} {μ : Mu} : ∀ {ts : List Ty} {cs : List V} {xs : List Value}, aI ι μ cs xs → aI ι μ (AU ts cs) xs
 |[],cs,xs,h=>by cases cs<;>exact h
 |t::ts,[],xs,h=>h
 |t::ts,c::cs,xs,h=>by
  obtain ⟨x,r,rfl,h1,h2⟩:=h.bC
  exact .cons (zo h1) (tW h2)
theorem JY {ι:au} {μ:Mu} {ty:Option Ty} {v:V} {x:Value} (h:Rel ι μ v x):Rel ι μ (Mc ty v) x:=by
 unfold Mc
 split
 ·exact h
 ·rename_i t
  split
  ·rename_i cs
   cases h with
   |agg _ xs h1 h2 h3 =>
    have:=tW (ts:=vc t) (ι:=ι) (μ:=μ) (cs:=cs) (xs:=xs.toList) ⟨by simpa using h1,fun i v x hv hx=>h2 i v x hv (by simpa using hx)⟩
    exact .agg _ _ (by simpa using this.1) (fun i v x hv hx=>this.2 i v x hv (by simpa using hx)) h3
  ·exact zo h
theorem lQ {ι : au} {μ : Mu} : ∀ {ts : List (Option Ty)} {cs : List V} {xs : List Value}, aI ι μ cs xs → aI ι μ (cO ts cs) xs
 |[],cs,xs,h=>by cases cs<;>exact h
 |t::ts,[],xs,h=>h
 |t::ts,c::cs,xs,h=>by
  obtain ⟨x,r,rfl,h1,h2⟩:=h.bC
  exact .cons (JY h1) (lQ h2)
end Go.AM
end
section
namespace Go.AM
def Md : Value → Option V
 | .bool b=>some (.tf b)
 | .int k n=>some (.int k n)
 | .string s=>some (.str s)
 | .slice none 0 0=>some .bX
 | .pointer none=>some .eE
 | .nilFunc=>some .cG
 | .nilIface=>some .ff
 | .map none=>some .cD
 |_=>none
def yN : List Value → Option (List V)
 |[]=>some []
 |v::r=>match Md v,yN r with
  |some x,some xs=>some (x::xs)
  |_,_=>none
def ofC : Value → Option V
 | .agg cs=>match yN cs.toList with
  |some vs=>some (.agg vs)
  |none=>none
 |v=>Md v
def dA : Operand → Option O
 | .tmp t=>some (.t t)
 | .const v=>match ofC v with
  |some x=>some (.c x)
  |none=>none
 | .func f=>some (.c (.fn f [] []))
 | .global _=>none
def vO : List Operand → Option (List O)
 |[]=>some []
 |x::r=>match dA x,vO r with
  |some y,some ys=>some (y::ys)
  |_,_=>none
def W2 : Operand → Operand → Option O
 | .tmp n,.tmp m=>if n=m then some (.t n) else none
 | .const (.int k n),.const (.int k' m)=>if k=k'∧n=m then some (.c (.int k n)) else none
 |_,_=>none
def CM (g : TypeId → Option Ty) : List Field → Option Ty
 |[]=>some .unit
 |[f]=>g f.type
 |f::r=>match g f.type,CM g r with
  |some a,some b=>some (.prod a b)
  |_,_=>none
def Vg : Nat → Ty → Ty
 |0,_=>.unit
 |1,t=>t
 |n+2,t=>.prod t (Vg (n+1) t)
def abd (P:Program) (ms:Array (String×TypeId)):Option Nat:=(List.range P.types.size).find? fun t=>match P.underlying t with
 |some (.struct _)=>match P.info? t with
  |some i => !ms.isEmpty&&ms.all fun (n,_)=>i.methods.any fun m=>m.name==n&&m.path.isEmpty&&(match m.func with
   |some (_,false)=>true
   |_=>false)
  |none=>false
 |_=>false
def pq (P : Program) : Nat → TypeId → Option Ty
 |0,_=>none
 |n+1,t=>match P.underlying t with
  |some .bool=>some .bool
  |some (.int k)=>some (.int k)
  |some .string=>some .str
  |some (.slice e)=>(pq P n e).map .list
  |some (.struct fs)=>match fs.toList with
   |[f]=>(pq P n f.type).map fun a=>.prod a .unit
   |fs=>CM (pq P n) fs
  |some (.array m e)=>(pq P n e).map (Vg m)
  |some (.interface ms)=>match abd P ms with
   |some d=>(pq P n d).map (.cu d true)
   |none=>none
  |_=>none
def cW (P:Program) (t:TypeId):Option Nat:=(P.info? t).map (·.size)
def sH (P:Program) (t:TypeId):Option Bool:=match P.underlying t with
 |some (.struct _)=>some true
 |some (.array _ _)=>some true
 |some _=>some false
 |none=>none
def tX : Ty → Value → Bool
 | .bool,.bool b => !b
 | .str,.string s=>s.size==0
 | .int k,.int k' n=>decide (k=k')&&n==0
 | .list _,.slice none 0 0=>true
 |_,_=>false
def dV : Ty → List Value → Option (List Value)
 | .unit,vs=>some vs
 | .prod a b,vs=>match dV a vs with
  |some r=>dV b r
  |none=>none
 | .bool,v::r=>if tX .bool v then some r else none
 | .str,v::r=>if tX .str v then some r else none
 | .int k,v::r=>if tX (.int k) v then some r else none
 | .list t,v::r=>if tX (.list t) v then some r else none
 | .cu _ _ _,_::_=>none
 |_,[]=>none
def HN (t : Ty) : Nat → List Value → Option (List Value)
 |0,vs=>some vs
 |n+1,vs=>match dV t vs with
  |some r=>HN t n r
  |none=>none
def AV : Ty → Bool
 | .unit=>true
 | .bool=>true
 | .str=>true
 | .int _=>true
 | .prod a b=>AV a&&AV b
 |_=>false
def Vh (P:Program) (e:TypeId):Option (Ty×Nat):=match P.underlying e with
 |some (.array m el)=>match pq P 8 el,cW P el with
  |some ty,some k=>if ty.sz=k∧1≤k∧m≤64∧AV ty=true∧cW P e=some (m * k) then some (ty,m) else none
  |_,_=>none
 |_=>none
def FA : Value → Bool
 | .agg _=>true
 |_=>false
def zq (P:Program) (e:TypeId):Option (Ty×Bool):=match pq P 8 e,sH P e,P.info? e with
 |some ty,some g,some i=>match i.zero with
  |some z=>match dV ty z.cells.toList with
   |some []=>if FA z=g then some (ty,g) else none
   |_=>none
  |none=>none
 |_,_,_=>none
def Q2 (P:Program) (name:String):List (Nat×Nat):=(List.range P.types.size).filterMap fun t=>match P.info? t with
 |some i=>match i.methods.find? (·.name==name) with
  |some m=>if m.path.isEmpty then (match m.func,P.underlying t with
   |some (f,true),some (.pointer _)=>some (t,f)
   |some (_,true),_=>none
   |some (_,false),some (.pointer _)=>none
   |some (f,false),some _=>some (t,f)
   |_,_=>none) else none
  |none=>none
 |none=>none
def Vi (n f:Nat):List Bool:=if n=1 then [false] else if f+1=n then List.replicate f true else List.replicate f true++[false]
def vP : BinOp → Option yJ
 | .add=>some .add
 | .sub=>some .sub
 | .mul=>some .mul
 | .quo=>some .quo
 | .rem=>some .rem
 | .and=>some .and
 | .or=>some .or
 | .xor=>some .xor
 | .andNot=>some .andNot
 | .shl=>some .shl
 | .shr=>some .shr
 | .eql=>some .eql
 | .neq=>some .neq
 | .lss=>some .lss
 | .leq=>some .leq
 | .gtr=>some .gtr
 | .geq=>some .geq
def lR:Nat:=1024
def jS (P:Program) (e:TypeId):Option Nat:=match P.info? e with
 |some i=>match i.zero with
  |some z=>if i.bytes≤lR∧z.cells.size=i.size then some i.size else none
  |none=>none
 |none=>none
def partsOf (place : Nat → Option (Nat × Nat)) : List (Nat × Operand) → Option (List (Nat × Nat × O))
 |[]=>some []
 |(i,x)::r=>match place i,dA x,partsOf place r with
  |some (off,k),some y,some ys=>some ((off,k,y)::ys)
  |_,_,_=>none
def vf : Nat → List (Nat × Operand) → Option (List O)
 |_,[]=>some []
 |n,(i,x)::r=>if i=n then (match dA x,vf (n+1) r with
  |some y,some ys=>some (y::ys)
  |_,_=>none) else none
def AW : Option Operand → Option (Option O)
 |none=>some none
 |some x=>(dA x).map some
def qK (P:Program) (s:TypeId) (f:Nat):Option (Field×Nat):=match P.underlying s with
 |some (.struct fs)=>match fs[f]? with
  |some fd=>some (fd,fs.size)
  |none=>none
 |_=>none
def kW : BinOp → Option Bool
 | .eql=>some false
 | .neq=>some true
 |_=>none
def tY (P : Program) : Nat → List Field → Option (List Kd)
 |_,[]=>some []
 |n,f::r=>if f.name ≠ "_" ∧ f.offset=n then (match P.underlying f.type,tY P (n+1) r with
  |some .bool,some ks=>some (.b::ks)
  |some (.int _),some ks=>some (.i::ks)
  |some .string,some ks=>some (.s::ks)
  |_,_=>none) else none
def Me (P:Program) (t:TypeId):Option (List Kd):=match P.underlying t with
 |some (.struct fs)=>if P.stoodInHeld t=false∧(P.info? t).isSome then (match tY P 0 fs.toList with
  |some ks=>if P.cellsOf t=ks.length then some ks else none
  |none=>none) else none
 |_=>none
def Q3 (P:Program) (t:TypeId):Option (List Kd):=match P.underlying t with
 |some (.array m e)=>(match P.underlying e with
  |some (.int _)=>if P.cellsOf e=1∧(P.info? e).isSome∧(P.info? t).isSome∧P.cellsOf t=m then some (List.replicate m .i) else none
  |_=>none)
 |_=>none
def iz (P : Program) : Nat → List Field → Option (List Kd)
 |_,[]=>some []
 |n,f::r=>if f.name ≠ "_" ∧ f.offset=n then (match P.underlying f.type with
  |some .bool=>(iz P (n+1) r).map (.b::·)
  |some (.int _)=>(iz P (n+1) r).map (.i::·)
  |some .string=>(iz P (n+1) r).map (.s::·)
  |some (.struct _)=>(match Me P f.type with
   |some ks=>(iz P (n+ks.length) r).map (ks++·)
   |none=>none)
  |some (.array _ _)=>(match Q3 P f.type with
   |some ks=>(iz P (n+ks.length) r).map (ks++·)
   |none=>none)
  |_=>none) else none
def structEq (P:Program) (t:TypeId):Option (List Kd):=match P.underlying t with
 |some (.struct fs)=>if P.eqGuardType P.depth t=false∧P.stoodInHeld t=false then iz P 0 fs.toList else none
 |some (.array _ _)=>if P.eqGuardType P.depth t=false then Q3 P t else none
 |_=>none
def bF : Ty → Option (List Kd)
 | .unit=>some []
 | .bool=>some [.b]
 | .str=>some [.s]
 | .int _=>some [.i]
 | .prod a b=>match bF a,bF b with
  |some x,some y=>some (x++y)
  |_,_=>none
 |_=>none
def vQ (P:Program) (k:TypeId):Option (Ty×Bool):=match P.underlying k with
 |some (.int i)=>some (.int i,false)
 |some .string=>some (.str,false)
 |some (.struct fs)=>match pq P 8 k,tY P 0 fs.toList with
  |some ty,some ks=>if bF ty=some ks∧P.stoodInHeld k=false then some (ty,true) else none
  |_,_=>none
 |_=>none
def jT (P:Program) (t:TypeId):Option (Ty×Bool×Ty×Bool):=match P.underlying t with
 |some (.map k e)=>match vQ P k,zq P e with
  |some (kt,kg),some (vt,vg)=>some (kt,kg,vt,vg)
  |_,_=>none
 |_=>none
def trB (P:Program) (b:Builtin) (tys:List TypeId) (args:List Operand):Option I :=
 match b,tys,args with
 | .len,[t],[x]=>match P.underlying t with
  |some .string=>(dA x).map .lens
  |some (.slice _)=>(dA x).map .len
  |some (.array n _)=>some (.yL n)
  |some (.map _ _)=>(dA x).map fun x=>.ex .QT [x]
  |some (.pointer a)=>match P.underlying a with
   |some (.array n _)=>some (.yL n)
   |_=>none
  |_=>none
 | .append,[t,u],[x,y]=>match P.underlying t,P.underlying u with
  |some (.slice e),some (.slice _)=>match jS P e,dA x,dA y with
   |some k,some x,some y=>some (.append k x y)
   |_,_,_=>none
  |some (.slice e),some (.int _)=>match pq P 8 e,jS P e,P.info? e with
   |some ty,some k,some i=>match i.zero with
    |some z=>match dV ty z.cells.toList with
     |some []=>match dA x,dA y with
      |some x,some y=>if ty.sz=k∧z.cells.size=k then some (.ex (.W0 ty) [x,y]) else none
      |_,_=>none
     |_=>none
    |none=>none
   |_,_,_=>none
  |_,_=>none
 | .cap,[t],[x]=>match P.underlying t with
  |some (.slice _)=>(dA x).map fun x=>.ex .capn [x]
  |_=>none
 | .clear,[t],[x]=>match P.underlying t with
  |some (.slice e)=>match pq P 8 e,jS P e,P.info? e with
   |some ty,some k,some i=>match i.zero with
    |some z=>match dV ty z.cells.toList with
     |some []=>if ty.sz=k∧z.cells.size=k then (dA x).map fun x=>.ex (.clear ty) [x] else none
     |_=>none
    |none=>none
   |_,_,_=>none
  |_=>none
 | .max,_,x::r=>match dA x,vO r with
  |some x,some ys=>some (.lC true x ys)
  |_,_=>none
 | .min,_,x::r=>match dA x,vO r with
  |some x,some ys=>some (.lC false x ys)
  |_,_=>none
 |_,_,_=>none
def zu (P:Program) (op:BinOp) (t:TypeId) (x y:Operand):Option I:=match y with
 | .const (.slice none 0 0)=>match P.underlying t,dA x,kW op with
  |some (.slice _),some x,some n=>some (.ex (.LY n) [x])
  |_,_,_=>none
 | .const (.map none)=>match P.underlying t,dA x,kW op with
  |some (.map _ _),some x,some n=>some (.ex (.Fp n) [x])
  |_,_,_=>none
 | .const (.pointer none)=>match P.underlying t,dA x,kW op with
  |some (.pointer _),some x,some n=>some (.ex (.Fq n) [x])
  |_,_,_=>none
 |y=>match dA x,dA y with
  |some x,some y=>match structEq P t with
   |some ks=>match kW op with
    |some n=>some (.eqs n ks x y)
    |none=>none
   |none=>match P.underlying t with
    |some .bool=>(kW op).map (.QV · x y)
    |some (.int _)=>(vP op).map (.bin · x y)
    |some .string=>(vP op).map (.bin · x y)
    |_=>none
  |_,_=>none
def sI (P:Program) (t:TypeId) (x i:Operand):Option I:=match x with
 | .global g=>match P.underlying t,oL P g,dA i with
  |some (.array n e),some dz,some i=>match P.underlying e,cW P e with
   |some (.int .u8),some 1=>if dz.length=n then some (.yK n 1 (.c (.kV (.int .u8) dz)) i) else none
   |_,_=>none
  |_,_,_=>none
 |_=>none
def CO (P:Program) (o:Op):Option I :=
 match o with
 | .move x=>(dA x).map .mv
 | .assign x=>(dA x).map .mv
 | .pick c a b=>match dA c,dA a,dA b with
  |some c,some a,some b=>some (.pick c a b)
  |_,_,_=>none
 | .alloc e=>match P.info? e with
  |some i=>match i.zero with
   |some z=>match Vh P e with
    |some (ty,m)=>match HN ty m z.cells.toList with
     |some []=>some (.ex (.Fs ty m) [])
     |_=>none
    |none=>(yN z.cells.toList).map .alloc
   |none=>none
  |none=>none
 | .box e x=>match Vh P e with
  |some (ty,m)=>(dA x).map fun x=>.ex (.QU ty m) [x]
  |none=>(dA x).map .box
 | .build t parts=>match P.info? t,P.underlying t with
  |some it,some (.struct fields)=>match it.zero,fields.toList.mapM (fun f=>(P.info? f.type).map fun i=>(f.offset,i.size)) with
   |some z,some places=>match yN z.cells.toList,partsOf (places.toArray[·]?) parts.toList with
    |some z,some ps=>some (.build z ps)
    |_,_=>none
   |_,_=>none
  |some it,some (.array _ e)=>match it.zero,P.info? e with
   |some z,some ie=>match yN z.cells.toList,partsOf (fun i=>some (i * ie.size,ie.size)) parts.toList with
    |some z,some ps=>some (.build z ps)
    |_,_=>none
   |_,_=>none
  |_,_=>none
 | .buildSlice t n parts=>match P.underlying t with
  |some (.slice e)=>match pq P 8 e,jS P e,vf 0 parts.toList with
   |some ty,some k,some xs=>if ty.sz=k∧xs.length=n∧n * k≤2 ^ 20 then some (.dS ty xs) else none
   |_,_,_=>none
  |_=>none
 | .load t x=>match cW P t,sH P t,dA x with
  |some k,some g,some x=>some (.load g k x)
  |_,_,_=>none
 | .store t a x=>match cW P t,dA a,dA x with
  |some k,some a,some x=>some (.store k a x)
  |_,_,_=>none
 | .binOp op t x y _=>zu P op t x y
 | .nilCheck x=>(dA x).map fun x=>.ex .iQ [x]
 | .unOp .neg _ x=>(dA x).map .neg
 | .unOp .not _ x=>(dA x).map .not
 | .convert s d x=>match P.underlying s,P.underlying d with
  |some (.int _),some (.int k)=>(dA x).map (.conv k)
  |some .string,some (.slice e)=>match P.underlying e with
   |some (.int .u8)=>(dA x).map fun x=>.ex .bytes [x]
   |_=>none
  |some (.slice e),some .string=>match P.underlying e with
   |some (.int .u8)=>(dA x).map fun x=>.ex .text [x]
   |_=>none
  |_,_=>none
 | .makeFunc (.func f) a b=>match vO a.toList,vO b.toList with
  |some a,some b=>some (.AN f a b)
  |_,_=>none
 | .makeSlice t n m=>match W2 n m with
  |some xn=>(match P.underlying t with
  |some (.slice e)=>match pq P 8 e,jS P e,P.info? e with
   |some ty,some k,some i=>match i.zero with
    |some z=>match dV ty z.cells.toList with
     |some []=>if ty.sz=k∧z.cells.size=k then some (.iM ty xn) else none
     |_=>none
    |none=>none
   |_,_,_=>none
  |_=>none)
  |none=>none
 | .slice t x lo hi mx=>match P.underlying t with
  |some (.slice e)=>match cW P e,dA x,AW lo,AW hi,AW mx with
   |some k,some x,some lo,some hi,some mx=>some (.slice k x lo hi mx)
   |_,_,_,_,_=>none
  |_=>none
 | .fieldAddr s x f=>match qK P s f with
  |some (fd,n)=>match cW P fd.type,dA x with
   |some (_+1),some x=>some (.mD fd.offset (Vi n f) x)
   |_,_=>none
  |none=>none
 | .field s x f=>match qK P s f with
  |some (fd,_)=>match cW P fd.type,sH P fd.type,dA x with
   |some k,some g,some x=>some (.field g fd.offset k x)
   |_,_,_=>none
  |none=>none
 | .indexAddr t x i=>match P.underlying t,dA x,dA i with
  |some (.slice e),some x,some i=>(cW P e).map fun k=>.idx k x i
  |some (.array n e),some x,some (.c (.int _ (.ofNat m)))=>match cW P e with
   |some (k+1)=>if m<n then some (.mD (m * (k+1)) (Vi n m) x) else none
   |_=>none
  |some (.array n e),some x,some i=>(cW P e).map fun k=>.yK n k x i
  |_,_,_=>sI P t x i
 | .index t x i=>match P.underlying t,dA x,dA i with
  |some (.array n e),some x,some i=>match cW P e,sH P e with
   |some (k+1),some g=>some (.ex (.LX n (k+1) g) [x,i])
   |_,_=>none
  |some .string,some x,some i=>some (.ex .vN [x,i])
  |_,_,_=>none
 | .makeMap t none=>match jT P t with
  |some (kt,kg,vt,vg)=>some (.ex (.iR kt kg vt vg) [])
  |none=>none
 | .lookup t x i ok=>match jT P t,dA x,dA i with
  |some (kt,kg,vt,vg),some x,some i=>some (.ex (.gh kt kg vt vg ok) [x,i])
  |_,_,_=>none
 | .mapUpdate t m k v=>match jT P t,dA m,dA k,dA v with
  |some (kt,kg,vt,vg),some m,some k,some v=>some (.ex (.iw kt kg vt vg) [m,k,v])
  |_,_,_,_=>none
 | .makeInterface t x=>match P.underlying t with
  |some (.interface _)=>none
  |some _=>(dA x).map fun x=>.ex (.mkif t) [x]
  |none=>none
 | .panic _=>some (.ex .vN [])
 | .range _ _=>some (.ex .vN [])
 | .next _ _=>some (.ex .vN [])
 | .entry _=>some (.ex .vN [])
 | .extract x k=>(dA x).map (.ext k)
 | .call { callee:=.builtin b,args,argTypes }=>trB P b argTypes.toList args.toList
 |_=>none
def trG (ops : Array Oper) : Option (Nat × Bool) → Option (Option (Nat × Bool))
 |none=>some none
 |some (j,b)=>match ops[j]? with
  |some o=>match o.dst with
   |some d=>some (some (d,b))
   |none=>none
  |none=>none
def qL (N : Nat) : Option Nat → Bool
 |none=>true
 |some d=>d<N
def mE (P : Program) : Callee → Option O
 | .value f=>dA f
 | .invoke (.tmp t) name=>some (.m t (Q2 P name))
 |_=>none
def rawF (P:Program) (f:Nat):Bool:=match P.funcs[f]? with
 |some f=>(Nat.beq f.targs.size 1||(Nat.beq f.params.size 2&&(match f.params[1]? with
   |some t=>(match P.underlying t with
    |some (.int _)=>true
    |some (.func _ rs _)=>Nat.beq rs.size 0
    |_=>false)
   |none=>false)))&&Nat.beq f.resultTypes.size 1&&(match f.params[0]?,f.resultTypes[0]? with
  |some a,some b=>Nat.beq a b
  |_,_=>false)
 |none=>false
def iO (P:Program) (f:O) (tys:Array TypeId):List (Option Ty):=match f with
 | .c (.fn f [] [])=>match rawF P f with
  |true=>hTs (tys.toList.map (pq P 8))
  |false=>tys.toList.map (pq P 8)
 |_=>tys.toList.map (pq P 8)
def pJ (P:Program) (N:Nat) (ops:Array Oper) (o:Oper):Option eR :=
 if qL N o.dst then
  match trG ops o.guard with
  |none=>none
  |some g =>
   match o.op with
   | .call { callee:=.value f,args,argTypes }=>match dA f,vO args.toList with
    |some f,some args=>some (.call o.dst g f args (iO P f argTypes))
    |_,_=>none
   | .call { callee:=.invoke r name,args,argTypes }=>match mE P (.invoke r name),vO args.toList with
    |some f,some args=>some (.call o.dst g f args (iO P f argTypes))
    |_,_=>none
   |op=>match CO P op with
    |some i=>some (.op o.dst g i)
    |none=>none
 else none
def dW (P : Program) (N : Nat) (ops : Array Oper) : List Oper → Option (List eR)
 |[]=>some []
 |o::r=>match pJ P N ops o,dW P N ops r with
  |some i,some is=>some (i::is)
  |_,_=>none
def bP (ops:Array Oper):List (List Nat):=(Region.before ops).toList.map fun m=>(List.range ops.size).filter fun j=>m.testBit j
def I.os : I → List O
 | .mv x=>[x]
 | .pick c a b=>[c,a,b]
 | .alloc _=>[]
 | .box x=>[x]
 | .build _ ps=>ps.map (·.2.2)
 | .dS _ xs=>xs
 | .load _ _ x=>[x]
 | .store _ a x=>[a,x]
 | .bin _ x y=>[x,y]
 | .QV _ x y=>[x,y]
 | .eqs _ _ x y=>[x,y]
 | .neg x=>[x]
 | .not x=>[x]
 | .conv _ x=>[x]
 | .mD _ _ x=>[x]
 | .field _ _ _ x=>[x]
 | .idx _ x i=>[x,i]
 | .yK _ _ x i=>[x,i]
 | .ext _ x=>[x]
 | .len x=>[x]
 | .lens x=>[x]
 | .yL _=>[]
 | .append _ x y=>[x,y]
 | .iM _ n=>[n]
 | .AN _ a b=>a++b
 | .slice _ x lo hi mx=>x::(lo.toList++hi.toList++mx.toList)
 | .lC _ x ys=>x::ys
 | .ex _ xs=>xs
def HO : O → List Nat
 | .t n=>[n]
 | .c _=>[]
 | .m n _=>[n]
def eR.dst : eR → Option Nat
 | .op d _ _=>d
 | .call d _ _ _ _=>d
def eR.W3 : eR → Option (Nat × Bool)
 | .op _ g _=>g
 | .call _ g _ _ _=>g
def eR.os : eR → List O
 | .op _ _ i=>i.os
 | .call _ _ f as _=>f::as
def eR.uses (i:eR):List Nat:=i.os.flatMap HO++(match i.W3 with
 |some (s,_)=>[s]
 |none=>[])
def AX (d:Option Nat) (l:List Nat):Bool:=match d with
 |some t => !(l.contains t)
 |none=>true
def mF (a b:eR):Bool:=AX a.dst b.uses&&AX b.dst a.uses&&(match a.dst with
 |some t=>b.dst != some t
 |none=>true)
def qM (cS:List (List Nat)) (is:List eR):Bool :=
 (List.range is.length).all fun j=>(List.range j).all fun i=>((cS.getD j []).contains i)||(match is[i]?,is[j]? with
  |some a,some b=>mF a b
  |_,_=>true)
def gP (ops:Array Oper):Bool:=ops.toList.zipIdx.all fun (o,i)=>o.after.all fun e => !(Region.binds .any e)||decide (e.on<i)
def W4 : eR → Bool
 | .call _ _ _ _ _=>true
 |_=>false
def Q4 (cS:List (List Nat)) (n c:Nat):Bool:=(List.range n).all fun i=>decide (i<c)||(List.range i).all fun j=>(cS.getD i []).contains j
def CQ : List eR → Nat → Option Nat → Option Nat
 |[],_,r=>r
 |i::l,k,r=>CQ l (k+1) (match W4 i with
  |true=>some k
  |false=>r)
def HP (cS:List (List Nat)) (is:List eR):Option Nat:=match CQ is 0 none with
 |some c=>match Q4 cS is.length c&&decide (c≤is.length) with
  |true=>some c
  |false=>none
 |none=>none
structure Vj where
 pre:List eR
 m:O
 it:Nat
 cl:List Nat
 e:Option Nat
 kt:Ty
 kg:Bool
 vt:Ty
 vg:Bool
 pH:Nat
def Mf (P : Program) (N : Nat) : Code → Option (List eR × O × Nat × Ty × Bool × Ty × Bool)
 | .region _ ops false=>match ops.toList.reverse with
  |o::r=>match o.op with
   | .range t x=>match o.dst with
    |some it=>if o.guard=none∧it<N then (match jT P t,dA x,dW P N ops r.reverse with
     |some (kt,kg,vt,vg),some m,some is=>some (is,m,it,kt,kg,vt,vg)
     |_,_,_=>none) else none
    |none=>none
   |_=>none
  |[]=>none
 |_=>none
def Mh (N it : Nat) : Code → Option (Nat × Nat)
 | .region _ ops false=>match ops.toList with
  |[o,o']=>match o.op with
   | .next (.tmp i) false=>match o.dst with
    |some n=>match o'.op with
     | .extract (.tmp n') 0=>match o'.dst with
      |some ok=>if o.guard=none∧o'.guard=none∧i=it∧n'=n∧n<N∧ok<N∧n≠it∧ok≠it then some (n,ok) else none
      |none=>none
     |_=>none
    |none=>none
   |_=>none
  |_=>none
 |_=>none
def sJ (N it : Nat) : Code → Option Nat
 | .seq (.region _ ops false) _=>match ops.toList with
  |o::_=>match o.op with
   | .entry (.tmp i)=>match o.dst with
    |some e=>if o.guard=none∧i=it∧e<N∧e≠it then some e else none
    |none=>none
   |_=>none
  |[]=>none
 |_=>none
def vR (P:Program) (N:Nat) (a b:Code):Option Vj:=match b with
 | .block b1 (.loop (.seq x (.seq (.cond (.tmp t) .skip (.exit b2)) (.block _ y))))=>match Mf P N a with
  |some (is,m,it,kt,kg,vt,vg)=>match Mh N it x with
   |some (n,ok)=>if t=ok∧b1=b2 then some ⟨is,m,it,[n,ok],sJ N it y,kt,kg,vt,vg,b1⟩ else none
   |none=>none
  |none=>none
 |_=>none
def HQ (e : Option Nat) : C → Option C
 | .block _ (.loop (.seq _ (.seq _ (.block b x))))=>match e with
  |none=>some (.block b x)
  |some _=>match x with
   | .seq (.aV (_::is)) r=>some (.block b (.seq (.aV is) r))
   |_=>none
 |_=>none
def fB (P : Program) (N : Nat) : Code → Option C
 | .skip=>some .skip
 | .label _=>some .skip
 | .scope c=>fB P N c
 | .region _ ops draw=>match dW P N ops ops.toList with
  |some is=>match draw with
   |true=>if qM (bP ops) is=true∧gP ops=true then some (match HP (bP ops) is with
    |some c=>.seq (.draw (bP ops) (is.take c)) (.aV (is.drop c))
    |none=>.draw (bP ops) is) else none
   |false=>some (.aV is)
  |none=>none
 | .seq a b=>match fB P N a,fB P N b with
  |some ca,some cb=>match vR P N a b with
   |none=>some (.seq ca cb)
   |some h=>match HQ h.e cb with
    |some bd=>some (.gK h.pre h.m h.it h.cl h.e h.kt h.kg h.vt h.vg h.pH bd)
    |none=>none
  |_,_=>none
 | .cond c a b=>match dA c,fB P N a,fB P N b with
  |some c,some a,some b=>some (.cond c a b)
  |_,_,_=>none
 | .block id c=>(fB P N c).map (.block id)
 | .loop c=>(fB P N c).map .loop
 | .exit id=>some (.exit id)
 | .ret=>some .ret
 | .rangeFunc f ps a b=>match dA f,fB P N a,fB P N b with
  |some f,some a,some b=>some (.bH f ps.toList a b)
  |_,_,_=>none
 |_=>none
inductive RV where
 |t (n:Nat)
 |cell (n:Nat) (agg:Bool) (k:Nat)
structure Fn where
 N:Nat
 np:Nat
 body:C
 res:List RV
 tys:List (Option Ty)
def Mi (P : Program) : List ResultVar → Option (List RV)
 |[]=>some []
 | .tmp t::r=>(Mi P r).map (.t t::·)
 | .cell a t::r=>match cW P t,sH P t,Mi P r with
  |some k,some g,some rs=>some (.cell a g k::rs)
  |_,_,_=>none
def cw (P:Program) (f:Func):Option Fn:=match f.body with
 |some c=>match fB P f.ntmps c,Mi P f.results.toList with
  |some b,some rs=>if f.params.size+f.nfree≤f.ntmps then some ⟨f.ntmps,f.params.size+f.nfree,b,rs,f.resultTypes.toList.map (pq P 8)⟩ else none
  |_,_=>none
 |none=>none
end Go.AM
end
section
namespace Go.AM
def Q5 (c:O) (b:Bool) (S:St):St:=match c with
 | .t n=>QZ n b S
 | .c _=>S
 | .m _ _=>S
def dK : Nat → V → Bool
 |0,_=>false
 |n+1,v=>match v with
  | .sl _ _ _ _=>false
  | .ptr _ _=>false
  | .ep _ _ _ _=>false
  | .yl _=>false
  | .mp _=>false
  | .pa _ _ _=>false
  | .sp _ _ _=>false
  | .fu cs=>cs.all (dK n)
  | .fn _ a b=>a.all (dK n)&&b.all (dK n)
  | .agg cs=>cs.all (dK n)
  | .cK cs=>cs.all (dK n)
  | .cu _ v=>dK n v
  |_=>true
def di (g : V → Option V) : List V → Option (List V)
 |[]=>some []
 |v::r=>match g v with
  |some x=>match di g r with
   |some xs=>some (x::xs)
   |none=>none
  |none=>none
def fin (ar : Ar) (bl : aq) : Nat → V → Option V
 |0,_=>none
 |n+1,v=>match v with
  | .sl id t lo m=>match ay id bl with
   |some (.arr t' xs _)=>if t=t' then some (.eO t' (ar.sub' xs lo m)) else none
   |_=>none
  | .ptr id off=>match ay id bl with
   |some (.cells cs _)=>match di (fin ar bl n) cs with
    |some ds=>if off≤ds.length then some (.fu (ds.drop off)) else none
    |none=>none
   |_=>none
  | .ep _ _ _ _=>none
  | .yl _=>none
  | .mp _=>none
  | .sp _ _ _=>none
  | .pa id t m=>match ay id bl with
   |some (.arr t' xs _)=>if t=t' then some (.kV t' xs) else none
   |_=>none
  | .fn f a b=>match di (fin ar bl n) a,di (fin ar bl n) b with
   |some a,some b=>some (.fn f a b)
   |_,_=>none
  | .agg cs=>match di (fin ar bl n) cs with
   |some cs=>some (.agg cs)
   |none=>none
  | .cK cs=>match di (fin ar bl n) cs with
   |some cs=>some (.cK cs)
   |none=>none
  | .cu t v=>match fin ar bl n v with
   |some v=>some (.cu t v)
   |none=>none
  | .fu cs=>if cs.all (dK n) then some (.fu cs) else none
  |v=>some v
def uK : V → List Nat
 | .sl id _ _ _=>[id]
 | .ptr id _=>[id]
 | .ep id _ _ _=>[id]
 | .mp id=>[id]
 | .pa id _ _=>[id]
 | .sp id _ _=>[id]
 |_=>[]
def qN : V → List Nat
 | .agg cs=>cs.flatMap uK
 |v=>uK v
def mG (i:I) (env:List (Nat×V)):List Nat:=match i with
 | .load _ _ x=>uK (x.ev env)
 | .store _ a x=>uK (a.ev env)++qN (x.ev env)
 | .dS _ xs=>(xs.map (·.ev env)).flatMap qN
 | .append _ x y=>uK (x.ev env)++uK (y.ev env)
 | .ex _ xs=>(xs.map (·.ev env)).flatMap qN
 |_=>[]
def AY (x : Nat) : List Nat → Bool
 |[]=>false
 |y::r=>match Nat.beq y x with
  |true=>true
  |false=>AY x r
def zw : List Nat → List Nat → Bool
 |[],_=>true
 |x::r,l=>match AY x l with
  |true=>false
  |false=>zw r l
structure DR where
 k:Nat
 rd:List Nat
 wr:List Nat
def AZ (cS:List (List Nat)) (a b:DR):Bool :=
 match AY a.k (cS.getD b.k []) with
 |true=>true
 |false=>match zw a.wr b.rd with
  |false=>false
  |true=>match zw a.wr b.wr with
   |false=>false
   |true=>zw a.rd b.wr
def HR (cS : List (List Nat)) (a : DR) : List DR → Bool
 |[]=>true
 |b::r=>match AZ cS a b with
  |true=>HR cS a r
  |false=>false
def Mj (cS : List (List Nat)) : List DR → Bool
 |[]=>true
 |a::r=>match HR cS a r with
  |true=>Mj cS r
  |false=>false
def vS (k:Nat) (rd wr:List Nat) (dg:List DR):List DR:=match rd,wr with
 |[],[]=>dg
 |_,_=>dg++[⟨k,rd,wr⟩]
def HS : V → Bool
 | .bool _=>true
 | .tf _=>true
 | .int _ _=>true
 | .str _=>true
 |_=>false
def Mk : V → Bool
 | .bool _=>true
 | .tf _=>true
 | .int _ _=>true
 | .str _=>true
 | .agg vs=>vs.all HS
 |_=>false
def CR : V → Bool
 | .bool _=>true
 | .tf _=>true
 | .int _ _=>true
 | .str _=>true
 | .agg vs=>vs.all HS
 | .cK vs=>vs.all Mk
 |_=>false
def CS (gs:List Nat) (d:Option Nat) (v:V) (env:List (Nat×V)) (K:List (Nat×V)→Prop):Prop:=match d with
 |none=>K env
 |some t=>match AY t gs with
  |false=>K (AS t v env)
  |true=>match v with
   | .bool c=>Br c (fun _=>K (AS t (.tf true) env)) (fun _=>K (AS t (.tf false) env))
   |v=>K (AS t v env)
def HT (g:Option (Nat×Bool)) (env:List (Nat×V)):Option Bool:=match g with
 |none=>some true
 |some (s,b)=>match get s env with
  | .tf c=>match c,b with
   |true,true=>some true
   |false,false=>some true
   |_,_=>some false
  | .cK _=>some false
  |_=>none
def fE (bl : aq) : Nat → V → List Nat
 |0,_=>[]
 |n+1,v=>match v with
  | .sl id _ _ _=>[id]
  | .pa id _ _=>[id]
  | .ptr id _=>id::(match ay id bl with
   |some (.cells cs _)=>cs.flatMap (fE bl n)
   |_=>[])
  | .fn _ a b=>a.flatMap (fE bl n)++b.flatMap (fE bl n)
  | .agg cs=>cs.flatMap (fE bl n)
  | .cK cs=>cs.flatMap (fE bl n)
  | .cu _ v=>fE bl n v
  |_=>[]
def jr (bl:aq) (vs:List V):List Nat:=vs.flatMap (fE bl 8)
def vT : List Nat → aq → Option eF
 |[],_=>some []
 |id::r,bl=>match ay id bl with
  |some (.arr t xs _)=>match vT r ((id,.arr t xs true)::bu id bl) with
   |some u=>some ((id,some (.arr t xs true))::u)
   |none=>none
  |some (.cells cs _)=>match vT r ((id,.cells cs true)::bu id bl) with
   |some u=>some ((id,some (.cells cs true))::u)
   |none=>none
  |_=>none
def HU (b:Bool) (ids:List Nat) (bl:aq):Option eF:=match b with
 |true=>some []
 |false=>vT ids bl
def vU (o:Out) (K:V→eF→Prop):Prop:=match o with
 |some (ob,v,u)=>uJ ob∧K v u
 |none=>False
theorem vV {o:Out} {K:V→eF→Prop} (h:vU o K):∃ob v u,o=some (ob,v,u)∧uJ ob∧K v u:=by
 unfold vU at h
 split at h
 ·exact ⟨_,_,_,rfl,h.1,h.2⟩
 ·exact h.elim
theorem zx {o:Out} {K:V→eF→Prop} {ob:List Bool} {v:V} {u:eF} (h:o=some (ob,v,u)) (cV:uJ ob) (hk:K v u):vU o K:=by
 subst h;exact ⟨cV,hk⟩
def qO (ar : Ar) (gs : List Nat) (b : Nat) : List eR → Nat → List (Nat × V) → aq → List DR → (List (Nat × V) → aq → List DR → Prop) → Prop
 |[],_,env,bl,dg,K=>K env bl dg
 | .op d g i::r,k,env,bl,dg,K=>match HT g env with
  |some true=>vU (bY ar i env bl (b+k)) (fun v u=>CS gs d v env fun env'=>qO ar gs b r (k+1) env' (bx u bl) (vS k (mG i env) (u.map (·.1)) dg) K) ∨
   vU (yM ar i env bl (b+k)) (fun v u=>CS gs d v env fun env'=>qO ar gs b r (k+1) env' (bx u bl) (vS k (mG i env) (u.map (·.1)) dg) K)
  |some false=>qO ar gs b r (k+1) (put d (.cK []) env) bl dg K
  |none=>False
 | .call d g f a tys::r,k,env,bl,dg,K=>match HT g env with
  |some true=>match f.ev env with
   | .fn f fs cs=>match fs++cO tys (a.map (·.ev env))++cs with
    |vs=>match di (fin ar bl 8) vs with
     |some vs'=>∃x u,ar.gO f vs' x∧HU (CR x||vs.all (dK 8)) (jr bl vs) bl=some u∧CS gs d x env fun env'=>qO ar gs b r (k+1) env' (bx u bl) (vS k (jr bl vs) (u.map (·.1)) dg) K
     |none=>False
   |_=>False
  |some false=>qO ar gs b r (k+1) (put d (.cK []) env) bl dg K
  |none=>False
def vW : List eR → List Nat
 |[]=>[]
 | .op _ (some (s,_)) _::r=>s::vW r
 | .call _ (some (s,_)) _ _ _::r=>s::vW r
 |_::r=>vW r
def Ml (ar:Ar) (cS:List (List Nat)) (is:List eR) (S:St) (K:St→Prop):Prop :=
 qO ar (vW is) S.H.next is 0 S.env S.H.bl [] fun env bl dg=>Mj cS dg=true∧K ⟨env,⟨S.H.next+is.length,bl⟩,S.ms⟩
def qP (ar : Ar) : C → St → (Ex → St → Prop) → Prop
 | .skip,S,K=>K .normal S
 | .aV is,S,K=>fD ar is S fun S=>K .normal S
 | .draw ps is,S,K=>Ml ar ps is S fun S=>K .normal S
 | .seq a b,S,K=>qP ar a S fun e S=>match e with
  | .normal=>qP ar b S K
  | .exit id=>K (.exit id) S
  | .ret=>K .ret S
 | .cond c a b,S,K=>match c.ev S.env with
  | .tf true=>qP ar a S K
  | .tf false=>qP ar b S K
  | .bool x=>Br x (fun _=>qP ar a (Q5 c true S) K) (fun _=>qP ar b (Q5 c false S) K)
  | .cb x=>(x=true→qP ar a (Q5 c true S) K)∧qP ar b (Q5 c false S) K
  |_=>False
 | .block id c,S,K=>qP ar c S fun e S=>match e with
  | .normal=>K .normal S
  | .exit id'=>match Nat.beq id' id with
   |true=>K .normal S
   |false=>K (.exit id') S
  | .ret=>K .ret S
 | .loop c,S,K=>Mb ar S fun S=>ar.loop c S K
 | .exit id,S,K=>K (.exit id) S
 | .ret,S,K=>K .ret S
 | .bH f ps a b,S,K=>Mb ar S fun S=>ar.bH f ps a b S K
 | .gK pre m it cl e kt kg vt vg pH b,S,K=>Mb ar S fun S=>ar.gK (.gK pre m it cl e kt kg vt vg pH b) S K
def args : Nat → List V → List (Nat × V)
 |_,[]=>[]
 |n,v::r=>(n,v)::args (n+1) r
end Go.AM
end
section
namespace Go.AM
structure Ctx where
  w0:World
  ι0:au
  m0:Mu
  ro:Option Nat
  x:Nat→Prop
  hid:List Nat
def Ctx.own (Y:Ctx) (b:Nat):Prop:=Y.w0.heap.size≤b∨Y.x b
theorem Ctx.lE {Y:Ctx} {b k:Nat} (h:Y.own b) (hk:k<Y.w0.heap.size) (hx:¬Y.x k):k≠b:=fun e=>by
  subst e;rcases h with h|h
  · omega
  · exact hx h
def js (o o':Option Obj):Prop:=∀ms c,o=some (.map ms c)→∃ms' c',o'=some (.map ms' c')∧(ms.toList.map fun m=>(m.born,m.key)) <+: (ms'.toList.map fun m=>(m.born,m.key))∧c≤c'
theorem js.eq {o o':Option Obj} (h:o'=o):js o o':=fun ms c e=>⟨ms,c,h.trans e,List.prefix_refl _,Nat.le_refl _⟩
theorem js.trans {a b c:Option Obj} (h:js a b) (k:js b c):js a c:=fun ms n e=>by
  obtain ⟨ms1,n1,e1,p1,q1⟩:=h ms n e
  obtain ⟨ms2,n2,e2,p2,q2⟩:=k ms1 n1 e1
  exact ⟨ms2,n2,e2,p1.trans p2,Nat.le_trans q1 q2⟩
theorem js.no {o o':Option Obj} (h:∀ms c,o≠some (.map ms c)):js o o':=fun ms c e=>absurd e (h ms c)
structure HV (x:Nat→Prop) (w0 w:World):Prop where
  os:w.os=w0.os
  tape:w.tape=w0.tape
  output:w.output=w0.output
  size:w0.heap.size≤w.heap.size
  block:∀k,k<w0.heap.size→¬x k→w.heap[k]?=w0.heap[k]?
  dr:w0.drawn≤w.drawn
  maps:∀k,k<w0.heap.size→js w0.heap[k]? w.heap[k]?
structure Dw (w w':World):Prop where
  b:RowKit.Below w.heap.size w w'
  dr:w.drawn≤w'.drawn
theorem HV.refl (x:Nat→Prop) (w:World):HV x w w:=⟨rfl,rfl,rfl,Nat.le_refl _,fun _ _ _=>rfl,Nat.le_refl _,fun _ _=>.eq rfl⟩
theorem HV.to {x:Nat→Prop} {w0 w:World} (h:HV x w0 w) (hx:∀k,¬x k):Dw w0 w:=⟨⟨h.os,h.tape,h.output,h.size,fun k hk=>h.block k hk (hx k)⟩,h.dr⟩
theorem HV.then {x:Nat→Prop} {w0 w w':World} (h:HV x w0 w) (k:Dw w w'):HV x w0 w' :=
  ⟨k.b.os.trans h.os,k.b.tape.trans h.tape,k.b.output.trans h.output,Nat.le_trans h.size k.b.size,fun i hi hx=>(k.b.block i (Nat.lt_of_lt_of_le hi h.size)).trans (h.block i hi hx),Nat.le_trans h.dr k.dr,
    fun i hi=>(h.maps i hi).trans (.eq (k.b.block i (Nat.lt_of_lt_of_le hi h.size)))⟩
structure Mem (B:Nat→Prop) (ι:au) (μ:Mu) (id:Nat) (fz:Bool) (w:World) (L:Loc) (vs:List Value):Prop where
  mu:μ id=some L
  old:B L.b
  row:∃c e,w.heap[L.b]?=some (.cells c e (0,0))∧c.size=L.tot∧∀(j:Nat) v,vs[j]?=some v→c[L.ba+j]?=some v
  fits:L.ba+vs.length≤L.tot
  one:∀v∈vs,v.oneCell'=true
  CT:fz=true→Reads ι L.b L.ba vs
  pK:fz=false→∀o,ι L.b o=none
def CU : Option Ex → Option Code → Prop
  |none,c=>c=none
  |some .normal,_=>False
  |some (.exit id),c=>c=some (.exit id)
  |some .ret,c=>c=some .ret
def stR : pY → LoopState
  | .ready=>.ready
  | .busy=>.busy
  | .done=>.done
  | .exhausted=>.exhausted
def ez (ι:au) (μ:Mu) (env:List (Nat×V)) (tmps:Array Value):Prop:=∀t,Rel ι μ (get t env) (tmps.getD t undef)
def dL (P : Program) (B : Nat → Prop) (ι : au) (μ : Mu) (id : Nat) (w : World) : kR → Prop
  | .cells cs fz=>∃L vs,Mem B ι μ id fz w L vs∧aI ι μ cs vs
  | .arr t xs fz=>(xs=[]∧μ id=none)∨∃L vs,Mem B ι μ id fz w L vs∧bw (ag ι t) xs vs∧xs.length=L.len
  | .loop st j d env ps as bd N=>∃L r Ld,μ id=some L∧B L.b∧w.heap[L.b]?=some (.loop r)∧r.state=stR st∧CU j r.pending∧ez ι μ env r.tmps ∧
      r.params.toList=ps∧r.tmps.size=N∧(∀p∈ps,p<N)∧fB P N r.assign=some as∧fB P N r.body=some bd∧μ d=some Ld∧r.defers=Ld.b
  | .ig=>∃L,μ id=some L∧B L.b∧w.heap[L.b]?=some (.deferred (some []))
  | .map kt kg vt vg es=>∃L ms clock dB,μ id=some L∧B L.b∧w.heap[L.b]?=some (.map ms clock)∧eV ι kt kg vt vg dB ms.toList∧(∀m∈ms.toList,m.born<clock)∧(ms.toList.map (·.born)).Nodup∧dB.Perm es∧KD kt dB
  | .mw t xs i p v=>∃L us vs c,Mem B ι μ id false w L vs∧bw (ag ι t) xs us∧xs.length=L.len∧i<xs.length∧i * t.sz+t.bE p<us.length∧vs=us.set (i * t.sz+t.bE p) c∧Rel ι μ v c
structure Inv (P:Program) (Y:Ctx) (ι:au) (μ:Mu) (H:aG) (w:World):Prop where
  below:HV Y.x Y.w0 w
  i0:Y.ι0.le ι
  iB:∀b o,b<Y.w0.heap.size→¬Y.x b→ι b o=Y.ι0 b o
  rd:∀b o x,ι b o=some x→w.cell? ⟨b,o,none⟩=some x
  m0:Y.m0.le μ
  nx:∀id,H.next≤id→μ id=none
  live:∀id B,ay id H.bl=some B→dL P Y.own ι μ id w B
  inj:∀id id' B B' L L',ay id H.bl=some B→ay id' H.bl=some B'→μ id=some L→μ id'=some L'→L.b=L'.b→id=id'
  lt:∀id B,ay id H.bl=some B→id<H.next
  gl:je P Y.ι0
theorem Inv.dz {P:Program} {Y:Ctx} {ι:au} {μ:Mu} {H:aG} {w:World} (h:Inv P Y ι μ H w):je P ι:=h.gl.mono h.i0
theorem bn (i j : Nat) : ∀ bl : aq, ay i (bu j bl) = if i = j then none else ay i bl
  |[]=>by simp [bu,ay]
  |(s,b)::r=>by
    have ih:=bn i j r
    by_cases h:s=j
    · subst h
      have:Nat.beq s s=true:=Nat.beq_refl s
      simp only [bu,this,ih]
      by_cases hi:i=s
      · simp [hi]
      · have h2 : Nat.beq s i = false := by rw [Bool.eq_false_iff]; intro e; exact hi (Nat.eq_of_beq_eq_true e).symm
        simp [hi,ay,h2]
    · have h1 : Nat.beq s j = false := by rw [Bool.eq_false_iff]; intro e; exact h (Nat.eq_of_beq_eq_true e)
      simp only [bu,h1,ay]
      by_cases hi:s=i
      · subst hi;simp [Nat.beq_refl,h]
      · have h2 : Nat.beq s i = false := by rw [Bool.eq_false_iff]; intro e; exact hi (Nat.eq_of_beq_eq_true e)
        simp [h2,ih]
theorem bq (i s:Nat) (b:kR) (r:aq):ay i ((s,b)::r)=if s=i then some b else ay i r:=by
  by_cases h:s=i
  · subst h;simp [ay,Nat.beq_refl]
  · have h2 : Nat.beq s i = false := by rw [Bool.eq_false_iff]; intro e; exact h (Nat.eq_of_beq_eq_true e)
    simp [ay,h2,h]
theorem bW (i s:Nat) (b:V) (r:List (Nat×V)):get i ((s,b)::r)=if s=i then b else get i r:=by
  by_cases h:s=i
  · subst h;simp [get,Nat.beq_refl]
  · have h2 : Nat.beq s i = false := by rw [Bool.eq_false_iff]; intro e; exact h (Nat.eq_of_beq_eq_true e)
    simp [get,h2,h]
theorem lS (i s:Nat) (b:V) (r:List (Nat×V)):get i (AS s b r)=if s=i then b else get i r:=by simp only [AS,bW]
theorem aD (i s:Nat) (b:kR) (bl:aq):ay i ((s,b)::bu s bl)=if i=s then some b else ay i bl:=by
  rw [bq,bn]
  by_cases h:s=i
  · simp [h]
  · simp [h,Ne.symm h,fun e:i=s=>h e.symm]
section
variable {P:Program} {Y:Ctx} {ι ι':au} {μ μ':Mu} {H:aG} {w w':World}
theorem Mem.mono {B : Nat → Prop} {id : Nat} {fz : Bool} {L : Loc} {vs : List Value} (h : Mem B ι μ id fz w L vs) (hi : ι.le ι') (hm : μ.le μ') (hw : w'.heap[L.b]? = w.heap[L.b]?)
    (hf:fz=false→∀o,ι' L.b o=none):Mem B ι' μ' id fz w' L vs :=
  ⟨hm _ _ h.mu,h.old,by rw [hw];exact h.row,h.fits,h.one,fun e=>(h.CT e).mono hi,hf⟩
theorem ez.mono (hi:ι.le ι') (hm:μ.le μ') {env:List (Nat×V)} {t:Array Value} (h:ez ι μ env t):ez ι' μ' env t:=fun i=>(h i).mono hi hm
theorem dL.mono {B : Nat → Prop} {id : Nat} {b : kR} (h : dL P B ι μ id w b) (hi : ι.le ι') (hm : μ.le μ') (hn : μ id = none → μ' id = none)
    (hw:∀L,μ id=some L→w'.heap[L.b]?=w.heap[L.b]?) (hf:∀L,μ id=some L→(∀o,ι L.b o=none)→∀o,ι' L.b o=none):dL P B ι' μ' id w' b:=by
  cases b with
  |cells cs fz =>
    obtain ⟨L,vs,hM,hR⟩:=h
    exact ⟨L,vs,hM.mono hi hm (hw L hM.mu) (fun e=>hf L hM.mu (hM.pK e)),hR.mono hi hm⟩
  |arr t xs fz =>
    rcases h with ⟨rfl,h⟩|⟨L,vs,hM,hR,hl⟩
    · exact .inl ⟨rfl,hn h⟩
    · exact .inr ⟨L,vs,hM.mono hi hm (hw L hM.mu) (fun e=>hf L hM.mu (hM.pK e)),bw.mono (fun _ _=>ag.mono hi) hR,hl⟩
  |loop st j d env ps as bd N =>
    obtain ⟨L,r,Ld,h1,h2,h3,h4,h5,h6,h7,h8,h9,h10,h11,h12,h13⟩:=h
    exact ⟨L,r,Ld,hm _ _ h1,h2,by rw [hw L h1];exact h3,h4,h5,h6.mono hi hm,h7,h8,h9,h10,h11,hm _ _ h12,h13⟩
  |ig =>
    obtain ⟨L,h1,h2,h3⟩:=h
    exact ⟨L,hm _ _ h1,h2,by rw [hw L h1];exact h3⟩
  |map kt kg vt vg es =>
    obtain ⟨L,ms,clock,dB,h1,h2,h3,h4,h5,h6,h7⟩:=h
    exact ⟨L,ms,clock,dB,hm _ _ h1,h2,by rw [hw L h1];exact h3,h4.mono hi,h5,h6,h7⟩
  |mw t xs i p v =>
    obtain ⟨L,us,vs,c,hM,hR,hl,h1,h2,h3,h4⟩:=h
    exact ⟨L,us,vs,c,hM.mono hi hm (hw L hM.mu) (fun e=>hf L hM.mu (hM.pK e)),bw.mono (fun _ _=>ag.mono hi) hR,hl,h1,h2,h3,h4.mono hi hm⟩
theorem dL.loc {B:Nat→Prop} {id:Nat} {b:kR} (h:dL P B ι μ id w b) {L:Loc} (hL:μ id=some L):B L.b∧L.b<w.heap.size:=by
  have lt:∀{o:Obj},w.heap[L.b]?=some o→L.b<w.heap.size:=fun h=>(Array.getElem?_eq_some_iff.1 h).1
  cases b with
  |cells cs fz =>
    obtain ⟨L',vs,hM,_⟩:=h
    have:=hM.mu;rw [hL] at this;cases this
    obtain ⟨c,e,h1,_⟩:=hM.row
    exact ⟨hM.old,lt h1⟩
  |arr t xs fz =>
    rcases h with ⟨_,h⟩|⟨L',vs,hM,_⟩
    · rw [h] at hL;cases hL
    · have := hM.mu; rw [hL] at this; cases this
      obtain ⟨c,e,h1,_⟩:=hM.row
      exact ⟨hM.old,lt h1⟩
  |loop st j d env ps as bd N =>
    obtain ⟨L',r,Ld,h1,h2,h3,_⟩:=h
    rw [hL] at h1;cases h1
    exact ⟨h2,lt h3⟩
  |ig =>
    obtain ⟨L',h1,h2,h3⟩:=h
    rw [hL] at h1;cases h1
    exact ⟨h2,lt h3⟩
  |map kt kg vt vg es =>
    obtain ⟨L',ms,clock,dB,h1,h2,h3,_⟩:=h
    rw [hL] at h1;cases h1
    exact ⟨h2,lt h3⟩
  |mw t xs i p v =>
    obtain ⟨L',us,vs,c,hM,_⟩:=h
    have:=hM.mu;rw [hL] at this;cases this
    obtain ⟨c,e,h1,_⟩:=hM.row
    exact ⟨hM.old,lt h1⟩
theorem Inv.congr {bl:aq} {n:Nat} (h:Inv P Y ι μ H w) (hb:∀id,ay id bl=ay id H.bl) (hn:H.next=n):Inv P Y ι μ ⟨n,bl⟩ w :=
  ⟨h.below,h.i0,h.iB,h.rd,h.m0,by rw [←hn];exact h.nx,fun id B hB=>h.live id B (by rw [←hb];exact hB),
   fun id id' B B' L L' h1 h2=>h.inj id id' B B' L L' (by rw [←hb];exact h1) (by rw [←hb];exact h2),fun id B hB=>by rw [←hn];exact h.lt id B (by rw [←hb];exact hB),h.gl⟩
theorem Inv.sub {bl:aq} (h:Inv P Y ι μ H w) (hb:∀id B,ay id bl=some B→ay id H.bl=some B):Inv P Y ι μ ⟨H.next,bl⟩ w :=
  ⟨h.below,h.i0,h.iB,h.rd,h.m0,h.nx,fun id B hB=>h.live id B (hb _ _ hB),
   fun id id' B B' L L' h1 h2=>h.inj id id' B B' L L' (hb _ _ h1) (hb _ _ h2),fun id B hB=>h.lt id B (hb _ _ hB),h.gl⟩
theorem Inv.del (h:Inv P Y ι μ H w) (i:Nat):Inv P Y ι μ ⟨H.next,bu i H.bl⟩ w :=
  h.sub fun id B hB=>by rw [bn] at hB;split at hB<;>simp_all
theorem Inv.next (h:Inv P Y ι μ H w):Inv P Y ι μ ⟨H.next+1,H.bl⟩ w :=
  ⟨h.below,h.i0,h.iB,h.rd,h.m0,fun id hid=>h.nx id (by simp only at hid;omega),h.live,h.inj,fun id B hB=>by have:=h.lt id B hB;simp only;omega,h.gl⟩
theorem Inv.drew (h:Inv P Y ι μ H w):Inv P Y ι μ H w.drew :=
  ⟨⟨h.below.os,h.below.tape,h.below.output,h.below.size,h.below.block,Nat.le_succ_of_le h.below.dr,h.below.maps⟩,h.i0,h.iB,h.rd,h.m0,h.nx,
   fun id B hB=>(h.live id B hB).mono (au.le_refl _) (Mu.le_refl _) (fun h=>h) (fun _ _=>rfl) (fun _ _ h=>h),h.inj,h.lt,h.gl⟩
def Mu.set (μ:Mu) (n:Nat) (L:Loc):Mu:=fun id=>if id=n then some L else μ id
theorem Mu.fF {n:Nat} {L:Loc} (h:μ n=none):μ.le (μ.set n L):=fun id L' hL=>by
  unfold Mu.set;split
  · rename_i e;subst e;rw [h] at hL;cases hL
  · exact hL
theorem Inv.lay (h : Inv P Y ι μ H w) {aC : Nat} (hn : μ aC = none) {o : Obj} {b : kR} {L : Loc} (hL : L.b = w.heap.size)
    (hb:dL P Y.own ι (μ.set aC L) aC (w.alloc o) b):Inv P Y ι (μ.set aC L) ⟨max H.next (aC+1),(aC,b)::bu aC H.bl⟩ (w.alloc o):=by
  have hle:=Mu.fF (L:=L) hn
  have heap:∀k,k<w.heap.size→(w.alloc o).heap[k]?=w.heap[k]?:=fun k hk=>by
    show (w.heap.push o)[k]?=_
    rw [Array.getElem?_push];split
    · omega
    · rfl
  refine ⟨⟨h.below.os,h.below.tape,h.below.output,by have:=h.below.size;simp;omega,fun k hk hx=>?_,h.below.dr,fun k hk=>(h.below.maps k hk).trans (.eq (heap k (Nat.lt_of_lt_of_le hk h.below.size)))⟩,h.i0,h.iB,fun b o x hx=>?_,Mu.le_trans h.m0 hle,fun id hid=>?_,fun id B hB=>?_,?_,?_,h.gl⟩
  · have := h.below.size
    rw [heap k (by omega)];exact h.below.block k hk hx
  · have := h.rd b o x hx
    rw [World.cell?_alloc_lt _ _ _ (World.block_lt_of_cell? _ _ this)];exact this
  · simp only at hid
    unfold Mu.set;rw [if_neg (by omega)];exact h.nx id (by omega)
  · rw [aD] at hB
    split at hB
    · rename_i e;subst e;cases hB;exact hb
    · rename_i e
      refine (h.live id B hB).mono (au.le_refl _) hle (fun hm=>by unfold Mu.set;rw [if_neg e];exact hm) (fun L' hL'=>?_) (fun _ _ h=>h)
      exact heap _ ((h.live id B hB).loc hL').2
  · intro id id' B B' L1 L2 h1 h2 gj hm2 e
    rw [aD] at h1 h2
    unfold Mu.set at gj hm2
    by_cases e1:id=aC<;>by_cases e2:id'=aC
    · rw [e1,e2]
    · rw [if_pos e1] at gj; rw [if_neg e2] at hm2 h2
      cases gj
      have:=((h.live id' B' h2).loc hm2).2;omega
    · rw [if_pos e2] at hm2; rw [if_neg e1] at gj h1
      cases hm2
      have:=((h.live id B h1).loc gj).2;omega
    · rw [if_neg e1] at gj h1; rw [if_neg e2] at hm2 h2
      exact h.inj id id' B B' L1 L2 h1 h2 gj hm2 e
  · intro id B hB
    rw [aD] at hB
    split at hB
    · rename_i e;subst e;simp only;omega
    · have:=h.lt id B hB;simp only;omega
theorem Inv.turn (h : Inv P Y ι μ H w) {id : Nat} {b0 b : kR} (hb0 : ay id H.bl = some b0) {L : Loc} (hL : μ id = some L) (hfree : ∀ o, ι L.b o = none)
    (hos:w'.os=w.os) (Mm:w'.tape=w.tape) (hout:w'.output=w.output) (hdr:w'.drawn=w.drawn) (hsz:w'.heap.size=w.heap.size) (hk:∀k,k≠L.b→w'.heap[k]?=w.heap[k]?)
    (W5:js w.heap[L.b]? w'.heap[L.b]?) (hb:dL P Y.own ι μ id w' b):Inv P Y ι μ ⟨H.next,(id,b)::bu id H.bl⟩ w':=by
  have hold:=((h.live id b0 hb0).loc hL).1
  refine ⟨⟨hos.trans h.below.os, Mm.trans h.below.tape, hout.trans h.below.output, by rw [hsz]; exact h.below.size, fun k hk' hx => ?_, by rw [hdr]; exact h.below.dr, fun k hk' => (h.below.maps k hk').trans (by
      by_cases e:k=L.b
      · subst e;exact W5
      · exact .eq (hk k e))⟩,h.i0,h.iB,fun b o x hx=>?_,h.m0,h.nx,fun i B hB=>?_,?_,?_,h.gl⟩
  · rw [hk k (Ctx.lE hold hk' hx)];exact h.below.block k hk' hx
  · have := h.rd b o x hx
    have hne:b≠L.b:=fun e=>by subst e;rw [hfree] at hx;cases hx
    unfold World.cell? at this ⊢
    simp only at this ⊢
    rw [hk b hne];exact this
  · rw [aD] at hB
    split at hB
    · rename_i e;subst e;cases hB;exact hb
    · rename_i e
      refine (h.live i B hB).mono (au.le_refl _) (Mu.le_refl _) (fun h=>h) (fun L' hL'=>hk _ (fun e'=>e (h.inj i id B b0 L' L hB hb0 hL' hL e'))) (fun _ _ h=>h)
  · intro i i' B B' L1 L2 h1 h2 gj hm2 e
    have:∀{j B},ay j ((id,b)::bu id H.bl)=some B→∃W6,ay j H.bl=some W6:=fun {j B} hj=>by
      rw [aD] at hj
      split at hj
      · rename_i e;subst e;exact ⟨b0,hb0⟩
      · exact ⟨B,hj⟩
    obtain ⟨C,hC⟩:=this h1
    obtain ⟨C',Q6⟩:=this h2
    exact h.inj i i' C C' L1 L2 hC Q6 gj hm2 e
  · intro i B hB
    rw [aD] at hB
    split at hB
    · rename_i e;subst e;exact h.lt _ _ hb0
    · exact h.lt i B hB
theorem Inv.same (h:Inv P Y ι μ H w) {id:Nat} {b0 b:kR} (hb0:ay id H.bl=some b0) (hb:dL P Y.own ι μ id w b):Inv P Y ι μ ⟨H.next,(id,b)::bu id H.bl⟩ w:=by
  refine ⟨h.below,h.i0,h.iB,h.rd,h.m0,h.nx,fun i B hB=>?_,?_,?_,h.gl⟩
  · rw [aD] at hB
    split at hB
    · rename_i e;subst e;cases hB;exact hb
    · exact h.live i B hB
  · intro i i' B B' L1 L2 h1 h2 gj hm2 e
    have:∀{j B},ay j ((id,b)::bu id H.bl)=some B→∃W6,ay j H.bl=some W6:=fun {j B} hj=>by
      rw [aD] at hj
      split at hj
      · rename_i e;subst e;exact ⟨b0,hb0⟩
      · exact ⟨B,hj⟩
    obtain ⟨C,hC⟩:=this h1
    obtain ⟨C',Q6⟩:=this h2
    exact h.inj i i' C C' L1 L2 hC Q6 gj hm2 e
  · intro i B hB
    rw [aD] at hB
    split at hB
    · rename_i e;subst e;exact h.lt _ _ hb0
    · exact h.lt i B hB
def au.add (ι:au) (L:Loc) (vs:List Value):au:=fun b o=>if b=L.b then (if L.ba≤o then vs[o - L.ba]? else none) else ι b o
theorem au.FB {L:Loc} {vs:List Value} (h:∀o,ι L.b o=none):ι.le (ι.add L vs):=fun b o x hx=>by
  unfold au.add;split
  · rename_i e;subst e;rw [h] at hx;cases hx
  · exact hx
theorem Reads.add {L:Loc} {vs:List Value}:Reads (ι.add L vs) L.b L.ba vs:=fun j v hj=>by
  unfold au.add;rw [if_pos rfl,if_pos (by omega)];simpa using hj
theorem Inv.Q7 (h:Inv P Y ι μ H w) {c:Array Value} {e:TypeId} {f:Nat×Nat} {vs:List Value} (hvs:∀(j:Nat) v,vs[j]?=some v→c[j]?=some v) :
    ∃ι',ι.le ι'∧Inv P Y ι' μ H (w.alloc (.cells c e f))∧Reads ι' w.heap.size 0 vs:=by
  have hfree:∀o,ι w.heap.size o=none:=fun o=>by
    cases vX:ι w.heap.size o with
    |none=>rfl
    |some y=>have:=World.block_lt_of_cell? _ _ (h.rd _ _ _ vX);simp at this
  let L:Loc:=⟨w.heap.size,0,0,0⟩
  have hle:=au.FB (L:=L) (vs:=vs) hfree
  have heap:∀k,k<w.heap.size→(w.alloc (.cells c e f)).heap[k]?=w.heap[k]?:=fun k hk=>by
    show (w.heap.push _)[k]?=_
    rw [Array.getElem?_push];split
    · omega
    · rfl
  have hnew:(w.alloc (.cells c e f)).heap[w.heap.size]?=some (.cells c e f):=by
    show (w.heap.push _)[w.heap.size]?=_
    simp
  refine ⟨ι.add L vs,hle,⟨⟨h.below.os,h.below.tape,h.below.output,by have:=h.below.size;simp;omega,fun k hk hx=>?_,h.below.dr,fun k hk=>(h.below.maps k hk).trans (.eq (heap k (Nat.lt_of_lt_of_le hk h.below.size)))⟩,au.le_trans h.i0 hle,fun b o hb' hx=>?_,fun b o x hx=>?_,h.m0,h.nx,fun i B hB=>?_,h.inj,h.lt,h.gl⟩,Reads.add (L:=L)⟩
  · have := h.below.size
    rw [heap k (by omega)];exact h.below.block k hk hx
  · have := h.below.size
    unfold au.add;rw [if_neg (show b≠L.b by simp only [L];omega)];exact h.iB b o hb' hx
  · unfold au.add at hx
    split at hx
    · rename_i e'; subst e'
      split at hx
      · have := hvs _ _ hx
        simp only [L,Nat.sub_zero] at this
        show (match (w.alloc (.cells c e f)).heap[w.heap.size]? with|some (.cells c _ _)=>if (⟨w.heap.size,o,none⟩:Addr).spot.isSome then none else c[o]? | _=>none)=some x
        rw [hnew];simpa using this
      · cases hx
    · have := h.rd b o x hx
      rw [World.cell?_alloc_lt _ _ _ (World.block_lt_of_cell? _ _ this)];exact this
  · refine (h.live i B hB).mono hle (Mu.le_refl _) (fun h => h) (fun L' hL' => heap _ ((h.live i B hB).loc hL').2) (fun L' hL' ho o => ?_)
    have:=((h.live i B hB).loc hL').2
    unfold au.add;rw [if_neg (show L'.b≠L.b by simp only [L];omega)];exact ho o
theorem Inv.freeze (h:Inv P Y ι μ H w) {id:Nat} {t:Ty} {xs:List t.den} {fz:Bool} (hb:ay id H.bl=some (.arr t xs fz)) :
    ∃ι',ι.le ι'∧Inv P Y ι' μ ⟨H.next,(id,.arr t xs true)::bu id H.bl⟩ w∧iy ι' μ id t xs:=by
  rcases h.live id _ hb with ⟨rfl,hn⟩|⟨L,vs,hM,hR,hl⟩
  · exact ⟨ι,au.le_refl _,h.same hb (.inl ⟨rfl,hn⟩),.inl ⟨rfl,hn⟩⟩
  · cases fz with
    |true=>exact ⟨ι,au.le_refl _,h.same hb (.inr ⟨L,vs,hM,hR,hl⟩),.inr ⟨L,vs,hM.mu,hM.CT rfl,hR,hl⟩⟩
    |false =>
      have hfree:=hM.pK rfl
      have hle:=au.FB (vs:=vs) hfree
      have gM:bw (ag (ι.add L vs) t) xs vs:=bw.mono (fun _ _=>ag.mono hle) hR
      refine ⟨ι.add L vs,hle,?_,.inr ⟨L,vs,hM.mu,Reads.add,gM,hl⟩⟩
      refine ⟨h.below,au.le_trans h.i0 hle,fun b o hb' hx=>?_,fun b o x hx=>?_,h.m0,h.nx,fun i B hB=>?_,?_,?_,h.gl⟩
      · unfold au.add;rw [if_neg (fun e=>Ctx.lE hM.old hb' hx e)];exact h.iB b o hb' hx
      · unfold au.add at hx
        split at hx
        · rename_i e; subst e
          split at hx
          · rename_i ho
            obtain ⟨c,e,h1,h2,h3⟩:=hM.row
            have:=h3 _ _ hx
            rw [show L.ba+(o - L.ba)=o by omega] at this
            simp [World.cell?,h1,this]
          · cases hx
        · exact h.rd b o x hx
      · rw [aD] at hB
        split at hB
        · rename_i e; subst e; cases hB
          exact .inr ⟨L,vs,⟨hM.mu,hM.old,hM.row,hM.fits,hM.one,fun _=>Reads.add,fun e=>by cases e⟩,gM,hl⟩
        · rename_i e
          refine (h.live i B hB).mono hle (Mu.le_refl _) (fun h=>h) (fun _ _=>rfl) (fun L' hL' ho o=>?_)
          unfold au.add
          rw [if_neg (fun e'=>e (h.inj i id B _ L' L hB hb hL' hM.mu e'))]
          exact ho o
      · intro i i' B B' L1 L2 h1 h2 gj hm2 e
        have:∀{j B},ay j ((id,.arr t xs true)::bu id H.bl)=some B→∃W6,ay j H.bl=some W6:=fun {j B} hj=>by
          rw [aD] at hj
          split at hj
          · rename_i e;subst e;exact ⟨_,hb⟩
          · exact ⟨B,hj⟩
        obtain ⟨C,hC⟩:=this h1
        obtain ⟨C',Q6⟩:=this h2
        exact h.inj i i' C C' L1 L2 hC Q6 gj hm2 e
      · intro i B hB
        rw [aD] at hB
        split at hB
        · rename_i e;subst e;exact h.lt _ _ hb
        · exact h.lt i B hB
end
end Go.AM
end
section
namespace Go.AM
section
variable {P:Program} {Y:Ctx} {ι ι':au} {μ μ':Mu} {H:aG} {w w':World}
@[reducible] def bp (call : Nat → List V → aG → (V → aG → Prop) → Prop) (gO : Nat → List V → V → Prop) (loop : C → St → (Ex → St → Prop) → Prop)
  (round:Nat→List V→aG→(V→aG→Prop)→Prop) (bH:O→List Nat→C→C→St→(Ex→St→Prop)→Prop) (gK:C→St→(Ex→St→Prop)→Prop):Ar where
 add a b:=a+b
 sub a b:=a - b
 mul a b:=a * b
 quo a b:=a.tdiv b
 rem a b:=a.tmod b
 bits op k a b:=match op with
  | .and=>k.wrap (BitVec.ofInt k.bits a &&& BitVec.ofInt k.bits b).toNat
  | .or=>k.wrap (BitVec.ofInt k.bits a ||| BitVec.ofInt k.bits b).toNat
  | .xor=>k.wrap (BitVec.ofInt k.bits a ^^^ BitVec.ofInt k.bits b).toNat
  |_=>k.wrap (BitVec.ofInt k.bits a &&& ~~~(BitVec.ofInt k.bits b)).toNat
 shr a b:=a.fdiv (2 ^ b.toNat)
 shl a b:=a * 2 ^ b.toNat
 W1 a b:=if b<a then b else a
 imax a b:=if b > a then b else a
 eq a b:=a==b
 lt a b:=decide (a<b)
 le a b:=decide (a≤b)
 beq a b:=a==b
 seq a b:=a.toList==b.toList
 slt a b:=Op.bytesLess a.toList b.toList
 JW s:=(s.size:Int)
 QW a b:=a&&b
 sE a := !a
 Ft c a b:=if c then a else b
 de k z:=k.min≤z&&z≤k.max
 bZ i n:=decide (0≤i∧i<n)
 LC a b:=decide (a<b)
 len xs:=xs.length
 get d xs i:=xs.getD i d
 set xs i v:=xs.set i v
 sub' xs lo n:=(xs.drop lo).take n
 app xs ys:=xs++ys
 rep n x:=List.replicate n x
 Fu a b:=a+b
 LZ a b:=a - b
 sF z:=z.toNat
 sat:=sG
 bys:=eU
 txt:=CJ
 wr k z:=k.wrap z
 clr:=AO
 mhas:=aO
 gh:=az
 iw:=bg
 call:=call
 gO:=gO
 loop:=loop
 round:=round
 bH:=bH
 gK:=gK
theorem jU {k:IntKind} {z:Int} (h:(decide (k.min≤z)&&decide (z≤k.max))=true):k.wrap z=z:=by
 simp only [Bool.and_eq_true,decide_eq_true_eq] at h
 obtain ⟨h1,h2⟩:=h
 cases k<;>simp only [IntKind.wrap,IntKind.min,IntKind.max,IntKind.bits,IntKind.signed] at *<;>simp at *<;>first|omega|(rw [Int.bmod_eq_of_le]<;>omega)
theorem CV {x:Value} {v:V} (h:Md x=some v):Rel ι μ v x:=by
 unfold Md at h
 split at h<;>first|cases h|skip
 ·exact .tf _
 ·exact .int _ _
 ·exact .str _
 ·exact .bX _
 ·exact .eE
 ·exact .cG
 ·exact .ff
 ·exact .cD
theorem nL : ∀ {xs : List Value} {vs : List V}, yN xs = some vs → aI ι μ vs xs
 |[],vs,h=>by cases h;exact .nil
 |x::xs,vs,h=>by
  unfold yN at h
  split at h
  ·rename_i a b ha hb;cases h;exact .cons (CV ha) (nL hb)
  ·cases h
theorem nM : ∀ {xs : List Value} {vs : List V}, yN xs = some vs → ∀ x ∈ xs, x.oneCell' = true
 |[],vs,h=>by simp
 |x::xs,vs,h=>by
  unfold yN at h
  split at h
  ·rename_i a b ha hb; cases h
   intro y hy
   rcases List.mem_cons.1 hy with rfl|hy
   ·unfold Md at ha
    split at ha<;>first|rfl|cases ha
   ·exact nM hb y hy
  ·cases h
theorem Q8 {x:Value} {v:V} (h:ofC x=some v):Rel ι μ v x:=by
 unfold ofC at h
 split at h
 ·rename_i cs
  split at h
  ·rename_i vs hv; cases h
   have:=nL (ι:=ι) (μ:=μ) hv
   exact .agg _ _ (by simpa using this.1) (fun i v x hv hx=>this.2 i v x hv (by simpa using hx)) (nM hv)
  ·cases h
 ·exact CV h
theorem aB {env:List (Nat×V)} {a:Act} (he:ez ι μ env a.tmps) {x:Operand} {y:O} (h:dA x=some y):Rel ι μ (y.ev env) (a.eval x):=by
 cases x with
 |tmp t=>cases h;exact he t
 |const v =>
  simp only [dA] at h
  split at h
  ·rename_i u hu;cases h;exact Q8 hu
  ·cases h
 |func f=>cases h;exact .fn _ _ _ #[] #[] rfl (fun i v x h=>by simp at h) rfl (fun i v x h=>by simp at h)
 |global g=>cases h
theorem jV {env : List (Nat × V)} {a : Act} (he : ez ι μ env a.tmps) : ∀ {xs : List Operand} {ys : List O}, vO xs = some ys → aI ι μ (ys.map (·.ev env)) (xs.map a.eval)
 |[],ys,h=>by cases h;exact .nil
 |x::xs,ys,h=>by
  unfold vO at h
  split at h
  ·rename_i y ys' h1 h2;cases h;exact .cons (aB he h1) (jV he h2)
  ·cases h
theorem Mem.rangeAt {B:Nat→Prop} {id:Nat} {fz:Bool} {L:Loc} {vs:List Value} (h:Mem B ι μ id fz w L vs):w.rangeAt L.b L.ba vs:=fun j v hv=>by
 obtain ⟨c,e,h1,_,h3⟩:=h.row
 simp [World.cell?,h1,h3 j v hv]
theorem dQ {b o:Nat} {vs:List Value} (h:w.rangeAt b o vs) (d k:Nat):w.rangeAt b (o+d) ((vs.drop d).take k):=fun j v hv=>by
 rw [List.getElem?_take] at hv
 split at hv
 ·rw [List.getElem?_drop] at hv
  have:=h (d+j) v hv
  rw [←Nat.add_assoc] at this;exact this
 ·cases hv
theorem Reads.rangeAt {b o:Nat} {vs:List Value} (hr:Reads ι b o vs) (hi:∀b o x,ι b o=some x→w.cell? ⟨b,o,none⟩=some x):w.rangeAt b o vs:=fun j v hv=>hi _ _ _ (hr j v hv)
theorem Reads.sub {b o:Nat} {vs:List Value} (h:Reads ι b o vs) (d k:Nat):Reads ι b (o+d) ((vs.drop d).take k):=fun j v hv=>by
 rw [List.getElem?_take] at hv
 split at hv
 ·rw [List.getElem?_drop] at hv
  have:=h (d+j) v hv
  rw [←Nat.add_assoc] at this;exact this
 ·cases hv
theorem World.CW {b o:Nat} {v:Value} (h:w.rangeAt b o [v]):w.cell? ⟨b,o,none⟩=some v:=by simpa using h 0 v rfl
theorem sK {g:Bool} {cs:List V} {v:V} {xs:List Value} (h:cn g cs=some v) (hr:aI ι μ cs xs) (h1:∀u∈xs,u.oneCell'=true):∃x,iq g xs=some x∧Rel ι μ v x:=by
 cases g with
 |true =>
  cases h
  exact ⟨_,rfl,.agg _ _ (by simpa using hr.1) (fun i v x hv hx=>hr.2 i v x hv (by simpa using hx)) (by simpa using h1)⟩
 |false =>
  match cs,h with
  |[c],h =>
   cases h
   obtain ⟨x,r,rfl,h1,h2⟩:=hr.bC
   rw [h2.of_nil]
   exact ⟨x,rfl,h1⟩
theorem FC {t : TypeId} {k : Nat} {g : Bool} (hk : cW P t = some k) (hg : sH P t = some g) {b o : Nat} {vs : List Value} (hr : w.rangeAt b o vs) (hl : vs.length = k)
  {x:Value} (hx:iq g vs=some x):(Instr.loadAt t (.pointer (some ⟨b,o,none⟩))).run P w = .ok x w:=by
 unfold sH at hg
 unfold cW at hk
 cases g with
 |true =>
  cases hx
  split at hg
  ·rename_i hu;exact run_loadAt_mid w b o t vs _ hr hu rfl (by rw [hk,hl])
  ·rename_i hu;exact run_loadAt_mid w b o t vs _ hr hu rfl (by rw [hk,hl])
  ·cases hg
  ·cases hg
 |false =>
  match vs,hx with
  |[c],hx =>
   cases hx
   have hc:=World.CW hr
   split at hg
   ·cases hg
   ·cases hg
   ·rename_i d h1 h2 hu
    have hagg:(isAgg t).run P w = .ok false w:=by
     unfold isAgg
     rw [Sem.run_bind,run_underlying hu w]
     cases d<;>simp_all
    simp [Instr.loadAt,Instr.sureAddr,loadVar,hagg,hc]
   ·cases hg
theorem iV {t:TypeId} {k:Nat} (hk:cW P t=some k) {b o:Nat} {v:Value} (ht:w.there b o k) (hl:v.cells.size=k) (h1:∀u∈v.cells.toList,u.oneCell'=true) :
  (Instr.storeAt t (.pointer (some ⟨b,o,none⟩)) v).run P w = .ok () (w.setCells b o v.cells.toList):=by
 have:=run_storeCells_cells (P:=P) b o v.cells.toList 0 w (fun j hj=>by simpa using (ht j (by simp at hj;omega)).1) (fun j hj=>by simpa using (ht j (by simp at hj;omega)).2) h1
 unfold cW at hk
 cases hq:P.info? t with
 |none=>simp [hq] at hk
 |some i =>
  have hs:v.cells.size=i.size:=by simp [hq] at hk;omega
  simp only [Nat.add_zero] at this
  simp [Instr.storeAt,Instr.sureAddr,storeVar,sizeOf,typeInfo,hq,hs,this]
theorem Mem.there {B:Nat→Prop} {id:Nat} {fz:Bool} {L:Loc} {vs:List Value} (h:Mem B ι μ id fz w L vs) {o k:Nat} (hk:L.ba≤o) (hf:o+k≤L.tot):w.there L.b o k:=fun j hj=>by
 obtain ⟨c,e,h1,h2,_⟩:=h.row
 simp only [World.cell?,World.frozen?,h1]
 refine ⟨?_,by simp⟩
 have:o+j<c.size:=by omega
 simp [this]
theorem Mem.write {B:Nat→Prop} {id:Nat} {L:Loc} {vs:List Value} (h:Mem B ι μ id false w L vs) {d:Nat} {us:List Value} (hd:d+us.length≤vs.length) (h1:∀u∈us,u.oneCell'=true) :
  Mem B ι μ id false (w.setCells L.b (L.ba+d) us) L (vs.take d++us++vs.drop (d+us.length)):=by
 obtain ⟨c,e,hc,hs,hr⟩:=h.row
 have W7:w.there L.b (L.ba+d) us.length:=h.there (by omega) (by have:=h.fits;omega)
 refine ⟨h.mu,h.old,?_,?_,?_,(fun e=>by cases e),h.pK⟩
 ·have key:∀(us:List Value) (o:Nat) (w:World) (c:Array Value),w.heap[L.b]?=some (.cells c e (0,0))→o+us.length≤c.size →
    ∃c',(w.setCells L.b o us).heap[L.b]?=some (.cells c' e (0,0))∧c'.size=c.size∧∀i,c'[i]?=if o≤i∧i<o+us.length then us[i - o]? else c[i]?:=by
   intro us
   induction us with
   |nil=>intro o w c hc _;exact ⟨c,hc,rfl,fun i=>by rw [if_neg (by simp only [List.length_nil];omega)]⟩
   |cons u us ih =>
    intro o w c hc ho
    have hc':(w.setCell ⟨L.b,o,none⟩ u).heap[L.b]?=some (.cells (c.setIfInBounds o u) e (0,0)):=by
     simp [World.setCell,Array.getElem?_modify,hc]
    obtain ⟨c',e1,e2,e3⟩:=ih (o+1) _ _ hc' (by simp at ho ⊢;omega)
    refine ⟨c',e1,by simpa using e2,fun i=>?_⟩
    rw [e3]
    simp only [List.length_cons] at ho ⊢
    by_cases hi:i=o
    ·subst hi
     rw [if_neg (by omega),if_pos (by omega)]
     have:i<c.size:=by omega
     simp [this]
    ·by_cases h2 : o + 1 ≤ i ∧ i < o + 1 + us.length
     ·rw [if_pos h2, if_pos (by omega)]
      obtain ⟨m,rfl⟩:∃m,i=o+1+m:=⟨i - (o+1),by omega⟩
      rw [show o+1+m - (o+1)=m by omega,show o+1+m - o=m+1 by omega];rfl
     ·rw [if_neg h2,if_neg (by omega),Array.getElem?_setIfInBounds_ne (by omega)]
  have hf:=h.fits
  obtain ⟨c',e1,e2,e3⟩:=key us (L.ba+d) w c hc (by omega)
  refine ⟨c',e,e1,by rw [e2];exact hs,fun j v hv=>?_⟩
  rw [e3]
  by_cases hj:d≤j∧j<d+us.length
  ·rw [if_pos (by omega)]
   rw [List.append_assoc,List.getElem?_append_right (by simp;omega),List.getElem?_append_left (by simp;omega)] at hv
   rw [←hv];congr 1;simp;omega
  ·rw [if_neg (by omega)]
   by_cases hj2:j<d
   ·rw [List.append_assoc, List.getElem?_append_left (by simp; omega), List.getElem?_take, if_pos hj2] at hv
    exact hr j v hv
   ·rw [List.getElem?_append_right (by simp; omega), List.getElem?_drop] at hv
    refine hr j v ?_
    rw [←hv];congr 1;simp;omega
 ·have := h.fits
  simp;omega
 ·intro v hv
  rcases List.mem_append.1 hv with hv|hv
  ·rcases List.mem_append.1 hv with hv | hv
   ·exact h.one v (List.mem_of_mem_take hv)
   ·exact h1 v hv
  ·exact h.one v (List.mem_of_mem_drop hv)
theorem iA (b : Nat) : ∀ (vs : List Value) (o : Nat) (w : World) (k : Nat), k ≠ b → (w.setCells b o vs).heap[k]? = w.heap[k]?
 |[],_,_,_,_=>rfl
 |v::r,o,w,k,h=>by
  rw [World.setCells,iA b r _ _ k h]
  simp [World.setCell,Array.getElem?_modify,Ne.symm h]
theorem size_setCells (b : Nat) : ∀ (vs : List Value) (o : Nat) (w : World), (w.setCells b o vs).heap.size = w.heap.size
 |[],_,_=>rfl
 |v::r,o,w=>by rw [World.setCells,size_setCells b r];simp
theorem dm (b : Nat) : ∀ (vs : List Value) (o : Nat) (w : World), (w.setCells b o vs).os = w.os ∧ (w.setCells b o vs).tape = w.tape ∧ (w.setCells b o vs).output = w.output ∧ (w.setCells b o vs).drawn = w.drawn
 |[],_,_=>⟨rfl,rfl,rfl,rfl⟩
 |v::r,o,w=>by rw [World.setCells];exact dm b r (o+1) (w.setCell ⟨b,o,none⟩ v)
theorem jW (b : Nat) : ∀ (vs : List Value) (o : Nat) (w : World) (k : Nat), js w.heap[k]? (w.setCells b o vs).heap[k]?
 |[],_,_,_=>.eq rfl
 |v::r,o,w,k=>by
  rw [World.setCells]
  refine js.trans ?_ (jW b r _ _ k)
  intro ms c e
  refine ⟨ms,c,?_,List.prefix_refl _,Nat.le_refl _⟩
  simp only [World.setCell,Array.getElem?_modify]
  split
  ·rw [e];rfl
  ·exact e
theorem Inv.store (h : Inv P Y ι μ H w) {id : Nat} {b0 b : kR} (hb0 : ay id H.bl = some b0) {L : Loc} (hL : μ id = some L) (hfree : ∀ o, ι L.b o = none) {o : Nat} {us : List Value}
  (hb:dL P Y.own ι μ id (w.setCells L.b o us) b):Inv P Y ι μ ⟨H.next,(id,b)::bu id H.bl⟩ (w.setCells L.b o us) :=
 h.turn hb0 hL hfree (dm _ _ _ _).1 (dm _ _ _ _).2.1 (dm _ _ _ _).2.2.1 (dm _ _ _ _).2.2.2 (size_setCells _ _ _ _) (fun k hk=>iA _ _ _ _ _ hk) (jW _ _ _ _ _) hb
theorem sL:∀{off:Nat} {vs cs cs':List V} {us xs:List Value},qH off vs cs=some cs'→aI ι μ cs xs→aI ι μ vs us →
  off+us.length≤xs.length∧aI ι μ cs' (xs.take off++us++xs.drop (off+us.length))
 |0,vs,cs,cs',us,xs,h,hc,hv=>by
  unfold qH at h
  split at h
  ·rename_i hl; cases h
   refine ⟨by have:=hc.1;have:=hv.1;omega,?_⟩
   have:=hv.append (hc.drop vs.length)
   rw [hv.1] at this ⊢
   simpa using this
  ·cases h
 |off+1,vs,[],cs',us,xs,h,hc,hv=>by simp [qH] at h
 |off+1,vs,c::cs,cs',us,xs,h,hc,hv=>by
  unfold qH at h
  obtain ⟨x,r,rfl,h1,h2⟩:=hc.bC
  split at h
  ·rename_i r' hr'
   cases h
   obtain ⟨h3,h4⟩:=sL hr' h2 hv
   refine ⟨by simp;omega,?_⟩
   have:=aI.cons h1 h4
   simpa [List.take_succ_cons,show off+1+us.length=(off+us.length)+1 by omega] using this
  ·cases h
end
end Go.AM
end
section
namespace Go.AM
section
variable {P : Program} {Y : Ctx} {ι ι' : au} {μ μ' : Mu} {H : aG} {w w' : World}
 {c1:Nat→List V→aG→(V→aG→Prop)→Prop} {c2:Nat→List V→V→Prop} {c3:C→St→(Ex→St→Prop)→Prop}
 {c4:Nat→List V→aG→(V→aG→Prop)→Prop} {c5:O→List Nat→C→C→St→(Ex→St→Prop)→Prop} {c6:C→St→(Ex→St→Prop)→Prop}
def jf (bl:aq) (u:eF):Prop:=∀e∈u,∃(id:Nat) (t:Ty) (xs:List t.den) (fz:Bool),e=(id,some (.arr t xs true))∧ay id bl=some (.arr t xs fz)
def JZ (ι:au) (μ:Mu) (u:eF):Prop:=∀(id:Nat) (t:Ty) (xs:List t.den),(id,some (.arr t xs true))∈u→iy ι μ id t xs
theorem jf.nil {bl:aq}:jf bl []:=fun e h=>by cases h
theorem jf.append {bl:aq} {u v:eF} (h:jf bl u) (h':jf bl v):jf bl (u++v):=fun e he=>(List.mem_append.1 he).elim (h e) (h' e)
theorem JZ.left {u v:eF} (h:JZ ι μ (u++v)):JZ ι μ u:=fun id t xs hm=>h id t xs (List.mem_append_left _ hm)
theorem JZ.right {u v:eF} (h:JZ ι μ (u++v)):JZ ι μ v:=fun id t xs hm=>h id t xs (List.mem_append_right _ hm)
theorem iy.mono (hi:ι.le ι') {id:Nat} {t:Ty} {xs:List t.den} (h:iy ι μ id t xs):iy ι' μ id t xs :=
 h.imp (fun h=>h) fun ⟨L,vs,h1,h2,h3,h4⟩=>⟨L,vs,h1,h2.mono hi,bw.mono (fun _ _=>ag.mono hi) h3,h4⟩
theorem jK:∀{u:eF} {ι:au} {bl:aq} {n:Nat},jf bl u→Inv P Y ι μ ⟨n,bl⟩ w →
  ∃ι',ι.le ι'∧Inv P Y ι' μ ⟨n,bx u bl⟩ w∧JZ ι' μ u
 |[],ι,bl,n,_,hI=>⟨ι,au.le_refl _,hI,fun id t xs h=>by cases h⟩
 |e::r,ι,bl,n,hz,hI=>by
  obtain ⟨id,t,xs,fz,rfl,hb⟩:=hz e (List.mem_cons_self)
  obtain ⟨ι1,hle,Fg,hF⟩:=hI.freeze hb
  have qa:jf ((id,.arr t xs true)::bu id bl) r:=fun e he=>by
   obtain ⟨yG,t2,W8,fz2,rfl,eC⟩:=hz e (List.mem_cons_of_mem _ he)
   by_cases hid:yG=id
   ·subst hid
    rw [hb] at eC;cases eC
    exact ⟨yG,t,xs,true,rfl,by rw [aD,if_pos rfl]⟩
   ·exact ⟨yG,t2,W8,fz2,rfl,by rw [aD,if_neg hid];exact eC⟩
  obtain ⟨ι2,hle2,nN,hF2⟩:=jK qa Fg
  refine ⟨ι2,au.le_trans hle hle2,nN,fun yG t2 W8 hm=>?_⟩
  rcases List.mem_cons.1 hm with hm|hm
  ·cases hm;exact hF.mono hle2
  ·exact hF2 yG t2 W8 hm
theorem iy.slice {id:Nat} {t:Ty} {xs:List t.den} (h:iy ι' μ id t xs) {lo n:Nat} {x:Value} (hr:Rel ι μ (.sl id t lo n) x):ag ι' (.list t) ((xs.drop lo).take n) [x]:=by
 cases hr with
 |bN _ _ _ a=>exact ⟨a,0,by simp,by simp,.inl (by simp)⟩
 |sl _ _ _ _ cap L hm h1 h2 h3 =>
  rcases h with ⟨_,hn⟩|⟨L',vs,h4,h5,h6,h7⟩
  ·rw [hn] at hm;cases hm
  ·rw [h4] at hm; cases hm
   have hl:((xs.drop lo).take n).length=n:=by simp;omega
   refine ⟨some ⟨L.b,L.ba+lo * t.sz,none⟩,cap,by rw [hl],by rw [hl];exact h1,.inr ⟨_,_,(vs.drop (lo * t.sz)).take (n * t.sz),rfl,h5.sub _ _,?_⟩⟩
   exact (h6.drop (fun _ _=>ag.length) lo).take (fun _ _=>ag.length) n
theorem jL : ∀ {t : Ty} {bl : aq} {cs : List V} {x : t.den} {u : eF} {r : List V}, bt (bp c1 c2 c3 c4 c5 c6) bl t cs = some (x, u, r) → jf bl u
 | .unit,bl,cs,x,u,r,h=>by simp [bt] at h;obtain ⟨rfl,rfl⟩:=h;exact .nil
 | .bool,bl,cs,x,u,r,h=>by
  cases cs with
  |nil=>simp [bt] at h
  |cons v r'=>cases v<;>simp [bt] at h<;>(obtain ⟨rfl,rfl,rfl⟩:=h;exact .nil)
 | .str,bl,cs,x,u,r,h=>by
  cases cs with
  |nil=>simp [bt] at h
  |cons v r'=>cases v<;>simp [bt] at h<;>(obtain ⟨rfl,rfl,rfl⟩:=h;exact .nil)
 | .int k,bl,cs,x,u,r,h=>by
  cases cs with
  |nil=>simp [bt] at h
  |cons v r'=>cases v<;>simp [bt] at h<;>(obtain ⟨rfl,rfl,rfl,rfl⟩:=h;exact .nil)
 | .list t,bl,cs,x,u,r,h=>by
  cases cs with
  |nil=>simp [bt] at h
  |cons v r' =>
   cases v<;>simp only [bt] at h<;>try (simp at h;done)
   case eO t' zs=>split at h<;>cases h;exact .nil
   case bX=>cases h;exact .nil
   case sl id t' lo n =>
    split at h
    ·rename_i t'' zs fz hb
     split at h
     ·split at h
      ·cases h
       intro e he;simp at he;subst he
       exact ⟨id,_,zs,fz,rfl,hb⟩
      ·cases h
     ·cases h
    ·cases h
 | .prod a b,bl,cs,x,u,r,h=>by
  simp only [bt] at h
  split at h
  ·rename_i x1 u1 r1 h1
   split at h
   ·rename_i x2 u2 r2 h2
    cases h
    exact (jL h1).append (jL h2)
   ·cases h
  ·cases h
 | .cu d g t,bl,cs,x,u,r,h=>by
  cases cs with
  |nil=>simp [bt] at h
  |cons v r' =>
   cases v<;>simp only [bt] at h<;>try (simp at h;done)
   case cu d' v' =>
    split at h
    ·split at h
     ·split at h
      ·cases h;exact .nil
      ·cases h
     ·cases h
    ·cases h
theorem CX {ι:au} {g:Bool} {v:V} {cs:List V} {x:Value} (h:AP g v=some cs) (hr:Rel ι μ v x):∃xs,aI ι μ cs xs∧iq g xs=some x:=by
 cases g with
 |true =>
  cases v<;>simp [AP] at h
  subst h
  cases hr with
  |agg _ xs h1 h2 h3=>exact ⟨xs.toList,⟨by simpa using h1,fun i v x hv hx=>h2 i v x hv (by simpa using hx)⟩,by simp [iq]⟩
 |false =>
  have:cs=[v]:=by cases v<;>simp_all [AP,V.cells?]
  subst this
  exact ⟨[x],.cons hr .nil,rfl⟩
theorem jX:∀{ι:au} {t:Ty} {bl:aq} {cs:List V} {x:t.den} {u:eF} {r:List V} {xs:List Value},bt (bp c1 c2 c3 c4 c5 c6) bl t cs=some (x,u,r)→aI ι μ cs xs →
  jf bl u∧∀ι',ι.le ι'→JZ ι' μ u→∃us ws,xs=us++ws∧ag ι' t x us∧aI ι' μ r ws
 |ι,.unit,bl,cs,x,u,r,xs,h,hr=>by
  simp [bt] at h;obtain ⟨rfl,rfl⟩:=h
  exact ⟨.nil,fun ι' hi _=>⟨[],xs,rfl,rfl,hr.mono hi (Mu.le_refl _)⟩⟩
 |ι,.bool,bl,cs,x,u,r,xs,h,hr=>by
  cases cs with
  |nil=>simp [bt] at h
  |cons v r' =>
   cases v<;>simp [bt] at h
   all_goals
    obtain ⟨rfl,rfl,rfl⟩:=h
    obtain ⟨y,ys,rfl,h1,h2⟩:=hr.bC
    cases h1
    exact ⟨.nil,fun ι' hi _=>⟨[_],ys,rfl,rfl,h2.mono hi (Mu.le_refl _)⟩⟩
 |ι,.str,bl,cs,x,u,r,xs,h,hr=>by
  cases cs with
  |nil=>simp [bt] at h
  |cons v r' =>
   cases v<;>simp [bt] at h
   all_goals
    obtain ⟨rfl,rfl,rfl⟩:=h
    obtain ⟨y,ys,rfl,h1,h2⟩:=hr.bC
    cases h1
    exact ⟨.nil,fun ι' hi _=>⟨[_],ys,rfl,rfl,h2.mono hi (Mu.le_refl _)⟩⟩
 |ι,.int k,bl,cs,x,u,r,xs,h,hr=>by
  cases cs with
  |nil=>simp [bt] at h
  |cons v r' =>
   cases v<;>simp [bt] at h
   all_goals
    obtain ⟨rfl,rfl,rfl,rfl⟩:=h
    obtain ⟨y,ys,rfl,h1,h2⟩:=hr.bC
    cases h1
    exact ⟨.nil,fun ι' hi _=>⟨[_],ys,rfl,rfl,h2.mono hi (Mu.le_refl _)⟩⟩
 |ι,.list t,bl,cs,x,u,r,xs,h,hr=>by
  cases cs with
  |nil=>simp [bt] at h
  |cons v r' =>
   obtain ⟨y,ys,rfl,h1,h2⟩:=hr.bC
   cases v<;>simp only [bt] at h<;>try (simp at h;done)
   case eO t' zs =>
    split at h
    ·rename_i zs' hc; cases h
     obtain ⟨e,hz⟩:=dU hc
     subst e;subst hz
     cases h1 with
     |eO _ _ _ hd=>exact ⟨.nil,fun ι' hi _=>⟨[y],ys,rfl,ag.mono hi hd,h2.mono hi (Mu.le_refl _)⟩⟩
    ·cases h
   case bX =>
    cases h
    cases h1 with
    |bX a=>exact ⟨.nil,fun ι' hi _=>⟨[_],ys,rfl,⟨a,0,rfl,Nat.le_refl _,.inl rfl⟩,h2.mono hi (Mu.le_refl _)⟩⟩
   case sl id t' lo n =>
    split at h
    ·rename_i t'' zs fz hb
     split at h
     ·rename_i e; subst e
      split at h
      ·rename_i zs' hc; cases h
       obtain ⟨e,hz⟩:=dU hc
       subst e;subst hz
       refine ⟨fun e he=>?_,fun ι' hi hf=>⟨[y],ys,rfl,(hf id _ zs' (by simp)).slice h1,h2.mono hi (Mu.le_refl _)⟩⟩
       simp at he;subst he
       exact ⟨id,_,zs',fz,rfl,hb⟩
      ·cases h
     ·cases h
    ·cases h
 |ι,.prod a b,bl,cs,x,u,r,xs,h,hr=>by
  simp only [bt] at h
  split at h
  ·rename_i x1 u1 r1 h1
   split at h
   ·rename_i x2 u2 r2 h2
    cases h
    obtain ⟨z1,f1⟩:=jX h1 hr
    have z2:jf bl u2:=jL h2
    refine ⟨z1.append z2,fun ι' hi hf=>?_⟩
    obtain ⟨us,ws,rfl,hd,CY⟩:=f1 ι' hi hf.left
    obtain ⟨W9,ws2,rfl,hd2,C0⟩:=(jX h2 CY).2 ι' (au.le_refl _) hf.right
    exact ⟨us++W9,ws2,by simp,⟨us,W9,rfl,hd,hd2⟩,C0⟩
   ·cases h
  ·cases h
 |ι,.cu d g t,bl,cs,x,u,r,xs,h,hr=>by
  cases cs with
  |nil=>simp [bt] at h
  |cons v r' =>
   obtain ⟨y,ys,rfl,h1,h2⟩:=hr.bC
   cases v<;>simp only [bt] at h<;>try (simp at h;done)
   case cu d' v' =>
    split at h
    ·rename_i e; subst e
     split at h
     ·rename_i cs hun
      split at h
      ·rename_i x0 ho
       cases h
       cases h1 with
       |cu _ _ z hz =>
        obtain ⟨zs,r1,r2⟩:=CX hun hz
        obtain ⟨_,f1⟩:=jX ho r1
        refine ⟨.nil,fun ι' hi hf=>⟨[_],ys,rfl,?_,h2.mono hi (Mu.le_refl _)⟩⟩
        obtain ⟨us,ws,e1,hd,CY⟩:=f1 ι' hi (fun _ _ _ hm=>by cases hm)
        rw [CY.of_nil,List.append_nil] at e1
        exact ⟨us,z,hd,by rw [←e1];exact r2,rfl⟩
      ·cases h
     ·cases h
    ·cases h
theorem qQ : ∀ {t : Ty} {bl : aq} {cs : List V} {x : t.den} {u : eF} {r : List V}, bt (bp c1 c2 c3 c4 c5 c6) bl t cs = some (x, u, r) → cs.length = t.sz + r.length
 | .unit,bl,cs,x,u,r,h=>by simp [bt] at h;obtain ⟨_,rfl⟩:=h;simp [Ty.sz]
 | .bool,bl,cs,x,u,r,h=>by
  cases cs with
  |nil=>simp [bt] at h
  |cons v r'=>cases v<;>simp [bt] at h<;>(obtain ⟨_,_,rfl⟩:=h;simp [Ty.sz];omega)
 | .str,bl,cs,x,u,r,h=>by
  cases cs with
  |nil=>simp [bt] at h
  |cons v r'=>cases v<;>simp [bt] at h<;>(obtain ⟨_,_,rfl⟩:=h;simp [Ty.sz];omega)
 | .int k,bl,cs,x,u,r,h=>by
  cases cs with
  |nil=>simp [bt] at h
  |cons v r'=>cases v<;>simp [bt] at h<;>(obtain ⟨_,_,_,rfl⟩:=h;simp [Ty.sz];omega)
 | .list t,bl,cs,x,u,r,h=>by
  cases cs with
  |nil=>simp [bt] at h
  |cons v r' =>
   cases v<;>simp only [bt] at h<;>try (simp at h;done)
   case eO t' zs=>split at h<;>cases h;simp [Ty.sz];omega
   case bX=>cases h;simp [Ty.sz];omega
   case sl id t' lo n =>
    split at h
    ·split at h
     ·split at h
      ·cases h;simp [Ty.sz];omega
      ·cases h
     ·cases h
    ·cases h
 | .prod a b,bl,cs,x,u,r,h=>by
  simp only [bt] at h
  split at h
  ·rename_i x1 u1 r1 h1
   split at h
   ·rename_i x2 u2 r2 h2
    cases h
    have:=qQ h1;have:=qQ h2;simp only [Ty.sz];omega
   ·cases h
  ·cases h
 | .cu d g t,bl,cs,x,u,r,h=>by
  cases cs with
  |nil=>simp [bt] at h
  |cons v r' =>
   cases v<;>simp only [bt] at h<;>try (simp at h;done)
   case cu d' v' =>
    split at h
    ·split at h
     ·split at h
      ·cases h;simp [Ty.sz];omega
      ·cases h
     ·cases h
    ·cases h
theorem Mn {t:Ty} {bl:aq} {cs:List V} {y:t.den} {u:eF} {x:Value} (h:bt (bp c1 c2 c3 c4 c5 c6) bl t cs=some (y,u,[])) (hr:aI ι μ cs x.cells.toList):x.cells.size=t.sz:=by
 have:=qQ h;have:=hr.1;simp at *;omega
theorem qR:∀{t:Ty} {x:t.den} {p:List Bool} {t':Ty} {y:t'.den} {xs:List Value},pn t x p=some ⟨t',y⟩→ag ι t x xs →
  ag ι t' y ((xs.drop (t.bE p)).take t'.sz)∧t.bE p+t'.sz≤t.sz∧t.qD p=some t'
 |t,x,[],t',y,xs,h,hc=>by
  have:t=t'∧HEq x y:=by cases t<;>(simp [pn] at h;exact ⟨h.1,h.2⟩)
  obtain ⟨rfl,hy⟩:=this
  cases hy
  have h0:t.bE []=0:=by cases t<;>rfl
  rw [h0]
  refine ⟨by simp [List.take_of_length_le (Nat.le_of_eq hc.length)];exact hc,by omega,by cases t<;>rfl⟩
 | .prod a b,x,false::p,t',y,xs,h,hc=>by
  simp only [pn] at h
  obtain ⟨us,ws,rfl,h1,h2⟩:=hc
  obtain ⟨h3,h4,h5⟩:=qR h h1
  refine ⟨?_,by simp only [Ty.bE,Ty.sz];omega,by simpa [Ty.qD] using h5⟩
  have hl:=h1.length
  rw [Ty.bE,List.drop_append_of_le_length (by omega),List.take_append_of_le_length (by simp;omega)]
  exact h3
 | .prod a b,x,true::p,t',y,xs,h,hc=>by
  simp only [pn] at h
  obtain ⟨us,ws,rfl,h1,h2⟩:=hc
  obtain ⟨h3,h4,h5⟩:=qR h h2
  refine ⟨?_,by simp only [Ty.bE,Ty.sz];omega,by simpa [Ty.qD] using h5⟩
  have hl:=h1.length
  rw [Ty.bE,←hl,List.drop_append,List.drop_eq_nil_of_le (by omega)]
  simpa using h3
 | .unit,x,b::p,t',y,xs,h,hc=>by cases b<;>simp [pn] at h
 | .bool,x,b::p,t',y,xs,h,hc=>by cases b<;>simp [pn] at h
 | .str,x,b::p,t',y,xs,h,hc=>by cases b<;>simp [pn] at h
 | .int k,x,b::p,t',y,xs,h,hc=>by cases b<;>simp [pn] at h
 | .list k,x,b::p,t',y,xs,h,hc=>by cases b<;>simp [pn] at h
 | .cu _ _ _,x,b::p,t',y,xs,h,hc=>by cases b<;>simp [pn] at h
theorem oM : ∀ {t : Ty} {bl : aq} {x y : t.den} {p : List Bool} {vs : List V} {u : eF}, cM (bp c1 c2 c3 c4 c5 c6) bl t x p vs = some (y, u) → jf bl u
 |t,bl,x,y,[],vs,u,h=>by
  have:bt (bp c1 c2 c3 c4 c5 c6) bl t vs=some (y,u,[]):=by
   cases t<;>(simp only [cM] at h;split at h<;>first|(cases h;assumption)|cases h)
  exact jL this
 | .prod a b,bl,x,y,false::p,vs,u,h=>by
  simp only [cM] at h
  split at h
  ·rename_i h';cases h;exact oM h'
  ·cases h
 | .prod a b,bl,x,y,true::p,vs,u,h=>by
  simp only [cM] at h
  split at h
  ·rename_i h';cases h;exact oM h'
  ·cases h
 | .unit,bl,x,y,b::p,vs,u,h=>by cases b<;>simp [cM] at h
 | .bool,bl,x,y,b::p,vs,u,h=>by cases b<;>simp [cM] at h
 | .str,bl,x,y,b::p,vs,u,h=>by cases b<;>simp [cM] at h
 | .int k,bl,x,y,b::p,vs,u,h=>by cases b<;>simp [cM] at h
 | .list k,bl,x,y,b::p,vs,u,h=>by cases b<;>simp [cM] at h
 | .cu _ _ _,bl,x,y,b::p,vs,u,h=>by cases b<;>simp [cM] at h
theorem nO:∀{t:Ty} {bl:aq} {x y:t.den} {p:List Bool} {vs:List V} {u:eF} {us xs:List Value},cM (bp c1 c2 c3 c4 c5 c6) bl t x p vs=some (y,u) →
  aI ι μ vs us→ι.le ι'→JZ ι' μ u→ag ι' t x xs→t.bE p+us.length≤t.sz∧ag ι' t y (xs.take (t.bE p)++us++xs.drop (t.bE p+us.length))
 |t,bl,x,y,[],vs,u,us,xs,h,hr,hi,hf,hc=>by
  have:bt (bp c1 c2 c3 c4 c5 c6) bl t vs=some (y,u,[]):=by
   cases t<;>(simp only [cM] at h;split at h<;>first|(cases h;assumption)|cases h)
  obtain ⟨us',ws,rfl,h1,h2⟩:=(jX this hr).2 ι' hi hf
  rw [h2.of_nil]
  have h0:t.bE []=0:=by cases t<;>rfl
  have hl:=h1.length
  rw [h0]
  refine ⟨by simp;omega,?_⟩
  rw [List.drop_eq_nil_of_le (by simp;have:=hc.length;omega)]
  simpa using h1
 | .prod a b,bl,x,y,false::p,vs,u,us,xs,h,hr,hi,hf,hc=>by
  simp only [cM] at h
  split at h
  ·rename_i y1 u1 h'
   cases h
   obtain ⟨as,bs,rfl,h1,h2⟩:=hc
   obtain ⟨h3,h4⟩:=nO h' hr hi hf h1
   have hl:=h1.length
   refine ⟨by simp only [Ty.bE,Ty.sz];omega,_,bs,?_,h4,h2⟩
   rw [Ty.bE,List.take_append_of_le_length (by omega),List.drop_append_of_le_length (by omega)]
   simp
  ·cases h
 | .prod a b,bl,x,y,true::p,vs,u,us,xs,h,hr,hi,hf,hc=>by
  simp only [cM] at h
  split at h
  ·rename_i y1 u1 h'
   cases h
   obtain ⟨as,bs,rfl,h1,h2⟩:=hc
   obtain ⟨h3,h4⟩:=nO h' hr hi hf h2
   have hl:=h1.length
   refine ⟨by simp only [Ty.bE,Ty.sz];omega,as,_,?_,h1,h4⟩
   rw [Ty.bE,←hl,List.take_append,List.take_of_length_le (by omega),List.drop_append,List.drop_eq_nil_of_le (by omega)]
   simp [show as.length+b.bE p+us.length - as.length=b.bE p+us.length by omega]
  ·cases h
 | .unit,bl,x,y,b::p,vs,u,us,xs,h,hr,hi,hf,hc=>by cases b<;>simp [cM] at h
 | .bool,bl,x,y,b::p,vs,u,us,xs,h,hr,hi,hf,hc=>by cases b<;>simp [cM] at h
 | .str,bl,x,y,b::p,vs,u,us,xs,h,hr,hi,hf,hc=>by cases b<;>simp [cM] at h
 | .int k,bl,x,y,b::p,vs,u,us,xs,h,hr,hi,hf,hc=>by cases b<;>simp [cM] at h
 | .list k,bl,x,y,b::p,vs,u,us,xs,h,hr,hi,hf,hc=>by cases b<;>simp [cM] at h
 | .cu _ _ _,bl,x,y,b::p,vs,u,us,xs,h,hr,hi,hf,hc=>by cases b<;>simp [cM] at h
theorem iy.le (hi:ι.le ι') {u:eF} (h:JZ ι μ u):JZ ι' μ u:=fun id t xs hm=>(h id t xs hm).mono hi
theorem vY {t:Ty} {bl:aq}:∀{ι:au} {n:Nat} {vs:List V} {ys:List t.den} {u:eF} {xs:List Value},lN (bp c1 c2 c3 c4 c5 c6) bl t n vs=some (ys,u)→aI ι μ vs xs →
  jf bl u∧ys.length=n∧vs.length=n * t.sz∧∀ι',ι.le ι'→JZ ι' μ u→bw (ag ι' t) ys xs
 |ι,0,vs,ys,u,xs,h,hr=>by
  cases vs with
  |nil=>simp [lN] at h;obtain ⟨rfl,rfl⟩:=h;exact ⟨.nil,rfl,by simp,fun _ _ _=>hr.of_nil⟩
  |cons v r=>simp [lN] at h
 |ι,n+1,vs,ys,u,xs,h,hr=>by
  simp only [lN] at h
  split at h
  ·rename_i x u1 r h1
   split at h
   ·rename_i zs u2 h2
    cases h
    obtain ⟨z1,f1⟩:=jX h1 hr
    have z2:jf bl u2:=by
     have:∀{n:Nat} {vs:List V} {ys:List t.den} {u:eF},lN (bp c1 c2 c3 c4 c5 c6) bl t n vs=some (ys,u)→jf bl u:=by
      intro n
      induction n with
      |zero=>intro vs ys u h;cases vs<;>simp [lN] at h;obtain ⟨_,rfl⟩:=h;exact .nil
      |succ n ih =>
       intro vs ys u h
       simp only [lN] at h
       split at h
       ·rename_i h1
        split at h
        ·rename_i h2;cases h;exact (jL h1).append (ih h2)
        ·cases h
       ·cases h
     exact this h2
    have hlen:zs.length=n∧r.length=n * t.sz:=by
     have:∀{n:Nat} {vs:List V} {ys:List t.den} {u:eF},lN (bp c1 c2 c3 c4 c5 c6) bl t n vs=some (ys,u)→ys.length=n∧vs.length=n * t.sz:=by
      intro n
      induction n with
      |zero=>intro vs ys u h;cases vs<;>simp [lN] at h;obtain ⟨rfl,rfl⟩:=h;simp
      |succ n ih =>
       intro vs ys u h
       simp only [lN] at h
       split at h
       ·rename_i h1
        split at h
        ·rename_i h2; cases h
         obtain ⟨q1,q2⟩:=ih h2
         have:=qQ h1
         exact ⟨by simp [q1],by rw [this,q2,Nat.add_mul,Nat.one_mul,Nat.add_comm]⟩
        ·cases h
       ·cases h
     exact this h2
    refine ⟨z1.append z2,by simp [hlen.1],by rw [qQ h1,hlen.2,Nat.add_mul,Nat.one_mul,Nat.add_comm],fun ι' hi hf=>?_⟩
    obtain ⟨us,ws,rfl,hd,CY⟩:=f1 ι' hi hf.left
    exact ⟨us,ws,rfl,hd,(vY h2 CY).2.2.2 ι' (au.le_refl _) hf.right⟩
   ·cases h
  ·cases h
theorem C1 {t : Ty} {xs : List t.den} {vs : List Value} (h : bw (ag ι t) xs vs) : ∀ {n i : Nat}, i + n = xs.length → aI ι μ (CK (bp c1 c2 c3 c4 c5 c6) t xs n i) (vs.drop (i * t.sz))
 |0,i,e=>by
  have hl:=h.length (fun _ _=>ag.length)
  have:vs.drop (i * t.sz)=[]:=List.drop_eq_nil_of_le (by rw [hl,←e];simp)
  rw [this];exact .nil
 |n+1,i,e=>by
  have hi:xs[i]?=some (xs.getD i t.zero):=by simp [List.getD,show i<xs.length by omega]
  have hc:=h.at (fun _ _=>ag.length) hi
  have ih:=C1 h (n:=n) (i:=i+1) (by omega)
  have e1:vs.drop (i * t.sz)=(vs.drop (i * t.sz)).take t.sz++vs.drop ((i+1) * t.sz):=by
   rw [Nat.add_mul,Nat.one_mul,←List.drop_drop,List.take_append_drop]
  rw [e1]
  exact (eW hc).append ih
theorem vZ {t:Ty} {bl:aq}:∀{vs:List V} {ys:List t.den} {u:eF} {xs:List Value},qG (bp c1 c2 c3 c4 c5 c6) bl t vs=some (ys,u)→aI ι μ vs xs →
  jf bl u∧ys.length=vs.length∧(∀x∈xs,x.cells.size=t.sz)∧∀ι',ι.le ι'→JZ ι' μ u→bw (ag ι' t) ys (xs.flatMap fun x=>x.cells.toList)
 |[],ys,u,xs,h,hr=>by
  cases h
  rw [hr.of_nil]
  exact ⟨.nil,rfl,by simp,fun ι' _ _=>rfl⟩
 |v::r,ys,u,xs,h,hr=>by
  unfold qG at h
  obtain ⟨x,xs',rfl,h1,h2⟩:=hr.bC
  split at h
  ·rename_i vs hvs
   obtain ⟨hc,_⟩:=h1.cells hvs
   split at h
   ·rename_i y u1 hy
    split at h
    ·rename_i ys' u2 hys
     cases h
     obtain ⟨a1,a2,a3,a4⟩:=vZ hys h2
     have z1:=jL hy
     refine ⟨z1.append a1,by simp [a2],?_,fun ι' hi hf=>?_⟩
     ·intro x' hx'
      rcases List.mem_cons.1 hx' with rfl|hx'
      ·exact Mn hy hc
      ·exact a3 x' hx'
     ·obtain ⟨us, ws, e, hd, hn⟩ := (jX hy hc).2 ι' hi hf.left
      have:=hn.of_nil;subst this
      exact ⟨us,_,by simp [e],hd,a4 ι' hi hf.right⟩
    ·cases h
   ·cases h
  ·cases h
end
end Go.AM
end
section
namespace Go.AM
section
variable {P : Program} {Y : Ctx} {ι ι' : au} {μ μ' : Mu} {H : aG} {w w' : World}
 {c1:Nat→List V→aG→(V→aG→Prop)→Prop} {c2:Nat→List V→V→Prop} {c3:C→St→(Ex→St→Prop)→Prop}
 {c4:Nat→List V→aG→(V→aG→Prop)→Prop} {c5:O→List Nat→C→C→St→(Ex→St→Prop)→Prop} {c6:C→St→(Ex→St→Prop)→Prop}
def nP (ob:List Bool):Prop:=∀b∈ob,b=true
def fG (l:Bool) (n aC:Nat):Nat:=match l with
 |true=>max n (aC+1)
 |false=>n
def Mo (P:Program) (Y:Ctx) (ι:au) (μ:Mu) (H:aG) (w:World) (aC:Nat) (s:Sem Next) (v:V) (u:eF) (l:Bool):Prop :=
 ∃ι' μ' x w',(s.run P w = .ok (.value x) w'∨(s.run P w = .ok .skip w'∧x=undef))∧ι.le ι'∧μ.le μ'∧(∀id,id≠aC→μ' id=μ id) ∧
  Inv P Y ι' μ' ⟨fG l H.next aC,bx u H.bl⟩ w'∧Rel ι' μ' v x
theorem Mo.pure (h:Inv P Y ι μ H w) {aC:Nat} {s:Sem Next} {v:V} {x:Value} (hs:s.run P w = .ok (.value x) w) (hr:Rel ι μ v x):Mo P Y ι μ H w aC s v [] false :=
 ⟨ι,μ,x,w,.inl hs,au.le_refl _,Mu.le_refl _,fun _ _=>rfl,h,hr⟩
theorem Mu.sM {μ:Mu} {n:Nat} {L:Loc}:∀id,id≠n→μ.set n L id=μ id:=fun id h=>by unfold Mu.set;rw [if_neg h]
theorem A2 : ∀ (n : Nat) (r : List Nat), upTo n r = List.range n ++ r
 |0,r=>rfl
 |n+1,r=>by rw [upTo,A2 n,List.range_succ,List.append_assoc];rfl
theorem C2 {f : Nat → Option V} : ∀ {ns : List Nat} {vs : List V}, AQ f ns = some vs → ∀ (i : Nat) n, ns[i]? = some n → ∃ v, vs[i]? = some v ∧ f n = some v
 |[],vs,h,i,n,hi=>by simp at hi
 |m::ns,vs,h,i,n,hi=>by
  simp only [AQ] at h
  split at h<;>try (cases h;done)
  rename_i v hv
  split at h<;>try (cases h;done)
  rename_i vs' hvs
  cases h
  cases i with
  |zero=>simp at hi;subst hi;exact ⟨v,rfl,hv⟩
  |succ i=>obtain ⟨u,hu,hf⟩:=C2 hvs i n (by simpa using hi);exact ⟨u,by simpa using hu,hf⟩
theorem HW {k : IntKind} : ∀ {vs : List V} {ns : List Int}, asI k vs = some ns → ∀ (i : Nat) v, vs[i]? = some v → ∃ n, ns[i]? = some n ∧ v = .int k n
 |[],ns,h,i,v,hv=>by simp at hv
 |w::vs,ns,h,i,v,hv=>by
  simp only [asI] at h
  split at h<;>try (cases h;done)
  rename_i k' m
  split at h<;>try (cases h;done)
  rename_i e;subst e
  split at h<;>try (cases h;done)
  rename_i ns' hns
  cases h
  cases i with
  |zero=>simp at hv;subst hv;exact ⟨m,rfl,rfl⟩
  |succ i=>obtain ⟨n,hn,e⟩:=HW hns i v (by simpa using hv);exact ⟨n,by simpa using hn,e⟩
theorem Mp {vs:List V} {j:Int} {v:V} (h:L5 (bp c1 c2 c3 c4 c5 c6) vs j=some v) (hj:j.toNat<vs.length):vs[j.toNat]?=some v:=by
 simp only [L5] at h
 split at h<;>try (cases h;done)
 rename_i k n r
 split at h<;>try (cases h;done)
 rename_i ns hns
 cases h
 have hx:(V.int k n::r)[j.toNat]?=some (V.int k n::r)[j.toNat]:=by simp
 have hall:asI k (V.int k n::r)=some (n::ns):=by simp [asI,hns]
 obtain ⟨m,hm,e⟩:=HW hall j.toNat _ hx
 rw [hx,e]
 congr 2
 show m=(n::ns).getD j.toNat 0
 simp only [List.getD,hm,Option.getD_some]
theorem C3 {cs : List V} : ∀ {l : List (Nat × Nat × Int)} {o : Nat} {v : V}, CL (bp c1 c2 c3 c4 c5 c6) cs l o = some v → (∀ x ∈ l, 0 ≤ x.2.2 ∧ x.2.2 < (x.2.1 : Int)) → cs[o + lP l]? = some v
 |[],o,v,h,_=>h
 |(eL,len,j)::r,o,v,h,hb=>by
  simp only [CL] at h
  split at h<;>try (cases h;done)
  rename_i vs hvs
  have h0:=hb _ (List.mem_cons_self ..)
  simp only at h0
  have hlen:vs.length=len:=by
   have:∀{f:Nat→Option V} {ns:List Nat} {vs:List V},AQ f ns=some vs→vs.length=ns.length:=by
    intro f ns
    induction ns with
    |nil=>intro vs h;cases h;rfl
    |cons n ns ih =>
     intro vs h
     simp only [AQ] at h
     split at h<;>try (cases h;done)
     split at h<;>try (cases h;done)
     rename_i vs' hvs
     cases h
     simp [ih hvs]
   rw [this hvs,A2];simp
  have hv:=Mp h (by omega)
  have hlt:j.toNat<len:=by omega
  have hr:(upTo len [])[j.toNat]?=some j.toNat:=by rw [A2,List.append_nil,List.getElem?_range hlt]
  obtain ⟨u,hu,hf⟩:=C2 hvs _ _ hr
  rw [hu] at hv;cases hv
  have:=C3 hf (fun x hx=>hb x (List.mem_cons_of_mem _ hx))
  rw [←this]
  congr 1
  simp only [lP];omega
theorem Q9 {cs:List V} {o:Nat} {v:V} (h:cs[o]?=some v):cut o 1 cs=some [v]:=by
 have hl:=(List.getElem?_eq_some_iff.1 h).1
 have e:(cs.drop o).take 1=[v]:=by
  rw [List.drop_eq_getElem_cons hl]
  simp [(List.getElem?_eq_some_iff.1 h).2]
 unfold cut
 rw [if_pos (by omega),e]
theorem we (h : Inv P Y ι μ H w) {env : List (Nat × V)} {t : TypeId} {g : Bool} {k : Nat} {x : O} {px : Value} {ob : List Bool} {v : V} {u : eF} {aC : Nat} (hk : cW P t = some k) (hg : sH P t = some g)
  (hx:Rel ι μ (x.ev env) px) (aj:bY (bp c1 c2 c3 c4 c5 c6) (.load g k x) env H.bl aC=some (ob,v,u)) (cV:nP ob) :
  u=[]∧∃y,(Instr.loadAt t px).run P w = .ok y w∧Rel ι μ v y:=by
 have fin:∀{b o:Nat} {cs:List V} {vs:List Value},w.rangeAt b o vs→vs.length=k→aI ι μ cs vs→(∀u∈vs,u.oneCell'=true)→cn g cs=some v →
   ∃y,(Instr.loadAt t (.pointer (some ⟨b,o,none⟩))).run P w = .ok y w∧Rel ι μ v y:=fun hr hl hR h1 hw=>by
  obtain ⟨y,hy,hv⟩:=sK hw hR h1
  exact ⟨y,FC hk hg hr hl hy,hv⟩
 simp only [bY] at aj
 split at aj<;>try (cases aj;done)
 ·rename_i id off dD
  rw [dD] at hx
  split at aj<;>try (cases aj;done)
  rename_i cs fz hb
  split at aj<;>try (cases aj;done)
  rename_i vs' sN
  split at aj<;>try (cases aj;done)
  rename_i v' hwr
  cases aj
  obtain ⟨L,vs,hM,hR⟩:=h.live _ _ hb
  cases hx with
  |ptr _ _ L' hL =>
   rw [hM.mu] at hL;cases hL
   obtain ⟨r1,r2,r3⟩:=hR.qJ sN
   exact ⟨rfl,fin (dQ hM.rangeAt off k) (by rw [←r1.1];exact r2) r1 (fun u hu=>hM.one u (List.mem_of_mem_drop (List.mem_of_mem_take hu))) hwr⟩
 ·rename_i cs dD
  rw [dD] at hx
  split at aj<;>try (cases aj;done)
  rename_i vs' sN
  split at aj<;>try (cases aj;done)
  rename_i v' hwr
  cases aj
  cases hx with
  |fu _ b o gf h1 h2 h3 =>
   have hR:aI ι μ cs ((List.range cs.length).map gf):=⟨by simp,fun i v x hv hx=>by
    have hi:=(List.getElem?_eq_some_iff.1 hv).1
    simp [hi] at hx;subst hx;exact h2 i v hv⟩
   have hrg:w.rangeAt b o ((List.range cs.length).map gf):=fun j v hv=>by
    have hj:j<cs.length:=by have:=(List.getElem?_eq_some_iff.1 hv).1;simpa using this
    simp [hj] at hv;subst hv;exact h.rd _ _ _ (h1 j hj)
   obtain ⟨r1,r2,r3⟩:=hR.qJ sN
   have:=dQ hrg 0 k
   exact ⟨rfl,fin this (by rw [←r1.1];exact r2) r1 (fun u hu=>by
    have hu:=List.mem_of_mem_drop (List.mem_of_mem_take hu)
    obtain ⟨i,_,rfl⟩:=List.mem_map.1 hu;exact h3 i) hwr⟩
 ·rename_i id te i p dD
  rw [dD] at hx
  split at aj<;>try (cases aj;done)
  case h_2 =>
   rename_i t' xs i' p' v' hb
   split at aj<;>try (cases aj;done)
   rename_i e;obtain ⟨rfl,rfl,rfl⟩:=e
   split at aj<;>try (cases aj;done)
   cases aj
   have hii:i=i':=by
    have:=cV _ (List.mem_singleton.2 rfl)
    simp [bp] at this;omega
   subst hii
   obtain ⟨L,us,vs,c,hM,hR,hl,h1,h2,h3,h4⟩:=h.live _ _ hb
   cases hx with
   |ep _ _ _ _ L' hL =>
    rw [hM.mu] at hL;cases hL
    have hlt:i * te.sz+te.bE p<vs.length:=by rw [h3];simpa using h2
    have hc:vs[i * te.sz+te.bE p]?=some c:=by rw [h3];simp [h2]
    have sN:(vs.drop (i * te.sz+te.bE p)).take 1=[c]:=by
     rw [List.drop_eq_getElem_cons hlt]
     simp [(List.getElem?_eq_some_iff.1 hc).2]
    have CY:=dQ hM.rangeAt (i * te.sz+te.bE p) 1
    rw [sN] at CY
    have:=fin CY rfl (aI.cons h4 aI.nil) (fun u hu=>by
     rw [List.mem_singleton.1 hu]
     exact hM.one c (List.mem_of_getElem? hc)) (show cn false [v]=some v from rfl)
    rw [←Nat.add_assoc] at this
    exact ⟨rfl,this⟩
  rename_i t' xs fz hb
  split at aj<;>try (cases aj;done)
  rename_i e;subst e
  split at aj<;>try (cases aj;done)
  rename_i t2 y mH
  split at aj<;>try (cases aj;done)
  rename_i hlen
  split at aj<;>try (cases aj;done)
  rename_i v' hwr
  cases aj
  have hi:i<xs.length:=by simpa using cV _ (List.mem_singleton.2 rfl)
  rcases h.live _ _ hb with ⟨rfl,_⟩|⟨L,vs,hM,hR,hl⟩
  ·simp at hi
  ·cases hx with
   |ep _ _ _ _ L' hL =>
    rw [hM.mu] at hL;cases hL
    have FD:xs[i]?=some (xs.getD i te.zero):=by simp [List.getD,hi]
    have hc:=hR.at (fun _ _=>ag.length) FD
    obtain ⟨g1,g2,_⟩:=qR mH hc
    have CY:=dQ hM.rangeAt (i * te.sz) te.sz
    have C0:=dQ CY (te.bE p) t2.sz
    have ny:=eW (μ:=μ) g1
    exact ⟨rfl,fin C0 (by rw [←ny.1];exact hlen) ny (ag.one g1) hwr⟩
 ·rename_i ti y dD
  rw [dD] at hx
  split at aj<;>try (cases aj;done)
  rename_i hlen
  split at aj<;>try (cases aj;done)
  rename_i v' hwr
  cases aj
  cases hx with
  |ip _ _ b o us h1 h2 =>
   have ny:=eW (μ:=μ) h2
   exact ⟨rfl,fin (h1.rangeAt h.rd) (by rw [←ny.1];exact hlen) ny (ag.one h2) hwr⟩
 ·rename_i id te m dD
  rw [dD] at hx
  split at aj<;>try (cases aj;done)
  rename_i t' xs fz hb
  split at aj<;>try (cases aj;done)
  rename_i e;subst e
  split at aj<;>try (cases aj;done)
  rename_i hlen
  split at aj<;>try (cases aj;done)
  rename_i v' hwr
  cases aj
  cases hx with
  |pa _ _ _ L' hL hm =>
   rcases h.live _ _ hb with ⟨rfl,hn⟩|⟨L,vs,hM,hR,hl⟩
   ·rw [hn] at hL;cases hL
   ·rw [hM.mu] at hL; cases hL
    have ny:=C1 (μ:=μ) (c1:=c1) (c2:=c2) (c3:=c3) (c4:=c4) (c5:=c5) (c6:=c6) hR (n:=m) (i:=0) (by omega)
    simp only [Nat.zero_mul,List.drop_zero] at ny
    exact ⟨rfl,fin hM.rangeAt (by rw [←ny.1];exact hlen) ny hM.one hwr⟩
 ·rename_i id o l dD
  rw [dD] at hx
  split at aj<;>try (cases aj;done)
  rename_i cs fz hb
  split at aj<;>try (cases aj;done)
  split at aj<;>try (cases aj;done)
  rename_i v1 hga
  split at aj<;>try (cases aj;done)
  rename_i v' hwr
  cases aj
  obtain ⟨L,vs,hM,hR⟩:=h.live _ _ hb
  cases hx with
  |sp _ _ _ L' hL hbn =>
   rw [hM.mu] at hL;cases hL
   have sN:cut (o+lP l) 1 cs=some [v1]:=Q9 (C3 hga hbn)
   obtain ⟨r1,r2,r3⟩:=hR.qJ sN
   exact ⟨rfl,fin (dQ hM.rangeAt (o+lP l) 1) (by rw [←r1.1];exact r2) r1 (fun u hu=>hM.one u (List.mem_of_mem_drop (List.mem_of_mem_take hu))) hwr⟩
theorem dR : ∀ (u v : eF) (bl : aq), bx (u ++ v) bl = bx v (bx u bl)
 |[],v,bl=>rfl
 |(id,none)::r,v,bl=>dR r v _
 |(id,some b)::r,v,bl=>dR r v _
theorem jf.ay : ∀ {u : eF} {bl : aq} {id : Nat} {t : Ty} {xs : List t.den} {fz : Bool}, jf bl u → ay id bl = some (.arr t xs fz) → ∃ Xa, ay id (bx u bl) = some (.arr t xs Xa)
 |[],bl,id,t,xs,fz,_,h=>⟨fz,h⟩
 |e::r,bl,id,t,xs,fz,hz,h=>by
  obtain ⟨Vk,t1,xs1,fz1,rfl,hb⟩:=hz e List.mem_cons_self
  have qa:jf ((Vk,.arr t1 xs1 true)::bu Vk bl) r:=fun e he=>by
   obtain ⟨yG,t2,W8,fz2,rfl,eC⟩:=hz e (List.mem_cons_of_mem _ he)
   by_cases hid:yG=Vk
   ·subst hid
    rw [hb] at eC;cases eC
    exact ⟨yG,t1,xs1,true,rfl,by rw [aD,if_pos rfl]⟩
   ·exact ⟨yG,t2,W8,fz2,rfl,by rw [aD,if_neg hid];exact eC⟩
  by_cases hid:id=Vk
  ·subst hid
   rw [hb] at h;cases h
   simp only [bx]
   exact jf.ay (fz:=true) qa (by rw [aD,if_pos rfl])
  ·simp only [bx]
   exact jf.ay qa (by rw [aD,if_neg hid];exact h)
theorem jf.mI : ∀ {u : eF} {bl : aq} {id : Nat}, jf bl u → (∀ e ∈ u, e.1 ≠ id) → AM.ay id (bx u bl) = AM.ay id bl
 |[],bl,id,_,_=>rfl
 |e::r,bl,id,hz,h=>by
  obtain ⟨Vk,t1,xs1,fz1,rfl,hb⟩:=hz e List.mem_cons_self
  have qa:jf ((Vk,.arr t1 xs1 true)::bu Vk bl) r:=fun e he=>by
   obtain ⟨yG,t2,W8,fz2,rfl,eC⟩:=hz e (List.mem_cons_of_mem _ he)
   by_cases hid:yG=Vk
   ·subst hid
    rw [hb] at eC;cases eC
    exact ⟨yG,t1,xs1,true,rfl,by rw [aD,if_pos rfl]⟩
   ·exact ⟨yG,t2,W8,fz2,rfl,by rw [aD,if_neg hid];exact eC⟩
  have:=jf.mI qa (fun e he=>h e (List.mem_cons_of_mem _ he))
  simp only [bx]
  rw [this,aD,if_neg (fun e=>h _ List.mem_cons_self e.symm)]
theorem zy (h:Inv P Y ι μ H w) {aC:Nat} (hn:μ aC=none) {cs:List V} {xs:List Value} (hr:aI ι μ cs xs) (h1:∀u∈xs,u.oneCell'=true) (e:TypeId) :
  ∃μ',μ.le μ'∧(∀id,id≠aC→μ' id=μ id)∧Inv P Y ι μ' ⟨max H.next (aC+1),(aC,.cells cs false)::bu aC H.bl⟩ (w.alloc (.cells xs.toArray e))∧Rel ι μ' (.ptr aC 0) (.pointer (some ⟨w.heap.size,0,none⟩)):=by
 let L:Loc:=⟨w.heap.size,0,xs.length,0⟩
 have hle:=Mu.fF (L:=L) hn
 have fM:μ.set aC L aC=some L:=by simp [Mu.set]
 have hfree:∀o,ι w.heap.size o=none:=fun o=>by
  cases vX:ι w.heap.size o with
  |none=>rfl
  |some y=>have:=World.block_lt_of_cell? _ _ (h.rd _ _ _ vX);simp at this
 refine ⟨_,hle,Mu.sM,h.lay hn (L:=L) rfl ⟨L,xs,⟨fM,(.inl h.below.size),⟨xs.toArray,e,?_,by simp [L],fun j v hv=>by simpa [L] using hv⟩,by simp [L],h1,(fun e=>by cases e),fun _=>hfree⟩,hr.mono (au.le_refl _) hle⟩,.ptr _ _ L fM⟩
 show (w.heap.push _)[w.heap.size]?=_
 simp
theorem vh (h:Inv P Y ι μ H w) {aC:Nat} (hn:μ aC=none) {t:Ty} {ys:List t.den} {xs rest:List Value} (hr:bw (ag ι t) ys xs) (e:TypeId) (cap:Nat) (hc:ys.length≤cap) (hcap:cap * t.sz≤xs.length+rest.length) :
  ∃μ',μ.le μ'∧(∀id,id≠aC→μ' id=μ id)∧Inv P Y ι μ' ⟨max H.next (aC+1),(aC,.arr t ys false)::bu aC H.bl⟩ (w.alloc (.cells (xs++rest).toArray e)) ∧
   Rel ι μ' (.sl aC t 0 ys.length) (.slice (some ⟨w.heap.size,0,none⟩) ys.length cap):=by
 let L:Loc:=⟨w.heap.size,0,xs.length+rest.length,ys.length⟩
 have hle:=Mu.fF (L:=L) hn
 have fM:μ.set aC L aC=some L:=by simp [Mu.set]
 have hfree:∀o,ι w.heap.size o=none:=fun o=>by
  cases vX:ι w.heap.size o with
  |none=>rfl
  |some y=>have:=World.block_lt_of_cell? _ _ (h.rd _ _ _ vX);simp at this
 refine ⟨_,hle,Mu.sM,h.lay hn (L:=L) rfl (.inr ⟨L,xs,⟨fM,(.inl h.below.size),⟨(xs++rest).toArray,e,?_,by simp [L],fun j v hv=>?_⟩,by simp [L],
  bw.one (fun _ _=>ag.one) hr,(fun e=>by cases e),fun _=>hfree⟩,hr,rfl⟩),?_⟩
 ·show (w.heap.push _)[w.heap.size]? = _
  simp
 ·have := (List.getElem?_eq_some_iff.1 hv).1
  simp only [L,Nat.zero_add,List.getElem?_toArray]
  rw [List.getElem?_append_left this];exact hv
 ·have := Rel.sl (ι := ι) (μ := μ.set aC L) aC t 0 ys.length cap L fM hc (by simpa [L] using hcap) (by simp [L])
  simpa [L] using this
end
end Go.AM
end
section
namespace Go.AM
section
variable {P : Program} {Y : Ctx} {ι ι' : au} {μ μ' : Mu} {H : aG} {w w' : World}
 {c1:Nat→List V→aG→(V→aG→Prop)→Prop} {c2:Nat→List V→V→Prop} {c3:C→St→(Ex→St→Prop)→Prop}
 {c4:Nat→List V→aG→(V→aG→Prop)→Prop} {c5:O→List Nat→C→C→St→(Ex→St→Prop)→Prop} {c6:C→St→(Ex→St→Prop)→Prop}
theorem splice {α:Type} (ws us:List α) (a o sz:Nat) (h:o+us.length≤sz) :
  ws.take a++(((ws.drop a).take sz).take o++us++((ws.drop a).take sz).drop (o+us.length))++ws.drop (a+sz)=ws.take (a+o)++us++ws.drop (a+o+us.length):=by
 have h1:ws.take a++((ws.drop a).take sz).take o=ws.take (a+o):=by
  rw [List.take_take,Nat.min_eq_left (by omega),List.take_add]
 have h2:((ws.drop a).take sz).drop (o+us.length)++ws.drop (a+sz)=ws.drop (a+o+us.length):=by
  rw [List.drop_take,List.drop_drop,show ws.drop (a+sz)=(ws.drop (a+(o+us.length))).drop (sz - (o+us.length)) by rw [List.drop_drop];congr 1;omega,
   List.take_append_drop]
  congr 1;omega
 simp only [List.append_assoc]
 rw [←List.append_assoc (ws.take a),h1,h2]
theorem qS {id : Nat} : ∀ {u : eF}, tV id u = true → ∀ e ∈ u, e.1 ≠ id
 |[],_,e,h=>by cases h
 |(s,b)::r,h,e,he=>by
  unfold tV at h
  split at h
  ·cases h
  ·rename_i hs
   rcases List.mem_cons.1 he with rfl|he
   ·intro e;simp only at e;subst e;rw [Nat.beq_refl] at hs;cases hs
   ·exact qS h e he
theorem C4 (h : Inv P Y ι μ H w) {env : List (Nat × V)} {t : TypeId} {k : Nat} {x a : O} {vx pa : Value} {ob : List Bool} {v : V} {u : eF} {aC : Nat} (hk : cW P t = some k)
  (hx:Rel ι μ (x.ev env) vx) (ha:Rel ι μ (a.ev env) pa) (aj:bY (bp c1 c2 c3 c4 c5 c6) (.store k a x) env H.bl aC=some (ob,v,u)) (cV:nP ob) :
  ∃ι' w',(Instr.storeAt t pa vx).run P w = .ok () w'∧ι.le ι'∧Inv P Y ι' μ ⟨H.next,bx u H.bl⟩ w'∧v = .any:=by
 simp only [bY] at aj
 split at aj<;>try (cases aj;done)
 rename_i vs hvs
 obtain ⟨hc,h1⟩:=hx.cells hvs
 split at aj<;>try (cases aj;done)
 rename_i hlen
 have hsz:vx.cells.size=k:=by have:=hc.1;simp at this;omega
 split at aj<;>try (cases aj;done)
 ·rename_i id off Xb
  rw [Xb] at ha
  split at aj<;>try (cases aj;done)
  rename_i cs hb
  split at aj<;>try (cases aj;done)
  rename_i cs' eA
  cases aj
  obtain ⟨L,ws,hM,hR⟩:=h.live _ _ hb
  cases ha with
  |ptr _ _ L' hL =>
   rw [hM.mu] at hL;cases hL
   obtain ⟨hle,gM⟩:=sL eA hR hc
   have hf:=hM.fits
   have hl:vx.cells.toList.length=k:=by simpa using hsz
   refine ⟨ι,_,iV hk (hM.there (by omega) (by omega)) hsz h1,au.le_refl _,?_,rfl⟩
   exact h.store hb hM.mu (hM.pK rfl) ⟨L,_,hM.write hle h1,gM⟩
 ·rename_i id te i p Xb
  rw [Xb] at ha
  split at aj<;>try (cases aj;done)
  rename_i t' xs hb
  split at aj<;>try (cases aj;done)
  rename_i e;subst e
  split at aj<;>try (cases aj;done)
  rename_i y u0 eA
  split at aj<;>try (cases aj;done)
  rename_i hni
  cases aj
  have hi:i<xs.length:=by simpa using cV _ (List.mem_singleton.2 rfl)
  have hz:=oM eA
  obtain ⟨ι',hle,hI,hF⟩:=jK hz h
  have hb':ay id (bx u0 H.bl)=some (.arr te xs false):=by rw [hz.mI (qS hni)];exact hb
  rcases hI.live _ _ hb' with ⟨rfl,_⟩|⟨L,ws,hM,hR,hl⟩
  ·simp at hi
  ·cases ha with
   |ep _ _ _ _ L' hL =>
    rw [hM.mu] at hL;cases hL
    have FD:xs[i]?=some (xs.getD i te.zero):=by simp [List.getD,hi]
    have hcell:=hR.at (fun _ _=>ag.length) FD
    obtain ⟨g1,g2⟩:=nO eA hc hle hF hcell
    have hwl:=hR.length (fun _ _=>ag.length)
    have hf:=hM.fits
    have yH:vx.cells.toList.length=k:=by simpa using hsz
    have hmul:i * te.sz+te.sz≤xs.length * te.sz:=by
     have:=Nat.mul_le_mul_right te.sz (show i+1≤xs.length from hi)
     rwa [Nat.add_mul,Nat.one_mul] at this
    refine ⟨ι',_,iV hk (hM.there (by omega) (by omega)) hsz h1,hle,?_,rfl⟩
    rw [dR]
    have hw:=hM.write (d:=i * te.sz+te.bE p) (us:=vx.cells.toList) (by omega) h1
    rw [←Nat.add_assoc] at hw
    refine hI.store hb' hM.mu (hM.pK rfl) (.inr ⟨L,_,hw,?_,by simpa using hl⟩)
    have tZ:=hR.set (fun _ _=>ag.length) hi g2
    have hsp:=splice ws vx.cells.toList (i * te.sz) (te.bE p) te.sz g1
    rw [show (i+1) * te.sz=i * te.sz+te.sz by rw [Nat.add_mul,Nat.one_mul],hsp] at tZ
    exact tZ
 ·rename_i id te m Xb
  rw [Xb] at ha
  split at aj<;>try (cases aj;done)
  rename_i t' xs hb
  split at aj<;>try (cases aj;done)
  rename_i e;subst e
  split at aj<;>try (cases aj;done)
  rename_i ys u0 eA
  split at aj<;>try (cases aj;done)
  rename_i hni
  cases aj
  obtain ⟨hz,Xc,hvl,eG⟩:=vY eA hc
  obtain ⟨ι',hle,hI,hF⟩:=jK hz h
  have hb':ay id (bx u0 H.bl)=some (.arr te xs false):=by rw [hz.mI (qS hni)];exact hb
  cases ha with
  |pa _ _ _ L' hL hm =>
   rcases hI.live _ _ hb' with ⟨rfl,hn⟩|⟨L,ws,hM,hR,hl⟩
   ·rw [hn] at hL;cases hL
   ·rw [hM.mu] at hL; cases hL
    have hwl:=hR.length (fun _ _=>ag.length)
    have hf:=hM.fits
    have yH:vx.cells.toList.length=k:=by simpa using hsz
    have hkk:k=xs.length * te.sz:=by rw [←hlen,hvl,hl,hm]
    refine ⟨ι',_,iV hk (hM.there (Nat.le_refl _) (by omega)) hsz h1,hle,?_,rfl⟩
    rw [dR]
    have hw:=hM.write (d:=0) (us:=vx.cells.toList) (by omega) h1
    rw [Nat.add_zero] at hw
    refine hI.store hb' hM.mu (hM.pK rfl) (.inr ⟨_,_,hw,?_,by omega⟩)
    have:ws.drop (0+vx.cells.toList.length)=[]:=List.drop_eq_nil_of_le (by omega)
    rw [this]
    simpa using eG ι' hle hF
theorem wg : ∀ {t t1 : Ty} {p q : List Bool}, t.qD p = some t1 → t.bE (p ++ q) = t.bE p + t1.bE q
 |t,t1,[],q,h=>by
  have:t=t1:=by cases t<;>(simp [Ty.qD] at h;exact h)
  subst this
  have:t.bE []=0:=by cases t<;>rfl
  rw [this];simp
 | .prod a b,t1,false::p,q,h=>by
  simp only [Ty.qD] at h
  simp only [List.cons_append,Ty.bE]
  exact wg h
 | .prod a b,t1,true::p,q,h=>by
  simp only [Ty.qD] at h
  simp only [List.cons_append,Ty.bE]
  rw [wg h];omega
 | .unit,t1,b::p,q,h=>by cases b<;>simp [Ty.qD] at h
 | .bool,t1,b::p,q,h=>by cases b<;>simp [Ty.qD] at h
 | .str,t1,b::p,q,h=>by cases b<;>simp [Ty.qD] at h
 | .int k,t1,b::p,q,h=>by cases b<;>simp [Ty.qD] at h
 | .list k,t1,b::p,q,h=>by cases b<;>simp [Ty.qD] at h
 | .cu _ _ _,t1,b::p,q,h=>by cases b<;>simp [Ty.qD] at h
theorem wh : ∀ {t : Ty} {vs : List V} {q : List Bool} {cs : List Value}, uI t vs = some q → aI ι μ vs cs → ∃ c, cs[t.bE q]? = some c ∧ Rel ι μ .bX c
 | .list s,[],q,cs,h,hr=>by simp [uI] at h
 | .list s,x::r,q,cs,h,hr=>by
  obtain ⟨y,ys,rfl,h1,h2⟩:=hr.bC
  cases x<;>simp [uI] at h
  subst h
  exact ⟨y,by simp [Ty.bE],h1⟩
 | .prod a b,vs,q,cs,h,hr=>by
  simp only [uI] at h
  split at h
  ·rename_i p h1
   cases h
   have:=wh (t:=a) h1 hr
   simpa only [Ty.bE] using this
  ·split at h <;> try (cases h; done)
   rename_i p h1
   cases h
   obtain ⟨c,e1,e2⟩:=wh h1 (hr.drop a.sz)
   rw [List.getElem?_drop] at e1
   exact ⟨c,e1,e2⟩
 | .unit,vs,q,cs,h,hr=>by simp [uI] at h
 | .bool,vs,q,cs,h,hr=>by simp [uI] at h
 | .str,vs,q,cs,h,hr=>by simp [uI] at h
 | .int k,vs,q,cs,h,hr=>by simp [uI] at h
 | .cu _ _ _,vs,q,cs,h,hr=>by simp [uI] at h
theorem Ra (h:Inv P Y ι μ H w) {aC:Nat} (hn:μ aC=none) {t:Ty} {y:t.den} {xs:List Value} (hr:bw (ag ι t) [y] xs) (e:TypeId) {p:List Bool} {c:Value} (hc:xs[t.bE p]?=some c) (hcr:Rel ι μ .bX c) :
  ∃μ',μ.le μ'∧(∀id,id≠aC→μ' id=μ id)∧Inv P Y ι μ' ⟨max H.next (aC+1),(aC,.mw t [y] 0 p .bX)::bu aC H.bl⟩ (w.alloc (.cells (xs++[]).toArray e)) ∧
   Rel ι μ' (.sl aC t 0 1) (.slice (some ⟨w.heap.size,0,none⟩) 1 1):=by
 let L:Loc:=⟨w.heap.size,0,xs.length,1⟩
 have hle:=Mu.fF (L:=L) hn
 have fM:μ.set aC L aC=some L:=by simp [Mu.set]
 have hfree:∀o,ι w.heap.size o=none:=fun o=>by
  cases vX:ι w.heap.size o with
  |none=>rfl
  |some y=>have:=World.block_lt_of_cell? _ _ (h.rd _ _ _ vX);simp at this
 have hlt:=(List.getElem?_eq_some_iff.1 hc).1
 have eA:xs=xs.set (t.bE p) c:=by
  conv=>lhs;rw [←List.set_getElem_self (as:=xs) hlt]
  rw [(List.getElem?_eq_some_iff.1 hc).2]
 refine ⟨_,hle,Mu.sM,h.lay hn (L:=L) rfl ⟨L,xs,xs,c,⟨fM,(.inl h.below.size),⟨(xs++[]).toArray,e,?_,by simp [L],fun j v hv=>?_⟩,by simp [L],
  bw.one (fun _ _=>ag.one) hr,(fun e=>by cases e),fun _=>hfree⟩,hr,rfl,by simp,by simpa using hlt,by simpa using eA,hcr.mono (au.le_refl _) hle⟩,?_⟩
 ·show (w.heap.push _)[w.heap.size]? = _
  simp
 ·simpa [L] using hv
 ·have hl := hr.length (fun _ _ => ag.length)
  have:=Rel.sl (ι:=ι) (μ:=μ.set aC L) aC t 0 1 1 L fM (Nat.le_refl _) (by simp [L,hl]) (by simp [L])
  simpa [L] using this
theorem wj:∀{t:Ty} {vs:List V} {q:List Bool} {v:V} {vs':List V} {cs:List Value},lD t vs=some (q,v,vs')→aI ι μ vs cs →
  ∃c,cs[t.bE q]?=some c∧Rel ι μ v c∧aI ι μ vs' (cs.set (t.bE q) (.slice none 0 0))
 | .list s,[],q,v,vs',cs,h,hr=>by simp [lD] at h
 | .list s,x::r,q,v,vs',cs,h,hr=>by
  obtain ⟨y,ys,rfl,h1,h2⟩:=hr.bC
  cases x<;>simp [lD] at h
  obtain ⟨rfl,rfl,rfl⟩:=h
  refine ⟨y,by simp [Ty.bE],h1,?_⟩
  simp only [Ty.bE,List.set_cons_zero]
  exact .cons (.bX _) h2
 | .prod a b,vs,q,v,vs',cs,h,hr=>by
  simp only [lD] at h
  split at h
  ·rename_i p v1 vs1 h1
   cases h
   have:=wj (t:=a) h1 hr
   simpa only [Ty.bE] using this
  ·split at h <;> try (cases h; done)
   rename_i p v1 vs1 h1
   cases h
   obtain ⟨c,e1,e2,e3⟩:=wj h1 (hr.drop a.sz)
   rw [List.getElem?_drop] at e1
   have hlt:=(List.getElem?_eq_some_iff.1 e1).1
   refine ⟨c,e1,e2,?_⟩
   have:cs.set (a.sz+b.bE p) (.slice none 0 0)=cs.take a.sz++(cs.drop a.sz).set (b.bE p) (.slice none 0 0):=by
    conv=>lhs;rw [←List.take_append_drop a.sz cs]
    rw [List.set_append_right _ _ (by simp;omega)]
    congr 2
    simp;omega
   simp only [Ty.bE]
   rw [this]
   exact (hr.take a.sz).append e3
 | .unit,vs,q,v,vs',cs,h,hr=>by simp [lD] at h
 | .bool,vs,q,v,vs',cs,h,hr=>by simp [lD] at h
 | .str,vs,q,v,vs',cs,h,hr=>by simp [lD] at h
 | .int k,vs,q,v,vs',cs,h,hr=>by simp [lD] at h
 | .cu _ _ _,vs,q,v,vs',cs,h,hr=>by simp [lD] at h
theorem Mq {α:Type} {A cs B:List α} {j:Nat} {z c:α} (h:cs[j]?=some c):(A++cs.set j z++B).set (A.length+j) c=A++cs++B:=by
 obtain ⟨hj,rfl⟩:=List.getElem?_eq_some_iff.1 h
 rw [List.append_assoc,List.set_append_right _ _ (by omega),List.append_assoc]
 congr 1
 rw [show A.length+j - A.length=j by omega,List.set_append_left _ _ (by simpa using hj)]
 congr 1
 simp
theorem A3 (h : Inv P Y ι μ H w) {aC : Nat} {env : List (Nat × V)} {t : TypeId} {k : Nat} {x a : O} {vx pa : Value} {ob : List Bool} {v : V} {u : eF} (hk : cW P t = some k)
  (hx:Rel ι μ (x.ev env) vx) (ha:Rel ι μ (a.ev env) pa) (aj:yM (bp c1 c2 c3 c4 c5 c6) (.store k a x) env H.bl aC=some (ob,v,u)) (cV:nP ob) :
  ∃w',(Instr.storeAt t pa vx).run P w = .ok () w'∧Inv P Y ι μ ⟨H.next,bx u H.bl⟩ w'∧v = .any:=by
 simp only [yM] at aj
 split at aj<;>try (cases aj;done)
 rename_i vs hvs
 obtain ⟨hc,h1⟩:=hx.cells hvs
 split at aj<;>try (cases aj;done)
 rename_i hlen
 have hsz:vx.cells.size=k:=by have:=hc.1;simp at this;omega
 have yH:vx.cells.toList.length=k:=by simpa using hsz
 split at aj<;>try (cases aj;done)
 rename_i id te i p Xb
 rw [Xb] at ha
 split at aj<;>try (cases aj;done)
 ·rename_i t' xs hb
  split at aj<;>try (cases aj;done)
  rename_i e;subst e
  split at aj<;>try (cases aj;done)
  rename_i t1 hat
  split at aj<;>try (cases aj;done)
  rename_i q v1 vs1 hop
  split at aj<;>try (cases aj;done)
  rename_i y eA
  cases aj
  have hi:i<xs.length:=by simpa using cV _ (List.mem_singleton.2 rfl)
  obtain ⟨c,e1,e2,e3⟩:=wj hop hc
  rcases h.live _ _ hb with ⟨rfl,_⟩|⟨L,ws,hM,hR,hl⟩
  ·simp at hi
  ·cases ha with
   |ep _ _ _ _ L' hL =>
    rw [hM.mu] at hL;cases hL
    have FD:xs[i]?=some (xs.getD i te.zero):=by simp [List.getD,hi]
    have hcell:=hR.at (fun _ _=>ag.length) FD
    obtain ⟨g1,g2⟩:=nO eA e3 (au.le_refl _) (fun id t xs h=>by cases h) hcell
    rw [List.length_set] at g1
    have hwl:=hR.length (fun _ _=>ag.length)
    have hf:=hM.fits
    have hj:=(List.getElem?_eq_some_iff.1 e1).1
    have hmul:i * te.sz+te.sz≤xs.length * te.sz:=by
     have:=Nat.mul_le_mul_right te.sz (show i+1≤xs.length from hi)
     rwa [Nat.add_mul,Nat.one_mul] at this
    refine ⟨_,iV hk (hM.there (by omega) (by omega)) hsz h1,?_,rfl⟩
    have hw:=hM.write (d:=i * te.sz+te.bE p) (us:=vx.cells.toList) (by omega) h1
    rw [←Nat.add_assoc] at hw
    have tZ:=hR.set (fun _ _=>ag.length) hi g2
    have hsp:=splice ws (vx.cells.toList.set (t1.bE q) (.slice none 0 0)) (i * te.sz) (te.bE p) te.sz (by simpa using g1)
    rw [show (i+1) * te.sz=i * te.sz+te.sz by rw [Nat.add_mul,Nat.one_mul],hsp,List.length_set] at tZ
    have hA:(ws.take (i * te.sz+te.bE p)).length=i * te.sz+te.bE p:=by rw [List.length_take];omega
    have hoff:i * te.sz+te.bE (p++q)=(ws.take (i * te.sz+te.bE p)).length+t1.bE q:=by rw [hA,wg hat];omega
    refine h.store hb hM.mu (hM.pK rfl) ⟨L,_,_,c,hw,tZ,by simpa using hl,by simpa using hi,?_,?_,e2⟩
    ·rw [hoff]
     simp only [List.length_append,List.length_set];omega
    ·rw [hoff,Mq e1]
 ·rename_i t' xs i' p' v' hb
  split at aj<;>try (cases aj;done)
  rename_i e;obtain ⟨rfl,rfl⟩:=e
  split at aj<;>try (cases aj;done)
  rename_i id' s lo n
  cases aj
  have hii:i=i':=by
   have:=cV _ (List.mem_singleton.2 rfl)
   simp [bp] at this;omega
  subst hii
  obtain ⟨L,us,ws,c,hM,hR,hl,h2,h3,h4,h5⟩:=h.live _ _ hb
  cases ha with
  |ep _ _ _ _ L' hL =>
   rw [hM.mu] at hL;cases hL
   obtain ⟨c',r,ecs,hc',hr'⟩:=hc.bC
   have hr0:=hr'.of_nil;subst hr0
   have hwl:ws.length=us.length:=by rw [h4];simp
   have hf:=hM.fits
   have HX:k=1:=by rw [←yH,ecs];rfl
   refine ⟨_,iV hk (hM.there (by omega) (by omega)) hsz h1,?_,rfl⟩
   have hw:=hM.write (d:=i * te.sz+te.bE p) (us:=vx.cells.toList) (by omega) h1
   rw [←Nat.add_assoc] at hw
   refine h.store hb hM.mu (hM.pK rfl) ⟨L,us,_,c',hw,hR,hl,h2,h3,?_,hc'⟩
   rw [ecs,h4]
   simp only [List.length_cons,List.length_nil]
   rw [List.set_eq_take_append_cons_drop,if_pos h3,List.set_eq_take_append_cons_drop,if_pos h3]
   have ht:(us.take (i * te.sz+te.bE p)).length=i * te.sz+te.bE p:=by rw [List.length_take];omega
   rw [List.take_append_of_le_length (by omega),List.take_of_length_le (by omega),List.drop_append,List.drop_eq_nil_of_le (by omega),ht]
   simp
theorem Rb {bl:aq} {n:Nat} {id:Nat} {u:eF} (hu:clU (bp c1 c2 c3 c4 c5 c6) id bl=some u) (h:Inv P Y ι μ ⟨n,bl⟩ w):∃ι',ι.le ι'∧Inv P Y ι' μ ⟨n,bx u bl⟩ w:=by
 unfold clU at hu
 split at hu
 ·rename_i t xs i p v hb
  split at hu<;>try (cases hu;done)
  rename_i y u0 eA
  split at hu<;>try (cases hu;done)
  rename_i hni
  cases hu
  have hz:=oM eA
  obtain ⟨ι',hle,hI,hF⟩:=jK hz h
  have hb':ay id (bx u0 bl)=some (.mw t xs i p v):=by rw [hz.mI (qS hni)];exact hb
  obtain ⟨L,us,ws,c,hM,hR,hl,h2,h3,h4,h5⟩:=h.live _ _ hb
  obtain ⟨L',us',ws',c',hM',_⟩:=hI.live _ _ hb'
  have hLL:L=L':=by have:=hM.mu.symm.trans hM'.mu;cases this;rfl
  subst hLL
  have gM:bw (ag ι' t) xs us:=bw.mono (fun _ _=>ag.mono hle) hR
  have FD:xs[i]?=some (xs.getD i t.zero):=by simp [List.getD,h2]
  have hcell:=gM.at (fun _ _=>ag.length) FD
  obtain ⟨g1,g2⟩:=nO eA (aI.cons h5 aI.nil) hle hF hcell
  refine ⟨ι',hle,?_⟩
  rw [dR]
  refine hI.same hb' (.inr ⟨L,ws,⟨hM.mu,hM.old,hM.row,hM.fits,hM.one,fun e=>(by cases e),hM'.pK⟩,?_,by simpa using hl⟩)
  have tZ:=gM.set (fun _ _=>ag.length) h2 g2
  have hsp:=splice us [c] (i * t.sz) (t.bE p) t.sz g1
  rw [show (i+1) * t.sz=i * t.sz+t.sz by rw [Nat.add_mul,Nat.one_mul],hsp] at tZ
  have:us.set (i * t.sz+t.bE p) c=us.take (i * t.sz+t.bE p)++[c]++us.drop (i * t.sz+t.bE p+[c].length):=by
   rw [List.set_eq_take_append_cons_drop,if_pos h3];simp
  rw [h4,this]
  exact tZ
 ·cases hu
  exact ⟨ι,au.le_refl _,h⟩
theorem HY : ∀ {ids : List Nat} {ι : au} {bl : aq} {n : Nat} {u : eF}, LG (bp c1 c2 c3 c4 c5 c6) ids bl = some u → Inv P Y ι μ ⟨n, bl⟩ w → ∃ ι', ι.le ι' ∧ Inv P Y ι' μ ⟨n, bx u bl⟩ w
 |[],ι,bl,n,u,hu,h=>by cases hu;exact ⟨ι,au.le_refl _,h⟩
 |id::r,ι,bl,n,u,hu,h=>by
  simp only [LG] at hu
  split at hu<;>try (cases hu;done)
  rename_i u1 hu1
  split at hu<;>try (cases hu;done)
  rename_i u2 hu2
  cases hu
  obtain ⟨ι1,l1,Fg⟩:=Rb hu1 h
  obtain ⟨ι2,l2,nN⟩:=HY hu2 Fg
  exact ⟨ι2,au.le_trans l1 l2,by rw [dR];exact nN⟩
theorem A4:∀(vs:List Value) (j:Nat) (off:Nat) (cells:Array Value),off+j+vs.length≤cells.size →
  ((vs.zipIdx j).foldl (fun cs (c,j)=>cs.setIfInBounds (off+j) c) cells).toList=cells.toList.take (off+j)++vs++cells.toList.drop (off+j+vs.length)
 |[],j,off,cells,h=>by simp
 |v::r,j,off,cells,h=>by
  simp only [List.zipIdx_cons,List.foldl_cons]
  rw [show ((r.zipIdx (j+1)).foldl (fun cs (c,j)=>cs.setIfInBounds (off+j) c) (cells.setIfInBounds (off+j) v)).toList=_ from A4 r (j+1) off _ (by simp at h ⊢;omega)]
  simp only [List.length_cons] at h
  simp only [Array.toList_setIfInBounds,List.length_cons]
  rw [List.take_set,List.drop_set_of_lt (by omega),show off+(j+1)=(off+j)+1 by omega,List.take_succ_eq_append_getElem (by simp;omega)]
  rw [List.set_append_right _ _ (by simp;omega),List.length_take,Nat.min_eq_left (by simp;omega)]
  simp
  congr 1;omega
theorem nQ {place:Nat→Option (Nat×Nat)} {env:List (Nat×V)} {a:Act} (he:ez ι μ env a.tmps):∀{parts:List (Nat×Operand)} {ps:List (Nat×Nat×O)} {zs cs:List V} {cells:Array Value},
  partsOf place parts=some ps→tU ps env zs=some cs→aI ι μ zs cells.toList→(∀u∈cells.toList,u.oneCell'=true) →
  ∃out,Instr.fill place cells (parts.map fun (i,x)=>(i,a.eval x))=some out∧aI ι μ cs out.toList∧∀u∈out.toList,u.oneCell'=true
 |[],ps,zs,cs,cells,h,hf,hr,h1=>by
  cases h;cases hf
  exact ⟨cells,rfl,hr,h1⟩
 |(i,x)::r,ps,zs,cs,cells,h,hf,hr,h1=>by
  unfold partsOf at h
  split at h<;>try (cases h;done)
  rename_i off k y ys hp hx hys
  cases h
  unfold tU at hf
  split at hf<;>try (cases hf;done)
  rename_i vs hvs
  obtain ⟨hc,ho⟩:=(aB he hx).cells hvs
  split at hf<;>try (cases hf;done)
  rename_i hlen
  split at hf<;>try (cases hf;done)
  rename_i cs' eA
  obtain ⟨hle,hR⟩:=sL eA hr hc
  have hsz:(a.eval x).cells.size=k:=by have:=hc.1;simp at this;omega
  have C5:=A4 (a.eval x).cells.toList 0 off cells (by simpa using hle)
  simp only [List.map_cons,Instr.fill,hp]
  rw [if_neg (by simp [hsz];simp at hle;omega)]
  refine nQ he hys hf ?_ ?_
  ·rw [←Array.foldl_toList,Array.toList_zipIdx,C5];simpa using hR
  ·rw [← Array.foldl_toList, Array.toList_zipIdx, C5]
   intro u hu
   simp only [Nat.add_zero,List.mem_append] at hu
   rcases hu with (hu|hu)|hu
   ·exact h1 u (List.mem_of_mem_take hu)
   ·exact ho u hu
   ·exact h1 u (List.mem_of_mem_drop hu)
theorem qb {k:Nat}:∀(vs:List Value) (n:Nat) (cells:Array Value),(∀v∈vs,v.cells.size=k)→cells.size=(n+vs.length) * k →
  ∃out,Instr.fill (fun i=>some (i * k,k)) cells ((vs.zipIdx n).map fun (v,i)=>(i,v))=some out∧out.toList=cells.toList.take (n * k)++vs.flatMap fun v=>v.cells.toList
 |[],n,cells,_,hs=>⟨cells,rfl,by
  simp at hs
  have:cells.toList.length≤n * k:=by simp;omega
  simp [List.take_of_length_le this]⟩
 |v::r,n,cells,hv,hs=>by
  have hk:=hv v List.mem_cons_self
  simp only [List.length_cons] at hs
  have hfit:n * k+k≤cells.size:=by
   rw [hs,show n+(r.length+1)=(n+1)+r.length by omega,Nat.add_mul,Nat.add_mul,Nat.one_mul];omega
  have C5:=A4 v.cells.toList 0 (n * k) cells (by simp [hk];exact hfit)
  have hsize:((v.cells.toList.zipIdx 0).foldl (fun cs (c,j)=>cs.setIfInBounds (n * k+j) c) cells).size=cells.size:=by
   have:=congrArg List.length C5
   rw [Array.length_toList] at this
   rw [this]
   simp [hk];omega
  obtain ⟨out, h1, h2⟩ := qb r (n + 1) ((v.cells.toList.zipIdx 0).foldl (fun cs (c, j) => cs.setIfInBounds (n * k + j) c) cells) (fun u hu => hv u (List.mem_cons_of_mem _ hu))
   (by rw [hsize,hs];congr 1;omega)
  refine ⟨out,?_,?_⟩
  ·simp only [List.zipIdx_cons, List.map_cons, Instr.fill]
   rw [if_neg (by simp [hk];omega),←Array.foldl_toList,Array.toList_zipIdx]
   exact h1
  ·rw [h2, C5]
   simp only [Nat.add_zero,List.flatMap_cons,Nat.add_mul,Nat.one_mul]
   rw [List.take_append_of_le_length (by simp [hk];omega),List.take_of_length_le (by simp [hk];omega)]
   simp
end
end Go.AM
end
section
namespace Go.AM
section
variable {P : Program} {Y : Ctx} {ι ι' : au} {μ μ' : Mu} {H : aG} {w w' : World}
 {c1:Nat→List V→aG→(V→aG→Prop)→Prop} {c2:Nat→List V→V→Prop} {c3:C→St→(Ex→St→Prop)→Prop}
 {c4:Nat→List V→aG→(V→aG→Prop)→Prop} {c5:O→List Nat→C→C→St→(Ex→St→Prop)→Prop} {c6:C→St→(Ex→St→Prop)→Prop}
theorem Inv.HZ (h:Inv P Y ι μ H w) {aC:Nat} (hn:μ aC=none) (t:Ty) (fz:Bool):Inv P Y ι μ ⟨max H.next (aC+1),(aC,.arr t [] fz)::bu aC H.bl⟩ w:=by
 refine ⟨h.below,h.i0,h.iB,h.rd,h.m0,fun id hid=>h.nx id (by simp only at hid;omega),fun id B hB=>?_,?_,?_,h.gl⟩
 ·rw [aD] at hB
  split at hB
  ·rename_i e;subst e;cases hB;exact .inl ⟨rfl,hn⟩
  ·exact h.live id B hB
 ·intro id id' B B' L1 L2 h1 h2 gj hm2 e
  rw [aD] at h1 h2
  by_cases e1:id=aC<;>by_cases e2:id'=aC
  ·rw [e1,e2]
  ·subst e1;rw [hn] at gj;cases gj
  ·subst e2;rw [hn] at hm2;cases hm2
  ·rw [if_neg e1] at h1; rw [if_neg e2] at h2
   exact h.inj id id' B B' L1 L2 h1 h2 gj hm2 e
 ·intro id B hB
  rw [aD] at hB
  split at hB
  ·rename_i e;subst e;simp only;omega
  ·have:=h.lt id B hB;simp only;omega
theorem Inv.move (h : Inv P Y ι μ H w) {aC : Nat} (hn : μ aC = none) {id : Nat} {b0 b : kR} (hb0 : ay id H.bl = some b0) {L L' : Loc} (hL : μ id = some L) (Xd : L'.b = L.b) (hfree : ∀ o, ι L.b o = none)
  (hos:w'.os=w.os) (Mm:w'.tape=w.tape) (hout:w'.output=w.output) (hdr:w'.drawn=w.drawn) (hsz:w'.heap.size=w.heap.size) (hk:∀k,k≠L.b→w'.heap[k]?=w.heap[k]?)
  (W5:js w.heap[L.b]? w'.heap[L.b]?) (hb:dL P Y.own ι (μ.set aC L') aC w' b):Inv P Y ι (μ.set aC L') ⟨max H.next (aC+1),(aC,b)::bu aC (bu id H.bl)⟩ w':=by
 have hold:=((h.live id b0 hb0).loc hL).1
 have hle:=Mu.fF (L:=L') hn
 have hidn:id≠aC:=fun e=>by subst e;rw [hn] at hL;cases hL
 have H6:∀{j B},j≠aC→ay j ((aC,b)::bu aC (bu id H.bl))=some B→j≠id∧ay j H.bl=some B:=fun {j B} hj hB=>by
  rw [aD,if_neg hj,bn] at hB
  split at hB
  ·cases hB
  ·rename_i e;exact ⟨e,hB⟩
 refine ⟨⟨hos.trans h.below.os, Mm.trans h.below.tape, hout.trans h.below.output, by rw [hsz]; exact h.below.size, fun k hk' hx => ?_, by rw [hdr]; exact h.below.dr, fun k hk' => (h.below.maps k hk').trans (by
   by_cases e:k=L.b
   ·subst e;exact W5
   ·exact .eq (hk k e))⟩,h.i0,h.iB,fun b o x hx=>?_,Mu.le_trans h.m0 hle,fun i hid=>?_,fun i B hB=>?_,?_,?_,h.gl⟩
 ·rw [hk k (Ctx.lE hold hk' hx)];exact h.below.block k hk' hx
 ·have := h.rd b o x hx
  have hne:b≠L.b:=fun e=>by subst e;rw [hfree] at hx;cases hx
  unfold World.cell? at this ⊢
  simp only at this ⊢
  rw [hk b hne];exact this
 ·simp only at hid
  unfold Mu.set;rw [if_neg (by omega)];exact h.nx i (by omega)
 ·by_cases e : i = aC
  ·subst e;rw [aD,if_pos rfl] at hB;cases hB;exact hb
  ·obtain ⟨h1, h2⟩ := H6 e hB
   refine (h.live i B h2).mono (au.le_refl _) hle (fun hm=>by unfold Mu.set;rw [if_neg e];exact hm) (fun L1 Xe=>hk _ (fun e'=>h1 (h.inj i id B b0 L1 L h2 hb0 Xe hL e'))) (fun _ _ h=>h)
 ·intro i i' B B' L1 L2 h1 h2 gj hm2 e
  by_cases e1:i=aC<;>by_cases e2:i'=aC
  ·rw [e1,e2]
  ·obtain ⟨g1, g2⟩ := H6 e2 h2
   unfold Mu.set at gj hm2
   rw [if_pos e1] at gj;rw [if_neg e2] at hm2;cases gj
   exact absurd (h.inj i' id B' b0 L2 L g2 hb0 hm2 hL (by omega)) g1
  ·obtain ⟨g1, g2⟩ := H6 e1 h1
   unfold Mu.set at gj hm2
   rw [if_pos e2] at hm2;rw [if_neg e1] at gj;cases hm2
   exact absurd (h.inj i id B b0 L1 L g2 hb0 gj hL (by omega)) g1
  ·obtain ⟨g1, g2⟩ := H6 e1 h1
   obtain ⟨g3,g4⟩:=H6 e2 h2
   unfold Mu.set at gj hm2
   rw [if_neg e1] at gj;rw [if_neg e2] at hm2
   exact h.inj i i' B B' L1 L2 g2 g4 gj hm2 e
 ·intro i B hB
  by_cases e:i=aC
  ·subst e;simp only;omega
  ·obtain ⟨_, h2⟩ := H6 e hB
   have:=h.lt i B h2;simp only;omega
theorem sP (h : Inv P Y ι μ H w) {t : Ty} {yv : V} {x : Value} {ys : List t.den} {tx e' : TypeId} (hk : P.underlying tx = some (.slice e')) (hy : elems (bp c1 c2 c3 c4 c5 c6) H.bl t yv = some ys)
  (hr:Rel ι μ yv x):∃news,Src P t.sz tx x ys.length news w∧bw (ag ι t) ys news:=by
 have nil:∀a cap,Src P t.sz tx (.slice a 0 cap) 0 [] w:=fun a cap=>by
  cases a with
  |none=>exact Src.ofNil w hk cap
  |some a=>exact Src.ofSlice w hk a 0 cap [] (by simp) (fun j u h=>by simp at h) (fun u h=>by cases h)
 have ofR:∀{b o n cap:Nat} {us:List Value},w.rangeAt b o us→us.length=n * t.sz→(∀u∈us,u.oneCell'=true)→Src P t.sz tx (.slice (some ⟨b,o,none⟩) n cap) n us w:=fun hrg hl h1 =>
  Src.ofSlice w hk _ _ _ _ hl (fun j u hu=>by rw [Addr.add_mid];exact hrg j u hu) h1
 unfold elems at hy
 split at hy<;>try (cases hy;done)
 ·cases hy;cases hr;exact ⟨[],nil _ _,rfl⟩
 ·rename_i t' zs
  obtain ⟨e,hz⟩:=dU hy
  subst e;subst hz
  cases hr with
  |eO _ _ _ hd =>
   obtain ⟨a,cap,e,hle,hd⟩:=hd
   cases e
   rcases hd with rfl|⟨b,o,us,rfl,hrd,hc⟩
   ·exact ⟨[],nil a cap,rfl⟩
   ·exact ⟨us,ofR (hrd.rangeAt h.rd) (hc.length (fun _ _=>ag.length)) (hc.one fun _ _=>ag.one),hc⟩
 ·rename_i id t' lo n
  split at hy<;>try (cases hy;done)
  rename_i t'' zs fz hb
  split at hy<;>try (cases hy;done)
  rename_i e;subst e
  split at hy<;>try (cases hy;done)
  rename_i zs' hc
  cases hy
  obtain ⟨e,hz⟩:=dU hc
  subst e;subst hz
  cases hr with
  |bN=>exact ⟨[],by simpa using nil _ _,by simp [bw]⟩
  |sl _ _ _ _ cap L hm h1 h2 h3 =>
   rcases h.live _ _ hb with ⟨_,hn⟩|⟨L',vs,hM,hR,hl⟩
   ·rw [hn] at hm;cases hm
   ·rw [hM.mu] at hm; cases hm
    have hlen:((zs'.drop lo).take n).length=n:=by simp;omega
    have eG:=(hR.drop (fun _ _=>ag.length) lo).take (fun _ _=>ag.length) n
    have Cy:=eG.length (fun _ _=>ag.length)
    rw [hlen] at Cy
    refine ⟨_,?_,eG⟩
    show Src P _ tx _ ((zs'.drop lo).take n).length _ w
    rw [hlen]
    exact ofR (dQ hM.rangeAt _ _) Cy (eG.one fun _ _=>ag.one)
theorem eX {e:TypeId} {k:Nat} (h:jS P e=some k):∃i z,P.info? e=some i∧i.zero=some z∧i.bytes≤lR∧z.cells.size=i.size∧i.size=k:=by
 unfold jS at h
 split at h<;>try (cases h;done)
 rename_i i hi
 split at h<;>try (cases h;done)
 rename_i z hz
 split at h<;>try (cases h;done)
 rename_i hb
 cases h
 exact ⟨i,z,hi,hz,hb.1,hb.2,rfl⟩
theorem wk (h : Inv P Y ι μ H w) {aC : Nat} (hn : μ aC = none) {t : Ty} {tt tx ty e e' : TypeId} (ht : P.underlying tt = some (.slice e)) (htx : P.underlying tx = some (.slice e')) (he : jS P e = some t.sz)
  {base:Option Addr} {n cap:Nat} {xs ys:List t.den} {olds news:List Value} (hxl:xs.length=n) (hxs:bw (ag ι t) xs olds)
  (hold:(Builtin.firstCells t.sz n (.slice base n cap)).run P w.drew = .ok olds.toArray w.drew) {x:Value} (hs:Src P t.sz tx x ys.length news w) (hys:bw (ag ι t) ys news)
  (hg:cap<n+ys.length) (lF:n+ys.length<bI) :
  ∃μ' v w',(Builtin.append_ #[tt,tx] ty #[.slice base n cap,x]).run P w = .ok v w'∧μ.le μ'∧(∀id,id≠aC→μ' id=μ id) ∧
   Inv P Y ι μ' ⟨max H.next (aC+1),(aC,.arr t (xs++ys) false)::bu aC H.bl⟩ w'∧Rel ι μ' (.sl aC t 0 (n+ys.length)) v:=by
 obtain ⟨i,z,hi,hz,hby,hzs,hsz⟩:=eX he
 have hfit:Builtin.nextslicecap (n+ys.length) cap * i.bytes≤281474976710656:=by
  refine growslice_fits hg (Nat.le_trans (Nat.mul_le_mul (Nat.le_of_lt lF) hby) ?_)
  unfold bI lR;decide
 have h63:((n+ys.length:Nat):Int)≤9223372036854775807:=by unfold bI at lF;omega
 rw [←hsz] at hold hs
 have hr:=run_append_grow_src w tt tx ty e i z ht hi hz base n cap olds hold x ys.length news hs hg h63 hfit
 have eG:bw (ag ι t) (xs++ys) (olds++news):=hxs.append hys
 have hl:=eG.length (fun _ _=>ag.length)
 have hge:=grownCap_ge w (n+ys.length) cap e
 obtain ⟨μ', m1, m0, m2, m3⟩ := vh (aC := aC) (rest := (Builtin.zeroCells z.cells (grownCap w (n + ys.length) cap e - (n + ys.length))).toList) h.drew hn eG e (grownCap w (n + ys.length) cap e)
  (by simp [hxl]; exact hge) (by
   have Mr:(Builtin.zeroCells z.cells (grownCap w (n+ys.length) cap e - (n+ys.length))).toList.length=(grownCap w (n+ys.length) cap e - (n+ys.length)) * t.sz:=by
    rw [Array.length_toList,size_zeroCells,hzs,hsz]
   rw [hl,Mr,List.length_append,hxl,←Nat.add_mul]
   exact Nat.mul_le_mul_right _ (by omega))
 refine ⟨μ',_,_,hr,m1,m0,?_,?_⟩
 ·have:(olds++news++(Builtin.zeroCells z.cells (grownCap w (n+ys.length) cap e - (n+ys.length))).toList).toArray =
    (olds++news).toArray++Builtin.zeroCells z.cells (grownCap w (n+ys.length) cap e - (n+ys.length)):=by
   apply Array.ext';simp
  rw [this] at m2;exact m2
 ·simpa [hxl] using m3
theorem A5 (h : Inv P Y ι μ H w) {aC : Nat} (hn : μ aC = none) {env : List (Nat × V)} {tt tx ty e e' : TypeId} {k : Nat} {sO xO : O} {s x : Value} {ob : List Bool} {v : V} {u : eF}
  (ht:P.underlying tt=some (.slice e)) (htx:P.underlying tx=some (.slice e')) (he:jS P e=some k)
  (hs:Rel ι μ (sO.ev env) s) (hx:Rel ι μ (xO.ev env) x) (aj:bY (bp c1 c2 c3 c4 c5 c6) (.append k sO xO) env H.bl aC=some (ob,v,u)) (cV:nP ob) :
  ∃μ' y w',(Builtin.append_ #[tt,tx] ty #[s,x]).run P w = .ok y w'∧μ.le μ'∧(∀id,id≠aC→μ' id=μ id)∧Inv P Y ι μ' ⟨max H.next (aC+1),bx u H.bl⟩ w'∧Rel ι μ' v y:=by
 -- a slice with no element and no room
 have empty:∀{t:Ty} {ys:List t.den} (a:Option Addr) (bl:aq),(∀id B,ay id bl=some B→ay id H.bl=some B)→t.sz=k→elems (bp c1 c2 c3 c4 c5 c6) H.bl t (xO.ev env)=some ys→ys.length<bI →
   ∃μ' y w',(Builtin.append_ #[tt,tx] ty #[.slice a 0 0,x]).run P w = .ok y w'∧μ.le μ'∧(∀id,id≠aC→μ' id=μ id)∧Inv P Y ι μ' ⟨max H.next (aC+1),(aC,.arr t ys false)::bu aC bl⟩ w'∧Rel ι μ' (.sl aC t 0 ys.length) y:=by
  intro t ys a bl qE hk hy lF
  subst hk
  obtain ⟨news,hsrc,eG⟩:=sP h htx hy hx
  have hI:Inv P Y ι μ ⟨H.next,bl⟩ w:=h.sub qE
  by_cases hm:ys.length=0
  ·have : ys = [] := List.length_eq_zero_iff.1 hm
   subst this
   have hn:news=[]:=eG
   subst hn
   obtain ⟨i,z,hi,hz,hby,hzs,hsz⟩:=eX he
   refine ⟨μ,.slice a 0 0,w,?_,Mu.le_refl _,fun _ _=>rfl,hI.HZ hn t false,.bN _ _ _ a⟩
   rw [←hsz] at hsrc
   have hlen:=hsrc.len w
   have hcells:=hsrc.cells
   simp only [List.length_nil] at hcells hlen
   cases a<;>simp [Builtin.append_,run_underlying ht,run_underlying htx,sizeOf,typeInfo,hi,hlen,hcells,storeCells]
  ·have hf:(Builtin.firstCells t.sz 0 (.slice a 0 0)).run P w.drew = .ok ([]:List Value).toArray w.drew:=by
    cases a with
    |none=>exact run_firstCells_none _ _ _ _ _
    |some a=>exact run_firstCells_some _ _ _ _ _ _ [] (by simp) (fun j u h=>by simp at h)
   obtain ⟨μ',y,w',r1,r2,r0,r3,r4⟩:=wk (ty:=ty) hI hn ht htx he (n:=0) (xs:=[]) (ys:=ys) rfl rfl hf hsrc eG (by omega) (by omega)
   exact ⟨μ',y,w',r1,r2,r0,r3,by simpa using r4⟩
 simp only [bY] at aj
 split at aj<;>try (cases aj;done)
 ·rename_i hse
  rw [hse] at hs
  split at aj<;>try (cases aj;done)
  rename_i t C6
  split at aj<;>try (cases aj;done)
  rename_i hk
  split at aj<;>try (cases aj;done)
  rename_i ys hy
  cases aj
  cases hs with
  |bX a =>
   have lF:ys.length<bI:=by simpa using cV _ (List.mem_singleton.2 rfl)
   exact empty a H.bl (fun _ _ h=>h) hk hy lF
 ·rename_i id t lo n hse
  rw [hse] at hs
  split at aj<;>try (cases aj;done)
  rename_i hk
  split at aj<;>try (cases aj;done)
  rename_i t' xs hb
  split at aj<;>try (cases aj;done)
  rename_i e1;subst e1
  split at aj<;>try (cases aj;done)
  rename_i xs' hc
  split at aj<;>try (cases aj;done)
  rename_i ys hy
  cases aj
  obtain ⟨e1,hz⟩:=dU hc
  subst hz
  have lF:n+ys.length<bI:=by simpa using cV _ (List.mem_singleton.2 rfl)
  have hdel:∀i B,ay i (bu id H.bl)=some B→ay i H.bl=some B:=fun i B hB=>by rw [bn] at hB;split at hB<;>simp_all
  simp only [bx]
  cases hs with
  |bN _ _ _ a =>
   have:=empty a _ hdel hk hy (by omega)
   simpa using this
  |sl _ _ _ _ cap L hm h1 h2 h3 =>
   rcases h.live _ _ hb with ⟨_,hn⟩|⟨L',vs,hM,hR,hl⟩
   ·rw [hn] at hm;cases hm
   ·rw [hM.mu] at hm; cases hm
    subst hk
    obtain ⟨news,hsrc,eG⟩:=sP h htx hy hx
    have hlen:((xs'.drop lo).take n).length=n:=by simp;omega
    have holds:=(hR.drop (fun _ _=>ag.length) lo).take (fun _ _=>ag.length) n
    have Cy:=holds.length (fun _ _=>ag.length)
    rw [hlen] at Cy
    have hrg:w.rangeAt L.b (L.ba+lo * t'.sz) ((vs.drop (lo * t'.sz)).take (n * t'.sz)):=dQ hM.rangeAt _ _
    by_cases hroom:n+ys.length≤cap
    ·obtain ⟨i, z, hi, hz, hby, hzs, hsz⟩ := eX he
     have yI:=eG.length (fun _ _=>ag.length)
     have hone:=eG.one (fun _ _=>ag.one)
     have abm:L.ba+lo * t'.sz+n * t'.sz+news.length≤L.tot:=by
      rw [yI]
      have:lo * t'.sz+n * t'.sz+ys.length * t'.sz≤(lo+cap) * t'.sz:=by
       rw [←Nat.add_mul,←Nat.add_mul];exact Nat.mul_le_mul_right _ (by omega)
      omega
     have W7:w.there L.b (L.ba+lo * t'.sz+n * t'.sz) news.length:=hM.there (by omega) abm
     rw [←hsz] at hsrc
     have hr := run_append_room_src w tt tx ty e i ht hi L.b (L.ba + lo * t'.sz) n cap x ys.length news hsrc hroom
      (fun j hj=>by rw [hsz];exact (W7 j hj).1) (fun j hj=>by rw [hsz];exact (W7 j hj).2)
     rw [hsz] at hr
     let L2:Loc:=⟨L.b,L.ba+lo * t'.sz,L.tot,n+ys.length⟩
     have hle:=Mu.fF (L:=L2) hn
     have fM:μ.set aC L2 aC=some L2:=by simp [Mu.set]
     refine ⟨_, _, _, hr, hle, Mu.sM, h.move hn (L' := L2) hb hM.mu rfl (hM.pK rfl) (dm _ _ _ _).1 (dm _ _ _ _).2.1 (dm _ _ _ _).2.2.1 (dm _ _ _ _).2.2.2 (size_setCells _ _ _ _)
      (fun k hk=>iA _ _ _ _ _ hk) (jW _ _ _ _ _) (.inr ⟨L2,(vs.drop (lo * t'.sz)).take (n * t'.sz)++news,?_,?_,?_⟩),?_⟩
     ·-- the memory: the old cells from 'lo' on, the new ones behind them
      obtain ⟨c,ec,hc1,Vl,hc3⟩:=hM.row
      have eA:=fun (j:Nat) (hj:j<news.length)=>World.cell?_setCells_in L.b news (L.ba+lo * t'.sz+n * t'.sz) w (fun j hj=>(W7 j hj).1) j hj
      have hout:=fun (a:Addr) h=>World.cell?_setCells_out L.b news (L.ba+lo * t'.sz+n * t'.sz) w a h
      have hrow:∃c':Array Value,(w.setCells L.b (L.ba+lo * t'.sz+n * t'.sz) news).heap[L.b]?=some (.cells c' ec (0,0))∧c'.size=c.size:=by
       have key:∀(us:List Value) (o:Nat) (w:World) (c:Array Value),w.heap[L.b]?=some (.cells c ec (0,0))→∃c':Array Value,(w.setCells L.b o us).heap[L.b]?=some (.cells c' ec (0,0))∧c'.size=c.size:=by
        intro us
        induction us with
        |nil=>intro o w c hc;exact ⟨c,hc,rfl⟩
        |cons u us ih =>
         intro o w c hc
         obtain ⟨c',e1,e2⟩:=ih (o+1) (w.setCell ⟨L.b,o,none⟩ u) (c.setIfInBounds o u) (by simp [World.setCell,Array.getElem?_modify,hc])
         exact ⟨c',e1,by simpa using e2⟩
       exact key _ _ _ _ hc1
      obtain ⟨c',hc4,hc5⟩:=hrow
      refine ⟨fM,hM.old,⟨c',ec,hc4,by rw [hc5];exact Vl,fun j v hv=>?_⟩,by simp only [L2,List.length_append,Cy];omega,?_,(fun e=>by cases e),fun _=>hM.pK rfl⟩
      ·have hcell:(w.setCells L.b (L.ba+lo * t'.sz+n * t'.sz) news).cell? ⟨L.b,L.ba+lo * t'.sz+j,none⟩=some v:=by
        by_cases hj:j<n * t'.sz
        ·rw [List.getElem?_append_left (by omega)] at hv
         rw [hout _ (fun _ _=>.inl (by show L.ba+lo * t'.sz+j<_;omega))]
         exact hrg j v hv
        ·rw [List.getElem?_append_right (by omega), Cy] at hv
         have hj2:=(List.getElem?_eq_some_iff.1 hv).1
         have:=eA (j - n * t'.sz) hj2
         rw [show L.ba+lo * t'.sz+n * t'.sz+(j - n * t'.sz)=L.ba+lo * t'.sz+j by omega] at this
         rw [this,←hv,List.getElem?_eq_getElem hj2]
       simp [World.cell?,hc4] at hcell
       exact hcell
      ·intro v hv
       rcases List.mem_append.1 hv with hv|hv
       ·exact hM.one v (List.mem_of_mem_drop (List.mem_of_mem_take hv))
       ·exact hone v hv
     ·exact holds.append eG
     ·simp only [L2,List.length_append,hlen]
     ·have := Rel.sl (ι := ι) (μ := μ.set aC L2) aC t' 0 (n + ys.length) cap L2 fM hroom (by simp only [L2, Nat.zero_add]; have : (lo + cap) * t'.sz = lo * t'.sz + cap * t'.sz := Nat.add_mul _ _ _; omega) (by simp [L2])
      simpa [L2] using this
    ·have hf:(Builtin.firstCells t'.sz n (.slice (some ⟨L.b,L.ba+lo * t'.sz,none⟩) n cap)).run P w.drew = .ok ((vs.drop (lo * t'.sz)).take (n * t'.sz)).toArray w.drew :=
      run_firstCells_some _ _ _ _ _ _ _ Cy (fun j u hu=>by rw [Addr.add_mid,World.cell?_drew];exact hrg j u hu)
     exact wk (ty:=ty) (h.sub hdel) hn ht htx he hlen holds hf hsrc eG (by omega) lF
end
end Go.AM
end
section
namespace Go.AM
section
variable {P : Program} {Y : Ctx} {ι ι' : au} {μ μ' : Mu} {H : aG} {w w' : World}
 {c1:Nat→List V→aG→(V→aG→Prop)→Prop} {c2:Nat→List V→V→Prop} {c3:C→St→(Ex→St→Prop)→Prop}
 {c4:Nat→List V→aG→(V→aG→Prop)→Prop} {c5:O→List Nat→C→C→St→(Ex→St→Prop)→Prop} {c6:C→St→(Ex→St→Prop)→Prop}
theorem kX {v:V} {b:Bool} {x:Value} (h:JX v=some b) (hr:Rel ι μ v x):x = .bool b:=by
 cases v<;>simp [JX] at h<;>(subst h;cases hr;rfl)
theorem cH (op:BinOp) (t:TypeId) (x y:Operand) {a b:Value} (h:a ≠ .nilIface) (ha:∀cs,a ≠ .agg cs):(eqGuard op t x y a b).run P w = .ok () w:=by
 cases op<;>try rfl
 all_goals cases a<;>first|rfl|exact absurd rfl h|exact absurd rfl (ha _)
theorem Rc (a b:ByteArray):CJ (eU a++eU b)=a++b:=by
 have key:∀l:List UInt8,(l.map fun b=>(b.toNat:Int)).map (fun z=>UInt8.ofNat z.toNat)=l:=by
  intro l
  rw [List.map_map]
  conv=>rhs;rw [←List.map_id l]
  exact List.map_congr_left fun b _=>by simp
 apply ByteArray.ext
 simp only [CJ,eU,List.map_append,key,ByteArray.data_append]
 rw [←List.append_toArray]
theorem zz {op : BinOp} {bo : yJ} (hb : vP op = some bo) {t : TypeId} {xo yo : Operand} {v1 v2 : V} {a b : Value} (h1 : Rel ι μ v1 a) (h2 : Rel ι μ v2 b) {x y : O} {env : List (Nat × V)}
  (hx:x.ev env=v1) (hy:y.ev env=v2) {bl:aq} {n:Nat} {ob:List Bool} {v:V} {u:eF} (aj:bY (bp c1 c2 c3 c4 c5 c6) (.bin bo x y) env bl n=some (ob,v,u)) (cV:nP ob) :
  u=[]∧∃z,(do eqGuard op t xo yo a b;binOp op t a b:Sem Value).run P w = .ok z w∧Rel ι μ v z:=by
 simp only [bY,hx,hy] at aj
 split at aj
 ·rename_i k m k' m' 
  cases h1;cases h2
  have hg:=cH (P:=P) (w:=w) op t xo yo (a:=.int k m) (b:=.int k' m') (by simp) (by simp)
  split at aj
  ·cases op <;> simp [vP] at hb
   simp only [zm] at aj
   cases aj
   have e1:=cV _ (List.mem_cons_self)
   have e2:=cV _ (List.mem_cons_of_mem _ (List.mem_cons_self))
   simp at e1
   refine ⟨rfl,.int k (m * 2 ^ m'.toNat),?_,.int _ _⟩
   have hw:=jU e2
   simp [hg,binOp,Op.shift,show ¬m'<0 by omega,Nat.min_eq_left (show m'.toNat≤k.bits by omega),hw]
  ·cases op <;> simp [vP] at hb
   simp only [zm] at aj
   cases aj
   have e1:=cV _ (List.mem_cons_self)
   simp at e1
   refine ⟨rfl,.int k (m.fdiv (2 ^ m'.toNat)),?_,.int _ _⟩
   simp [hg,binOp,Op.shift,show ¬m'<0 by omega,Nat.min_eq_left (show m'.toNat≤k.bits by omega)]
  ·split at aj <;> try (cases aj; done)
   rename_i hk;subst hk
   cases op<;>cases hb<;>simp only [Fv] at aj<;>first|(cases aj;done)|skip
   all_goals first|cases aj|(split at aj<;>cases aj)
   all_goals
    refine ⟨rfl,?_⟩
    first
     |(refine ⟨_,?_,.bool _⟩;simp [hg,binOp,Op.intCmp];done)
     |(refine ⟨_,?_,.bool _⟩;simp [hg,binOp,Op.intCmp,bne];done)
     |(refine ⟨_,?_,.int _ _⟩;simp [hg,binOp,Op.intBits];done)
     |(refine ⟨_,?_,.int _ _⟩;simp [hg,binOp,Op.intArith];done)
     |(refine ⟨_,?_,.int _ _⟩;have e1:=jU (cV _ (List.mem_singleton.2 rfl));simp [hg,binOp,Op.intArith,e1];done)
     |(refine ⟨_,?_,.int _ _⟩;have e1:=cV _ (List.mem_cons_self);have e2:=jU (cV _ (List.mem_cons_of_mem _ (List.mem_cons_self)));simp at e1;simp [hg,binOp,Op.intDiv,e1,e2];done)
     |(refine ⟨_,?_,.int _ _⟩;have e1:=cV _ (List.mem_cons_self);simp at e1;simp [hg,binOp,Op.intDiv,e1];done)
 ·rename_i s1 s2
  cases h1;cases h2
  have hg:=cH (P:=P) (w:=w) op t xo yo (a:=.string s1) (b:=.string s2) (by simp) (by simp)
  cases op<;>cases hb<;>simp only [Fw] at aj<;>first|(cases aj;done)|skip
  all_goals
   cases aj
   refine ⟨rfl,?_⟩
  case h_2.str.str.add.refl.refl =>
   refine ⟨_,?_,.str _⟩
   show _=Result.ok (Value.string (CJ (eU s1++eU s2))) w
   have hz:=cV _ (List.mem_singleton.2 rfl)
   have h2:((s1.size:Int)+(s2.size:Int))≤9223372036854775807:=by
    have e2:IntKind.i64.max=9223372036854775807:=by decide
    have qa:(IntKind.i64.min≤((s1.size:Int)+(s2.size:Int))∧((s1.size:Int)+(s2.size:Int))≤IntKind.i64.max):=by simpa [bp] using hz
    rw [e2] at qa;exact qa.2
   rw [Rc]
   simp [hg,binOp,Op.stringOp]
   exact h2
  all_goals
   have hor:(if Op.bytesLess s1.toList s2.toList=true then true else s1.toList==s2.toList)=(Op.bytesLess s1.toList s2.toList||s1.toList==s2.toList):=by
    cases Op.bytesLess s1.toList s2.toList<;>simp
   try rw [hor]
   refine ⟨_,?_,.bool _⟩
   simp [hg,binOp,Op.stringOp]
 ·cases aj
theorem dn {k:Kd} {ks:List Kd} {as bs:List V} {c:Bool} (h:aK (bp c1 c2 c3 c4 c5 c6) (k::ks) as bs=some c):∃a as' b bs',as=a::as'∧bs=b::bs':=by
 cases as with
 |nil=>cases k<;>simp [aK] at h
 |cons a as =>
  cases bs with
  |nil=>cases k<;>cases a<;>simp [aK] at h
  |cons b bs=>exact ⟨a,as,b,bs,rfl,rfl⟩
theorem iW {d:Nat} {xs ys:Array Value}:∀{fs:List Field} {n:Nat} {ks:List Kd} {as bs:List V} {c:Bool},tY P n fs=some ks→aI ι μ as (xs.toList.drop n)→aI ι μ bs (ys.toList.drop n) →
  aK (bp c1 c2 c3 c4 c5 c6) ks as bs=some c→(Op.eqFields (d+1) xs ys fs).run P w = .ok c w
 |[],n,ks,as,bs,c,hf,ha,hb,h=>by
  cases hf
  cases as<;>cases bs<;>simp [aK] at h
  subst h;rfl
 |f::r,n,ks,as,bs,c,hf,ha,hb,h=>by
  unfold tY at hf
  split at hf<;>try (cases hf;done)
  rename_i hn
  obtain ⟨hname,hoff⟩:=hn
  have step:∀{x y:Value} {xs' ys':List Value} {b rest:Bool} {Re:TypeDesc},P.underlying f.type=some Re→(match Re with | .struct _=>false | .array _ _=>false|_=>true)=true→xs.toList.drop n=x::xs'→ys.toList.drop n=y::ys' →
    (Op.equalIn (d+1) f.type x y).run P w = .ok b w→(Op.eqFields (d+1) xs ys r).run P w = .ok rest w→(Op.eqFields (d+1) xs ys (f::r)).run P w = .ok (b&&rest) w:=by
   intro x y xs' ys' b rest Re hu hd hx hy he hr
   have hagg:(isAgg f.type).run P w = .ok false w:=by
    unfold isAgg
    rw [Sem.run_bind,run_underlying hu w]
    cases Re<;>simp_all
   have hx0:xs[n]?=some x:=by
    have:(xs.toList.drop n)[0]?=some x:=by rw [hx];rfl
    simpa using this
   have hy0:ys[n]?=some y:=by
    have:(ys.toList.drop n)[0]?=some y:=by rw [hy];rfl
    simpa using this
   have p1:(part f.type xs f.offset).run P w = .ok x w:=by simp [part,hagg,hoff,hx0]
   have p2:(part f.type ys f.offset).run P w = .ok y w:=by simp [part,hagg,hoff,hy0]
   simp only [Op.eqFields,if_pos hname,Sem.run_bind,p1,p2,Result.andThen_ok,he]
   cases b<;>simp [hr]
  split at hf<;>try (cases hf;done)
  all_goals
   rename_i ks' hu hks
   cases hf
   obtain ⟨a,as',b,bs',e1,e2⟩:=dn h
   subst e1;subst e2
   obtain ⟨x,xs',hx,ha1,ha2⟩:=ha.bC
   obtain ⟨y,ys',hy,iC,eC⟩:=hb.bC
   have Ms:aI ι μ as' (xs.toList.drop (n+1)):=by rw [←List.drop_drop (i:=1),hx];exact ha2
   have zA:aI ι μ bs' (ys.toList.drop (n+1)):=by rw [←List.drop_drop (i:=1),hy];exact eC
  ·simp only [aK] at h
   split at h<;>try (cases h;done)
   rename_i p q hp hq
   split at h<;>try (cases h;done)
   rename_i rest ir
   cases h
   rw [kX hp ha1] at hx
   rw [kX hq iC] at hy
   exact step hu rfl hx hy (run_equalIn_bool' w d f.type p q hu) (iW hks Ms zA ir)
  ·cases a <;> cases b <;> simp only [aK] at h <;> try (cases h; done)
   split at h<;>try (cases h;done)
   rename_i hkk;subst hkk
   split at h<;>try (cases h;done)
   rename_i rest ir
   cases h
   cases ha1;cases iC
   exact step hu rfl hx hy (run_equalIn_int w d f.type _ _ _ _ hu) (iW hks Ms zA ir)
  ·cases a <;> cases b <;> simp only [aK] at h <;> try (cases h; done)
   split at h<;>try (cases h;done)
   rename_i rest ir
   cases h
   cases ha1;cases iC
   exact step hu rfl hx hy (run_equalIn_string w d f.type _ _ hu) (iW hks Ms zA ir)
theorem eY:∀{ks ls:List Kd} {as bs:List V} {c:Bool},aK (bp c1 c2 c3 c4 c5 c6) (ks++ls) as bs=some c →
  ∃a b,aK (bp c1 c2 c3 c4 c5 c6) ks (as.take ks.length) (bs.take ks.length)=some a∧aK (bp c1 c2 c3 c4 c5 c6) ls (as.drop ks.length) (bs.drop ks.length)=some b∧c=(a&&b)
 |[],ls,as,bs,c,h=>⟨true,c,by simp [aK],by simpa using h,rfl⟩
 |k::ks,ls,as,bs,c,h=>by
  obtain ⟨a,as',b,bs',rfl,rfl⟩:=dn h
  rw [List.cons_append] at h
  simp only [List.length_cons,List.take_succ_cons,List.drop_succ_cons]
  cases k
  ·simp only [aK] at h
   split at h<;>try (cases h;done)
   rename_i p q hp hq
   split at h<;>try (cases h;done)
   rename_i rest hr
   cases h
   obtain ⟨x,y,h1,h2,h3⟩:=eY hr
   refine ⟨_,y,by simp only [aK,hp,hq,h1];rfl,h2,?_⟩
   subst h3;simp [bp,Bool.and_assoc]
  ·cases a <;> cases b <;> simp only [aK] at h <;> try (cases h; done)
   split at h<;>try (cases h;done)
   rename_i hk
   split at h<;>try (cases h;done)
   rename_i rest hr
   cases h
   obtain ⟨x,y,h1,h2,h3⟩:=eY hr
   refine ⟨_,y,by simp only [aK,if_pos hk,h1];rfl,h2,?_⟩
   subst h3;simp [bp,Bool.and_assoc]
  ·cases a <;> cases b <;> simp only [aK] at h <;> try (cases h; done)
   split at h<;>try (cases h;done)
   rename_i rest hr
   cases h
   obtain ⟨x,y,h1,h2,h3⟩:=eY hr
   refine ⟨_,y,by simp only [aK,h1];rfl,h2,?_⟩
   subst h3;simp [bp,Bool.and_assoc]
theorem nR : ∀ {ks : List Kd} {as bs : List V} {c : Bool}, aK (bp c1 c2 c3 c4 c5 c6) ks as bs = some c → as.length = ks.length ∧ bs.length = ks.length
 |[],as,bs,c,h=>by cases as<;>cases bs<;>simp [aK] at h ⊢
 |k::ks,as,bs,c,h=>by
  obtain ⟨a,as',b,bs',rfl,rfl⟩:=dn h
  have:∃d,aK (bp c1 c2 c3 c4 c5 c6) ks as' bs'=some d:=by
   cases k
   all_goals
    cases a<;>cases b<;>simp only [aK] at h<;>repeat (first|(cases h;done)|(split at h))
   all_goals (first|(exact ⟨_,by assumption⟩)|(cases h;done))
  obtain ⟨d,hd⟩:=this
  have:=nR hd
  simp [this.1,this.2]
theorem qT {d:Nat} {k':IntKind} {e:TypeId} {xs ys:Array Value} (he:P.underlying e=some (.int k')):∀{m n:Nat} {as bs:List V} {c:Bool},aI ι μ as (xs.toList.drop n)→aI ι μ bs (ys.toList.drop n) →
  aK (bp c1 c2 c3 c4 c5 c6) (List.replicate m .i) as bs=some c→(Op.eqItems (d+1) e 1 xs ys (List.range' n m)).run P w = .ok c w
 |0,n,as,bs,c,ha,hb,h=>by
  cases as<;>cases bs<;>simp [aK] at h
  subst h;rfl
 |m+1,n,as,bs,c,ha,hb,h=>by
  rw [List.replicate_succ] at h
  obtain ⟨a,as',b,bs',e1,e2⟩:=dn h
  subst e1;subst e2
  obtain ⟨x,xs',hx,ha1,ha2⟩:=ha.bC
  obtain ⟨y,ys',hy,iC,eC⟩:=hb.bC
  have Ms:aI ι μ as' (xs.toList.drop (n+1)):=by rw [←List.drop_drop (i:=1),hx];exact ha2
  have zA:aI ι μ bs' (ys.toList.drop (n+1)):=by rw [←List.drop_drop (i:=1),hy];exact eC
  cases a<;>cases b<;>simp only [aK] at h<;>try (cases h;done)
  split at h<;>try (cases h;done)
  rename_i hk
  split at h<;>try (cases h;done)
  rename_i rest ir
  cases h
  cases ha1;cases iC
  have hagg:(isAgg e).run P w = .ok false w:=by
   unfold isAgg
   rw [Sem.run_bind,run_underlying he w]
   rfl
  have hx0:∀{zs:Array Value} {z:Value} {zs':List Value},zs.toList.drop n=z::zs'→zs[n]?=some z:=fun {zs z zs'} h=>by
   have:(zs.toList.drop n)[0]?=some z:=by rw [h];rfl
   simpa using this
  have p1:∀{zs:Array Value} {z:Value} {zs':List Value},zs.toList.drop n=z::zs'→(part e zs (n * 1)).run P w = .ok z w:=fun {zs z zs'} h=>by
   simp [part,hagg,hx0 h]
  rw [List.range'_succ]
  subst hk
  rename_i z1 z2 _
  have ih:=qT (d:=d) he Ms zA ir
  simp only [Op.eqItems,Sem.run_bind,p1 hx,p1 hy,Result.andThen_ok,run_equalIn_int w d e _ _ _ _ he]
  show _=Result.ok (z1==z2&&rest) w
  cases hz:(z1==z2)
  ·simp
  ·simpa using ih
theorem Vm {d : Nat} {t : TypeId} {xs ys : Array Value} {ks : List Kd} {as bs : List V} {c : Bool} (ht : Q3 P t = some ks) (ha : aI ι μ as xs.toList) (hb : aI ι μ bs ys.toList)
  (h:aK (bp c1 c2 c3 c4 c5 c6) ks as bs=some c):(Op.equalIn (d+2) t (.agg xs) (.agg ys)).run P w = .ok c w∧∃m e i,P.underlying t=some (.array m e)∧ks=List.replicate m .i∧P.info? t=some i∧P.cellsOf t=m:=by
 unfold Q3 at ht
 split at ht<;>try (cases ht;done)
 rename_i m e hu
 split at ht<;>try (cases ht;done)
 rename_i k' he
 split at ht<;>try (cases ht;done)
 rename_i hc
 cases ht
 obtain ⟨h1,h2,h3,h4⟩:=hc
 obtain ⟨i,hi⟩:=Option.isSome_iff_exists.1 h2
 obtain ⟨i',hi'⟩:=Option.isSome_iff_exists.1 h3
 refine ⟨?_,m,e,i',hu,rfl,hi',h4⟩
 rw [run_equalIn_array w (d+1) xs ys hu hi,h1,List.range_eq_range']
 exact qT (d:=d) he (by simpa using ha) (by simpa using hb) h
theorem fh {d:Nat} {xs ys:Array Value}:∀{fs:List Field} {n:Nat} {ks:List Kd} {as bs:List V} {c:Bool},iz P n fs=some ks→aI ι μ as (xs.toList.drop n)→aI ι μ bs (ys.toList.drop n) →
  aK (bp c1 c2 c3 c4 c5 c6) ks as bs=some c→(Op.eqFields (d+2) xs ys fs).run P w = .ok c w
 |[],n,ks,as,bs,c,hf,ha,hb,h=>by
  cases hf
  cases as<;>cases bs<;>simp [aK] at h
  subst h;rfl
 |f::r,n,ks,as,bs,c,hf,ha,hb,h=>by
  unfold iz at hf
  split at hf<;>try (cases hf;done)
  rename_i hn
  obtain ⟨hname,hoff⟩:=hn
  have step:∀{x y:Value} {xs' ys':List Value} {b rest:Bool} {Re:TypeDesc},P.underlying f.type=some Re→(match Re with | .struct _=>false | .array _ _=>false|_=>true)=true→xs.toList.drop n=x::xs'→ys.toList.drop n=y::ys' →
    (Op.equalIn (d+2) f.type x y).run P w = .ok b w→(Op.eqFields (d+2) xs ys r).run P w = .ok rest w→(Op.eqFields (d+2) xs ys (f::r)).run P w = .ok (b&&rest) w:=by
   intro x y xs' ys' b rest Re hu hd hx hy he hr
   have hagg:(isAgg f.type).run P w = .ok false w:=by
    unfold isAgg
    rw [Sem.run_bind,run_underlying hu w]
    cases Re<;>simp_all
   have hx0:xs[n]?=some x:=by
    have:(xs.toList.drop n)[0]?=some x:=by rw [hx];rfl
    simpa using this
   have hy0:ys[n]?=some y:=by
    have:(ys.toList.drop n)[0]?=some y:=by rw [hy];rfl
    simpa using this
   have p1:(part f.type xs f.offset).run P w = .ok x w:=by simp [part,hagg,hoff,hx0]
   have p2:(part f.type ys f.offset).run P w = .ok y w:=by simp [part,hagg,hoff,hy0]
   simp only [Op.eqFields,if_pos hname,Sem.run_bind,p1,p2,Result.andThen_ok,he]
   cases b<;>simp [hr]
  split at hf<;>try (cases hf;done)
  ·rename_i hu
   cases hks:iz P (n+1) r<;>rw [hks] at hf<;>simp only [Option.map_none,Option.map_some,Option.some.injEq] at hf
   ·cases hf
   rename_i ks'
   subst hf
   obtain ⟨a,as',b,bs',e1,e2⟩:=dn h
   subst e1;subst e2
   obtain ⟨x,xs',hx,ha1,ha2⟩:=ha.bC
   obtain ⟨y,ys',hy,iC,eC⟩:=hb.bC
   have Ms:aI ι μ as' (xs.toList.drop (n+1)):=by rw [←List.drop_drop (i:=1),hx];exact ha2
   have zA:aI ι μ bs' (ys.toList.drop (n+1)):=by rw [←List.drop_drop (i:=1),hy];exact eC
   simp only [aK] at h
   split at h<;>try (cases h;done)
   rename_i p q hp hq
   split at h<;>try (cases h;done)
   rename_i rest ir
   cases h
   rw [kX hp ha1] at hx
   rw [kX hq iC] at hy
   exact step hu rfl hx hy (run_equalIn_bool' w (d+1) f.type p q hu) (fh hks Ms zA ir)
  ·rename_i hu
   cases hks:iz P (n+1) r<;>rw [hks] at hf<;>simp only [Option.map_none,Option.map_some,Option.some.injEq] at hf
   ·cases hf
   rename_i ks'
   subst hf
   obtain ⟨a,as',b,bs',e1,e2⟩:=dn h
   subst e1;subst e2
   obtain ⟨x,xs',hx,ha1,ha2⟩:=ha.bC
   obtain ⟨y,ys',hy,iC,eC⟩:=hb.bC
   have Ms:aI ι μ as' (xs.toList.drop (n+1)):=by rw [←List.drop_drop (i:=1),hx];exact ha2
   have zA:aI ι μ bs' (ys.toList.drop (n+1)):=by rw [←List.drop_drop (i:=1),hy];exact eC
   cases a<;>cases b<;>simp only [aK] at h<;>try (cases h;done)
   split at h<;>try (cases h;done)
   rename_i hkk;subst hkk
   split at h<;>try (cases h;done)
   rename_i rest ir
   cases h
   cases ha1;cases iC
   exact step hu rfl hx hy (run_equalIn_int w (d+1) f.type _ _ _ _ hu) (fh hks Ms zA ir)
  ·rename_i hu
   cases hks:iz P (n+1) r<;>rw [hks] at hf<;>simp only [Option.map_none,Option.map_some,Option.some.injEq] at hf
   ·cases hf
   rename_i ks'
   subst hf
   obtain ⟨a,as',b,bs',e1,e2⟩:=dn h
   subst e1;subst e2
   obtain ⟨x,xs',hx,ha1,ha2⟩:=ha.bC
   obtain ⟨y,ys',hy,iC,eC⟩:=hb.bC
   have Ms:aI ι μ as' (xs.toList.drop (n+1)):=by rw [←List.drop_drop (i:=1),hx];exact ha2
   have zA:aI ι μ bs' (ys.toList.drop (n+1)):=by rw [←List.drop_drop (i:=1),hy];exact eC
   cases a<;>cases b<;>simp only [aK] at h<;>try (cases h;done)
   split at h<;>try (cases h;done)
   rename_i rest ir
   cases h
   cases ha1;cases iC
   exact step hu rfl hx hy (run_equalIn_string w (d+1) f.type _ _ hu) (fh hks Ms zA ir)
  ·rename_i gs hu
   split at hf<;>try (cases hf;done)
   rename_i ls hls
   cases hks:iz P (n+ls.length) r<;>rw [hks] at hf<;>simp only [Option.map_none,Option.map_some,Option.some.injEq] at hf
   ·cases hf
   rename_i ks'
   subst hf
   obtain ⟨c1',c2',h1,h2,h3⟩:=eY h
   have hlen:=nR h1
   unfold Me at hls
   rw [hu] at hls
   dsimp only at hls
   split at hls<;>try (cases hls;done)
   rename_i jt
   split at hls<;>try (cases hls;done)
   rename_i ls' hfl
   split at hls<;>try (cases hls;done)
   rename_i hsz
   cases hls
   obtain ⟨i,hi⟩:=Option.isSome_iff_exists.1 jt.2
   have hagg:(isAgg f.type).run P w = .ok true w:=by
    unfold isAgg
    rw [Sem.run_bind,run_underlying hu w]
    simp
   have hsize:(sizeOf f.type).run P w = .ok ls.length w:=by rw [←hsz];exact run_sizeOf w hi
   have p1:(part f.type xs f.offset).run P w = .ok (.agg (xs.extract n (n+ls.length))) w:=by
    simp only [part,Sem.run_bind,hagg,Result.andThen_ok,if_true,hsize,hoff];rfl
   have p2:(part f.type ys f.offset).run P w = .ok (.agg (ys.extract n (n+ls.length))) w:=by
    simp only [part,Sem.run_bind,hagg,Result.andThen_ok,if_true,hsize,hoff];rfl
   have hfo:P.fieldsOf f.type=gs:=by simp [Program.fieldsOf,hu]
   have ex:∀zs:Array Value,(zs.extract n (n+ls.length)).toList.drop 0=(zs.toList.drop n).take ls.length:=fun zs=>by
    rw [List.drop_zero,Array.toList_extract,List.extract_eq_take_drop];congr 1;omega
   have e0:=run_equalIn_struct (P:=P) w (d+1) f.type (xs.extract n (n+ls.length)) (ys.extract n (n+ls.length)) (by rw [hfo];exact hu) jt.1
   rw [hfo] at e0
   have e1:(Op.eqFields (d+1) (xs.extract n (n+ls.length)) (ys.extract n (n+ls.length)) gs.toList).run P w = .ok c1' w:=iW (d:=d) (xs:=xs.extract n (n+ls.length)) (ys:=ys.extract n (n+ls.length)) hfl (by rw [ex];exact ha.take _) (by rw [ex];exact hb.take _) h1
   have e2:(Op.eqFields (d+2) xs ys r).run P w = .ok c2' w:=fh (d:=d) (xs:=xs) (ys:=ys) hks (by rw [←List.drop_drop];exact ha.drop _) (by rw [←List.drop_drop];exact hb.drop _) h2
   have e3:=e0.trans e1
   subst h3
   simp only [Op.eqFields,if_pos hname,Sem.run_bind,p1,p2,Result.andThen_ok,e3]
   cases c1'<;>simp [e2]
  ·rename_i hu
   split at hf<;>try (cases hf;done)
   rename_i ls hls
   cases hks:iz P (n+ls.length) r<;>rw [hks] at hf<;>simp only [Option.map_none,Option.map_some,Option.some.injEq] at hf
   ·cases hf
   rename_i ks'
   subst hf
   obtain ⟨c1',c2',h1,h2,h3⟩:=eY h
   have hlen:=nR h1
   have hagg:(isAgg f.type).run P w = .ok true w:=by
    unfold isAgg
    rw [Sem.run_bind,run_underlying hu w]
    simp
   have ex:∀zs:Array Value,(zs.extract n (n+ls.length)).toList=(zs.toList.drop n).take ls.length:=fun zs=>by
    rw [Array.toList_extract,List.extract_eq_take_drop];congr 1;omega
   obtain ⟨e1,m,e,i,-,hm,hi,hsz⟩:=Vm (d:=d) (w:=w) (xs:=xs.extract n (n+ls.length)) (ys:=ys.extract n (n+ls.length)) hls (by rw [ex];exact ha.take _) (by rw [ex];exact hb.take _) h1
   have hsl:P.cellsOf f.type=ls.length:=by rw [hm,List.length_replicate];exact hsz
   have hsize:(sizeOf f.type).run P w = .ok ls.length w:=by rw [←hsl];exact run_sizeOf w hi
   have p1:(part f.type xs f.offset).run P w = .ok (.agg (xs.extract n (n+ls.length))) w:=by
    simp only [part,Sem.run_bind,hagg,Result.andThen_ok,if_true,hsize,hoff];rfl
   have p2:(part f.type ys f.offset).run P w = .ok (.agg (ys.extract n (n+ls.length))) w:=by
    simp only [part,Sem.run_bind,hagg,Result.andThen_ok,if_true,hsize,hoff];rfl
   have e2:(Op.eqFields (d+2) xs ys r).run P w = .ok c2' w:=fh (d:=d) (xs:=xs) (ys:=ys) hks (by rw [←List.drop_drop];exact ha.drop _) (by rw [←List.drop_drop];exact hb.drop _) h2
   subst h3
   simp only [Op.eqFields,if_pos hname,Sem.run_bind,p1,p2,Result.andThen_ok,e1]
   cases c1'<;>simp [e2]
end
end Go.AM
end
section
namespace Go.AM
section
variable {P : Program} {Y : Ctx} {ι ι' : au} {μ μ' : Mu} {H : aG} {w w' : World}
 {c1:Nat→List V→aG→(V→aG→Prop)→Prop} {c2:Nat→List V→V→Prop} {c3:C→St→(Ex→St→Prop)→Prop}
 {c4:Nat→List V→aG→(V→aG→Prop)→Prop} {c5:O→List Nat→C→C→St→(Ex→St→Prop)→Prop} {c6:C→St→(Ex→St→Prop)→Prop}
theorem nS : ∀ {t t1 : Ty} {p : List Bool} (q : List Bool), t.qD p = some t1 → t.bE (p ++ q) = t.bE p + t1.bE q
 |t,t1,[],q,h=>by
  have:t=t1:=by cases t<;>(simp [Ty.qD] at h;exact h)
  subst this
  have h0:t.bE []=0:=by cases t<;>rfl
  simp [h0]
 | .prod a b,t1,false::p,q,h=>by simp only [Ty.qD] at h;simp only [List.cons_append,Ty.bE];exact nS q h
 | .prod a b,t1,true::p,q,h=>by simp only [Ty.qD] at h;simp only [List.cons_append,Ty.bE];rw [nS q h];omega
 | .unit,t1,b::p,q,h=>by cases b<;>simp [Ty.qD] at h
 | .bool,t1,b::p,q,h=>by cases b<;>simp [Ty.qD] at h
 | .str,t1,b::p,q,h=>by cases b<;>simp [Ty.qD] at h
 | .int k,t1,b::p,q,h=>by cases b<;>simp [Ty.qD] at h
 | .list k,t1,b::p,q,h=>by cases b<;>simp [Ty.qD] at h
 | .cu _ _ _,t1,b::p,q,h=>by cases b<;>simp [Ty.qD] at h
theorem zB {off : Nat} {path : List Bool} {x : O} {env : List (Nat × V)} {bl : aq} {n : Nat} {ob : List Bool} {v : V} {u : eF} {px : Value} (hx : Rel ι μ (x.ev env) px)
  (aj:bY (bp c1 c2 c3 c4 c5 c6) (.mD off path x) env bl n=some (ob,v,u)) (cV:nP ob):u=[]∧∃b o,px = .pointer (some ⟨b,o,none⟩)∧Rel ι μ v (.pointer (some ⟨b,o+off,none⟩)):=by
 simp only [bY] at aj
 split at aj<;>try (cases aj;done)
 ·rename_i id o dD
  rw [dD] at hx
  cases aj
  cases hx with
  |ptr _ _ L hL=>exact ⟨rfl,_,_,rfl,by rw [Nat.add_assoc];exact .ptr id (o+off) L hL⟩
 ·rename_i cs dD
  rw [dD] at hx
  split at aj<;>try (cases aj;done)
  rename_i hle
  cases aj
  cases hx with
  |fu _ b o g h1 h2 h3 =>
   refine ⟨rfl,_,_,rfl,.fu _ b (o+off) (fun i=>g (off+i)) (fun i hi=>?_) (fun i v hv=>?_) (fun i=>h3 _)⟩
   ·rw [Nat.add_assoc];exact h1 _ (by simp at hi;omega)
   ·exact h2 _ v (by simpa using hv)
 ·rename_i id t i p dD
  rw [dD] at hx
  split at aj<;>try (cases aj;done)
  rename_i t1 hat
  split at aj<;>try (cases aj;done)
  rename_i hoff
  split at aj<;>try (cases aj;done)
  cases aj
  cases hx with
  |ep _ _ _ _ L hL =>
   refine ⟨rfl,_,_,rfl,?_⟩
   have:=Rel.ep (ι:=ι) id t i (p++path) L hL
   rw [nS path hat,hoff,←Nat.add_assoc] at this
   exact this
 ·rename_i t y dD
  rw [dD] at hx
  split at aj<;>try (cases aj;done)
  rename_i hoff
  split at aj<;>try (cases aj;done)
  rename_i t2 z mH
  cases aj
  cases hx with
  |ip _ _ b o us h1 h2 =>
   obtain ⟨g1,g2,_⟩:=qR mH h2
   rw [hoff] at g1
   exact ⟨rfl,_,_,rfl,.ip t2 z b (o+off) _ (h1.sub off t2.sz) g1⟩
 ·rename_i id t m dD
  rw [dD] at hx
  split at aj<;>try (cases aj;done)
  rename_i hoff
  cases aj
  cases hx with
  |pa _ _ _ L hL hm =>
   refine ⟨rfl,_,_,rfl,?_⟩
   have:=Rel.ep (ι:=ι) id t (off / t.sz) [] L hL
   have h0:t.bE []=0:=by cases t<;>rfl
   rw [h0,Nat.add_zero,hoff.1] at this
   exact this
 ·rename_i t xs dD
  rw [dD] at hx
  split at aj<;>try (cases aj;done)
  rename_i hoff
  cases aj
  have hi:off / t.sz<xs.length:=by simpa using cV _ (List.mem_singleton.2 rfl)
  cases hx with
  |kV _ _ b o us h1 h2 =>
   have FD:xs[off / t.sz]?=some (xs.getD (off / t.sz) t.zero):=by simp [List.getD,hi]
   have hc:=h2.at (fun _ _=>ag.length) FD
   rw [hoff] at hc
   exact ⟨rfl,_,_,rfl,.ip t _ b (o+off) _ (h1.sub off t.sz) hc⟩
 ·rename_i id o l dD
  rw [dD] at hx
  cases aj
  cases hx with
  |sp _ _ _ L hL hb =>
   refine ⟨rfl,_,_,rfl,?_⟩
   have:=Rel.sp (ι:=ι) id (o+off) l L hL hb
   have e:L.ba+(o+off+lP l)=L.ba+(o+lP l)+off:=by omega
   rwa [e] at this
theorem J1 {eL : Nat} {x i : O} {env : List (Nat × V)} {bl : aq} {n : Nat} {ob : List Bool} {v : V} {u : eF} {px iv : Value} (hx : Rel ι μ (x.ev env) px) (hi : Rel ι μ (i.ev env) iv)
  (aj:bY (bp c1 c2 c3 c4 c5 c6) (.idx eL x i) env bl n=some (ob,v,u)) (cV:nP ob) :
  u=[]∧∃k m b o len cap,iv = .int k m∧px = .slice (some ⟨b,o,none⟩) len cap∧0≤m∧m<len∧Rel ι μ v (.pointer (some ⟨b,o+m.toNat * eL,none⟩)):=by
 simp only [bY] at aj
 split at aj<;>try (cases aj;done)
 rename_i k m hie
 rw [hie] at hi
 cases hi
 split at aj<;>try (cases aj;done)
 ·rename_i id t lo len dD
  rw [dD] at hx
  split at aj<;>try (cases aj;done)
  rename_i hsz
  cases aj
  have hb:=cV _ (List.mem_singleton.2 rfl)
  simp only [decide_eq_true_eq] at hb
  have iC:m<(len:Int):=hb.2
  cases hx with
  |bN=>omega
  |sl _ _ _ _ cap L hL h1 h2 h3 =>
   refine ⟨rfl,k,m,_,_,_,_,rfl,rfl,hb.1,iC,?_⟩
   have:=Rel.ep (ι:=ι) id t (lo+m.toNat) [] L hL
   have h0:t.bE []=0:=by cases t<;>rfl
   rw [h0,Nat.add_mul,Nat.add_zero,←Nat.add_assoc,hsz] at this
   rw [hsz];exact this
 ·rename_i t xs dD
  rw [dD] at hx
  split at aj<;>try (cases aj;done)
  rename_i hsz
  cases aj
  have hb:=cV _ (List.mem_singleton.2 rfl)
  simp only [decide_eq_true_eq] at hb
  have iC:m<(xs.length:Int):=hb.2
  cases hx with
  |eO _ _ _ hd =>
   obtain ⟨a,cap,e,hle,hd⟩:=hd
   cases e
   rcases hd with rfl|⟨b,o,us,rfl,hrd,hc⟩
   ·simp at iC;omega
   ·have FD : xs[m.toNat]? = some (xs.getD m.toNat t.zero) := by simp [List.getD, show m.toNat < xs.length by omega]
    have hcell:=hc.at (fun _ _=>ag.length) FD
    refine ⟨rfl,k,m,_,_,_,_,rfl,rfl,hb.1,iC,?_⟩
    rw [←hsz]
    exact .ip t _ b _ _ (hrd.sub (m.toNat * t.sz) t.sz) hcell
theorem wm {k : IntKind} : ∀ {a z : Int} {vs : List V} {xs : List Value}, iN (bp c1 c2 c3 c4 c5 c6) true k a vs = some z → aI ι μ vs xs → (xs.foldlM Builtin.max2 (.int k a)).run P w = .ok (.int k z) w
 |a,z,[],xs,h,hr=>by cases h;rw [hr.of_nil];rfl
 |a,z,v::r,xs,h,hr=>by
  obtain ⟨x,xs',rfl,h1,h2⟩:=hr.bC
  cases v<;>simp only [iN] at h<;>try (cases h;done)
  split at h<;>try (cases h;done)
  rename_i hk;subst hk
  cases h1
  simp only [List.foldlM_cons,Builtin.max2,Sem.run_bind,Sem.run_pure,Result.andThen_ok]
  exact wm h h2
theorem wo {k : IntKind} : ∀ {a z : Int} {vs : List V} {xs : List Value}, iN (bp c1 c2 c3 c4 c5 c6) false k a vs = some z → aI ι μ vs xs → (xs.foldlM Builtin.min2 (.int k a)).run P w = .ok (.int k z) w
 |a,z,[],xs,h,hr=>by cases h;rw [hr.of_nil];rfl
 |a,z,v::r,xs,h,hr=>by
  obtain ⟨x,xs',rfl,h1,h2⟩:=hr.bC
  cases v<;>simp only [iN] at h<;>try (cases h;done)
  split at h<;>try (cases h;done)
  rename_i hk;subst hk
  cases h1
  simp only [List.foldlM_cons,Builtin.min2,Sem.run_bind,Sem.run_pure,Result.andThen_ok]
  exact wo h h2
theorem oN {t:Ty} {v:Value} (h:tX t v=true):ag ι t t.zero [v]:=by
 unfold tX at h
 split at h<;>try (cases h;done)
 ·simp at h;subst h;rfl
 ·rename_i s
  have:s=ByteArray.empty:=ByteArray.size_eq_zero_iff.1 (by simpa using h)
  subst this;rfl
 ·simp at h;obtain ⟨rfl,rfl⟩:=h;rfl
 ·exact ⟨none,0,rfl,Nat.le_refl _,.inl rfl⟩
theorem gm : ∀ {t : Ty} {vs r : List Value}, dV t vs = some r → ∃ us, vs = us ++ r ∧ ag ι t t.zero us
 | .unit,vs,r,h=>by cases h;exact ⟨[],rfl,rfl⟩
 | .bool,vs,r,h=>by
  cases vs<;>simp [dV] at h
  obtain ⟨h,rfl⟩:=h;exact ⟨[_],rfl,oN h⟩
 | .str,vs,r,h=>by
  cases vs<;>simp [dV] at h
  obtain ⟨h,rfl⟩:=h;exact ⟨[_],rfl,oN h⟩
 | .int k,vs,r,h=>by
  cases vs<;>simp [dV] at h
  obtain ⟨h,rfl⟩:=h;exact ⟨[_],rfl,oN h⟩
 | .list t,vs,r,h=>by
  cases vs<;>simp [dV] at h
  obtain ⟨h,rfl⟩:=h;exact ⟨[_],rfl,oN h⟩
 | .prod a b,vs,r,h=>by
  simp only [dV] at h
  split at h<;>try (cases h;done)
  rename_i r1 h1
  obtain ⟨us,rfl,hu⟩:=gm h1
  obtain ⟨ws,rfl,hw⟩:=gm h
  exact ⟨us++ws,by simp,us,ws,rfl,hu,hw⟩
 | .cu _ _ _,vs,r,h=>by cases vs<;>simp [dV] at h
end
end Go.AM
end
