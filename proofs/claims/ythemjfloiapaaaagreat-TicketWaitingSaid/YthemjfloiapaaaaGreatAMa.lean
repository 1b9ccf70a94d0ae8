/- A small typed machine: its data, its values, its heap, its operations. Nothing here speaks of the model's runs. How the small machine's values and heap stand for the model's. The model's code, read as the small machine's. The small machine's code: what must hold for it to end well. The small machine's heap in the model's world. What is read and written, small machine and model. Data out of cells and into them. Each operation of the small machine is the model's: loads, stores, new blocks. Each operation of the small machine is the model's: literals, stores, append, make. Each operation of the small machine is the model's: append, make, slices. Each operation of the small machine is the model's: the plain ones; all of them. Each operation of the small machine is the model's: all of them. -/
import Derived.Deep.MidRow
import Derived.Deep.AppendSrc
import Derived.RangeFuncNested
import Derived.RangeFuncLeaves
import Derived.KernelRfl
import Derived.Laws.StructEq
import Derived.ChangeKeysEq
set_option linter.unusedSectionVars false
set_option linter.unusedVariables false
set_option linter.unusedSimpArgs false
section
namespace Go.AM
inductive Ty where
 |unit|bool|str|int (k:IntKind)|list (t:Ty)|prod (a b:Ty)|cq (d:Nat) (g:Bool) (a:Ty)
 deriving DecidableEq
@[reducible] def Ty.den : Ty → Type
 | .unit=>Unit
 | .bool=>Bool
 | .str=>ByteArray
 | .int _=>Int
 | .list t=>List t.den
 | .prod a b=>a.den×b.den
 | .cq _ _ a=>a.den
def Ty.sz : Ty → Nat
 | .unit=>0
 | .prod a b=>a.sz+b.sz
 | .bool=>1
 | .str=>1
 | .int _=>1
 | .list _=>1
 | .cq _ _ _=>1
def Ty.zero : (t : Ty) → t.den
 | .unit=>()
 | .bool=>false
 | .str=>ByteArray.empty
 | .int _=>(0:Int)
 | .list _=>[]
 | .prod a b=>(a.zero,b.zero)
 | .cq _ _ a=>a.zero
inductive V where
 |any
 |tf (b:Bool)
 |bool (b:Bool)
 |int (k:IntKind) (n:Int)
 |str (s:ByteArray)
 |eB
 |cF
 |eX
 |eL (t:Ty) (xs:List t.den)
 |bW
 |sl (id:Nat) (t:Ty) (lo n:Nat)
 |ptr (id off:Nat)
 |ff (cells:List V)
 |ep (id:Nat) (t:Ty) (i:Nat) (p:List Bool)
 |ip (t:Ty) (x:t.den)
 |fn (f:Nat) (first captured:List V)
 |yl (id:Nat)
 |agg (cs:List V)
 |cK (vs:List V)
 |cq (t:TypeId) (v:V)
 |cb (c:Bool)
 |mp (id:Nat)
 |cC
 |pa (id:Nat) (t:Ty) (n:Nat)
 |lg (t:Ty) (xs:List t.den)
 |sp (id o:Nat) (l:List (Nat×Nat×Int))
def V.cells? : V → Option (List V)
 | .agg cs=>some cs
 | .any=>none
 | .cK _=>none
 | .cb _=>none
 |v=>some [v]
def get (t : Nat) : List (Nat × V) → V
 |[]=>.any
 |(s,v)::r=>match Nat.beq s t with
  |true=>v
  |false=>get t r
inductive O where
 |t (n:Nat)
 |c (v:V)
 |m (n:Nat) (dz:List (Nat×Nat))
def LN (dz : List (Nat × Nat)) : V → V
 | .cq t v=>match dz.lookup t with
  |some f=>.fn f [v] []
  |none=>.any
 |_=>.any
def O.ev (x:O) (env:List (Nat×V)):V :=
 match x with
 | .t n=>get n env
 | .c v=>v
 | .m n dz=>LN dz (get n env)
inductive yN where
 |add|sub|mul|quo|rem|and|or|xor|andNot|shl|shr|eql|neq|lss|leq|gtr|geq
 deriving DecidableEq
inductive gv where
 |vN
 |LO (len eF:Nat) (g:Bool)
 |bytes
 |text
 |clear (t:Ty)
 |LP (neg:Bool)
 |Fm (neg:Bool)
 |Fo (neg:Bool)
 |iQ
 |iR (kt:Ty) (kg:Bool) (vt:Ty) (vg:Bool)
 |gb (kt:Ty) (kg:Bool) (vt:Ty) (vg ok:Bool)
 |iy (kt:Ty) (kg:Bool) (vt:Ty) (vg:Bool)
 |QB
 |mkif (t:TypeId)
 |Fp (t:Ty) (n:Nat)
 |QC (t:Ty) (n:Nat)
 |capn
 |Wj (t:Ty)
 deriving DecidableEq
inductive Kd where
 |b|i|s
 deriving DecidableEq
inductive I where
 |mv (x:O)
 |pick (c a b:O)
 |alloc (z:List V)
 |box (x:O)
 |build (z:List V) (parts:List (Nat×Nat×O))
 |dU (t:Ty) (xs:List O)
 |load (agg:Bool) (k:Nat) (x:O)
 |store (k:Nat) (a x:O)
 |bin (op:yN) (x y:O)
 |QD (neg:Bool) (x y:O)
 |eqs (neg:Bool) (ks:List Kd) (x y:O)
 |neg (x:O)
 |not (x:O)
 |conv (k:IntKind) (x:O)
 |mL (off:Nat) (path:List Bool) (x:O)
 |field (agg:Bool) (off k:Nat) (x:O)
 |idx (eF:Nat) (x i:O)
 |yO (len eF:Nat) (x i:O)
 |ext (k:Nat) (x:O)
 |len (x:O)
 |lens (x:O)
 |yP (n:Nat)
 |append (eF:Nat) (x y:O)
 |iM (t:Ty) (n:O)
 |AS (f:Nat) (first captured:List O)
 |slice (eF:Nat) (x:O) (lo hi mx:Option O)
 |lS (mx:Bool) (x:O) (ys:List O)
 |ex (e:gv) (xs:List O)
inductive eN where
 |op (dst:Option Nat) (g:Option (Nat×Bool)) (i:I)
 |call (dst:Option Nat) (g:Option (Nat×Bool)) (f:O) (args:List O) (tys:List (Option Ty))
inductive C where
 |skip
 |aO (items:List eN)
 |draw (cS:List (List Nat)) (items:List eN)
 |seq (a b:C)
 |cond (c:O) (a b:C)
 |block (id:Nat) (c:C)
 |loop (c:C)
 |exit (id:Nat)
 |ret
 |bF (f:O) (params:List Nat) (assign body:C)
 |gF (pre:List eN) (m:O) (it:Nat) (cl:List Nat) (e:Option Nat) (kt:Ty) (kg:Bool) (vt:Ty) (vg:Bool) (pM:Nat) (body:C)
inductive Ex where
 |normal
 |exit (id:Nat)
 |ret
inductive qd where
 |ready|busy|done|exhausted
 deriving DecidableEq
inductive k8 where
 |cells (cs:List V) (fz:Bool)
 |arr (t:Ty) (xs:List t.den) (fz:Bool)
 |loop (st:qd) (jump:Option Ex) (d:Nat) (env:List (Nat×V)) (params:List Nat) (assign body:C) (N:Nat)
 |ig
 |map (kt:Ty) (kg:Bool) (vt:Ty) (vg:Bool) (es:List (kt.den×vt.den))
 |mJ (t:Ty) (xs:List t.den) (i:Nat) (p:List Bool) (v:V)
abbrev ai:=List (Nat×k8)
def aq (id : Nat) : ai → Option k8
 |[]=>none
 |(s,b)::r=>match Nat.beq s id with
  |true=>some b
  |false=>aq id r
def bn (id : Nat) : ai → ai
 |[]=>[]
 |(s,b)::r=>match Nat.beq s id with
  |true=>bn id r
  |false=>(s,b)::bn id r
structure aF where
 next:Nat
 bl:ai
abbrev eC:=List (Nat×Option k8)
def bw : eC → ai → ai
 |[],bl=>bl
 |(id,none)::r,bl=>bw r (bn id bl)
 |(id,some b)::r,bl=>bw r ((id,b)::bn id bl)
structure St where
 env:List (Nat×V)
 H:aF
 ms:List Nat
structure Ar where
 add:Int→Int→Int
 sub:Int→Int→Int
 mul:Int→Int→Int
 quo:Int→Int→Int
 rem:Int→Int→Int
 bits:yN→IntKind→Int→Int→Int
 shr:Int→Int→Int
 shl:Int→Int→Int
 Wk:Int→Int→Int
 imax:Int→Int→Int
 eq:Int→Int→Bool
 lt:Int→Int→Bool
 le:Int→Int→Bool
 beq:Bool→Bool→Bool
 seq:ByteArray→ByteArray→Bool
 slt:ByteArray→ByteArray→Bool
 JL:ByteArray→Int
 QE:Bool→Bool→Bool
 sC:Bool→Bool
 Fq:Bool→Bool→Bool→Bool
 gG:IntKind→Int→Bool
 fu:Int→Int→Bool
 Lx:Nat→Nat→Bool
 len:{α:Type}→List α→Nat
 get:{α:Type}→α→List α→Nat→α
 set:{α:Type}→List α→Nat→α→List α
 sub':{α:Type}→List α→Nat→Nat→List α
 app:{α:Type}→List α→List α→List α
 rep:{α:Type}→Nat→α→List α
 Fs:Nat→Nat→Nat
 LQ:Nat→Nat→Nat
 sD:Int→Nat
 sat:ByteArray→Nat→Int
 bys:ByteArray→List Int
 txt:List Int→ByteArray
 wr:IntKind→Int→Int
 clr:{α:Type}→α→List α→Nat→Nat→List α
 mhas:(t:Ty)→{β:Type}→List (t.den×β)→t.den→Bool
 gb:(t:Ty)→{β:Type}→β→List (t.den×β)→t.den→β
 iy:(t:Ty)→{β:Type}→List (t.den×β)→t.den→β→List (t.den×β)
 call:Nat→List V→aF→(V→aF→Prop)→Prop
 gL:Nat→List V→V→Prop
 loop:C→St→(Ex→St→Prop)→Prop
 round:Nat→List V→aF→(V→aF→Prop)→Prop
 bF:O→List Nat→C→C→St→(Ex→St→Prop)→Prop
 gF:C→St→(Ex→St→Prop)→Prop
def jY (t t':Ty) (xs:List t.den):Option (List t'.den):=if h:t=t' then some (h▸xs) else none
def dJ : (t : Ty) → t.den → t.den → Bool
 | .unit,_,_=>true
 | .bool,a,b=>a==b
 | .str,a,b=>a.data.toList==b.data.toList
 | .int _,a,b=>a==b
 | .list _,_,_=>false
 | .prod a b,x,y=>dJ a x.1 y.1&&dJ b x.2 y.2
 | .cq _ _ a,x,y=>dJ a x y
def aM (t:Ty) {β:Type} (es:List (t.den×β)) (k:t.den):Bool:=es.any fun e=>dJ t k e.1
def ax (t : Ty) {β : Type} (d : β) : List (t.den × β) → t.den → β
 |[],_=>d
 |e::r,k=>if dJ t k e.1=true then e.2 else ax t d r k
def fW : (t : Ty) → t.den → t.den → Bool
 | .unit,_,_=>false
 | .bool,a,b => !a&&b
 | .str,a,b=>Op.bytesLess a.toList b.toList
 | .int _,a,b=>decide (a<b)
 | .list _,_,_=>false
 | .prod a b,x,y=>fW a x.1 y.1||(dJ a x.1 y.1&&fW b x.2 y.2)
 | .cq _ _ a,x,y=>fW a x y
def pN (t : Ty) {β : Type} : List (t.den × β) → t.den → β → List (t.den × β)
 |[],k,v=>[(k,v)]
 |e::r,k,v=>if fW t k e.1=true then (k,v)::e::r else e::pN t r k v
def aU (t:Ty) {β:Type} (es:List (t.den×β)) (k:t.den) (v:β):List (t.den×β) :=
 if aM t es k=true then es.map (fun e=>if dJ t k e.1=true then (k,v) else e) else pN t es k v
def KD (t:Ty) {β:Type} (es:List (t.den×β)):Prop:=es.Pairwise fun a b=>dJ t a.1 b.1=false
def eY (s:ByteArray):List Int:=s.data.toList.map fun b=>(b.toNat:Int)
def QF (s:ByteArray) (n:Nat):Int:=(eY s).getD n 0
def uz (ys:List Int):ByteArray:=⟨(ys.map fun z=>UInt8.ofNat z.toNat).toArray⟩
def AU {α:Type} (z:α) (xs:List α) (lo n:Nat):List α:=xs.take lo++List.replicate n z++xs.drop (lo+n)
def cw : (t : Ty) → t.den → List V
 | .unit,_=>[]
 | .bool,b=>[.bool b]
 | .str,s=>[.str s]
 | .int k,n=>[.int k n]
 | .list t,xs=>[.eL t xs]
 | .prod a b,x=>cw a x.1++cw b x.2
 | .cq d g t,x=>[.cq d (iS g (cw t x))]
where iS (g:Bool) (vs:List V):V:=match g with
 |true=>.agg vs
 |false=>match vs with
  |[v]=>v
  |_=>.any
def AV : Bool → V → Option (List V)
 |true,.agg cs=>some cs
 |true,_=>none
 |false,.agg _=>none
 |false,v=>v.cells?
def bg (ar : Ar) (bl : ai) : (t : Ty) → List V → Option (t.den × eC × List V)
 | .unit,vs=>some ((),[],vs)
 | .bool,.bool b::r=>some (b,[],r)
 | .bool,.tf b::r=>some (b,[],r)
 | .str,.str s::r=>some (s,[],r)
 | .int k,.int k' n::r=>if k=k' then some (n,[],r) else none
 | .list t,.eL t' xs::r=>match jY t' t xs with
  |some ys=>some (ys,[],r)
  |none=>none
 | .list _,.bW::r=>some ([],[],r)
 | .list t,.sl id t' lo n::r=>match aq id bl with
  |some (.arr t'' xs _) =>
   if t'=t'' then
    match jY t'' t xs with
    |some ys=>some (ar.sub' ys lo n,[(id,some (.arr t'' xs true))],r)
    |none=>none
   else none
  |_=>none
 | .prod a b,vs=>match bg ar bl a vs with
  |some (x,u,r)=>match bg ar bl b r with
   |some (y,u',r')=>some ((x,y),u++u',r')
   |none=>none
  |none=>none
 | .cq d g t,.cq d' v::r=>if d=d' then
   (match AV g v with
   |some cs=>match bg ar [] t cs with
    |some (x,[],[])=>some (x,[],r)
    |_=>none
   |none=>none) else none
 |_,_=>none
def pI : (t : Ty) → t.den → List Bool → Option (Σ t' : Ty, t'.den)
 |t,x,[]=>some ⟨t,x⟩
 | .prod a _,x,false::p=>pI a x.1 p
 | .prod _ b,x,true::p=>pI b x.2 p
 |_,_,_=>none
def Ty.qG : Ty → List Bool → Option Ty
 |t,[]=>some t
 | .prod a _,false::p=>a.qG p
 | .prod _ b,true::p=>b.qG p
 |_,_=>none
def Ty.bC : Ty → List Bool → Nat
 | .prod a _,false::p=>a.bC p
 | .prod a b,true::p=>a.sz+b.bC p
 |_,_=>0
def cL (ar : Ar) (bl : ai) : (t : Ty) → t.den → List Bool → List V → Option (t.den × eC)
 |t,_,[],vs=>match bg ar bl t vs with
  |some (y,u,[])=>some (y,u)
  |_=>none
 | .prod a _,x,false::p,vs=>match cL ar bl a x.1 p vs with
  |some (y,u)=>some ((y,x.2),u)
  |none=>none
 | .prod _ b,x,true::p,vs=>match cL ar bl b x.2 p vs with
  |some (y,u)=>some ((x.1,y),u)
  |none=>none
 |_,_,_,_=>none
def qJ (ar : Ar) (bl : ai) (t : Ty) : List V → Option (List t.den × eC)
 |[]=>some ([],[])
 |v::r=>match v.cells? with
  |some vs=>match bg ar bl t vs with
   |some (x,u,[])=>match qJ ar bl t r with
    |some (xs,u')=>some (x::xs,u++u')
    |none=>none
   |_=>none
  |none=>none
def cut (off k:Nat) (cs:List V):Option (List V) :=
 if off+k≤cs.length then some ((cs.drop off).take k) else none
def cm (agg:Bool) (cs:List V):Option V :=
 match agg,cs with
 |true,cs=>some (.agg cs)
 |false,[c]=>some c
 |false,_=>none
def qK : Nat → List V → List V → Option (List V)
 |0,vs,cs=>if vs.length≤cs.length then some (vs++cs.drop vs.length) else none
 |off+1,vs,c::cs=>match qK off vs cs with
  |some r=>some (c::r)
  |none=>none
 |_+1,_,[]=>none
def tR : List (Nat × Nat × O) → List (Nat × V) → List V → Option (List V)
 |[],_,cs=>some cs
 |(off,k,x)::r,env,cs =>
  match (x.ev env).cells? with
  |some vs=>if vs.length=k then (match qK off vs cs with
   |some cs'=>tR r env cs'
   |none=>none) else none
  |none=>none
def tS (id : Nat) : eC → Bool
 |[]=>true
 |(s,_)::r=>match Nat.beq s id with
  |true=>false
  |false=>tS id r
abbrev Out:=Option (List Bool×V×eC)
def Ft (ar:Ar) (op:yN) (k:IntKind) (a b:Int):Out :=
 match op with
 | .add=>match ar.add a b with|z=>some ([ar.gG k z],.int k z,[])
 | .sub=>match ar.sub a b with|z=>some ([ar.gG k z],.int k z,[])
 | .mul=>match k.signed with
  |true=>match ar.mul a b with|z=>some ([ar.gG k z],.int k z,[])
  |false=>some ([],.int k (ar.wr k (ar.mul a b)),[])
 | .quo=>match ar.quo a b with|z=>some ([ar.sC (ar.eq b 0),ar.gG k z],.int k z,[])
 | .rem=>some ([ar.sC (ar.eq b 0)],.int k (ar.rem a b),[])
 | .and=>some ([],.int k (ar.bits .and k a b),[])
 | .or=>some ([],.int k (ar.bits .or k a b),[])
 | .xor=>some ([],.int k (ar.bits .xor k a b),[])
 | .andNot=>some ([],.int k (ar.bits .andNot k a b),[])
 | .shl=>none
 | .shr=>none
 | .eql=>some ([],.bool (ar.eq a b),[])
 | .neq=>some ([],.bool (ar.sC (ar.eq a b)),[])
 | .lss=>some ([],.bool (ar.lt a b),[])
 | .leq=>some ([],.bool (ar.le a b),[])
 | .gtr=>some ([],.bool (ar.lt b a),[])
 | .geq=>some ([],.bool (ar.le b a),[])
def Fu (ar:Ar) (op:yN) (a b:ByteArray):Out :=
 match op with
 | .add=>match ar.add (ar.JL a) (ar.JL b) with|z=>some ([ar.gG .i64 z],.str (ar.txt (ar.app (ar.bys a) (ar.bys b))),[])
 | .eql=>some ([],.bool (ar.seq a b),[])
 | .neq=>some ([],.bool (ar.sC (ar.seq a b)),[])
 | .lss=>some ([],.bool (ar.slt a b),[])
 | .leq=>some ([],.bool (ar.Fq (ar.slt a b) true (ar.seq a b)),[])
 | .gtr=>some ([],.bool (ar.sC (ar.Fq (ar.slt a b) true (ar.seq a b))),[])
 | .geq=>some ([],.bool (ar.sC (ar.slt a b)),[])
 |_=>none
def zu (ar:Ar) (op:yN) (k:IntKind) (a b:Int):Out :=
 match op with
 | .shl=>match ar.shl a b with|z=>some ([ar.fu b k.bits,ar.gG k z],.int k z,[])
 | .shr=>some ([ar.fu b k.bits],.int k (ar.shr a b),[])
 |_=>none
def JM : V → Option Bool
 | .bool b=>some b
 | .tf b=>some b
 |_=>none
def aH (ar : Ar) : List Kd → List V → List V → Option Bool
 |[],[],[]=>some true
 | .i::ks,.int k a::r,.int k' b::s=>if k=k' then (match aH ar ks r s with
  |some c=>some (ar.QE (ar.eq a b) c)
  |none=>none) else none
 | .s::ks,.str a::r,.str b::s=>match aH ar ks r s with
  |some c=>some (ar.QE (ar.seq a b) c)
  |none=>none
 | .b::ks,x::r,y::s=>match JM x,JM y with
  |some a,some b=>match aH ar ks r s with
   |some c=>some (ar.QE (ar.beq a b) c)
   |none=>none
  |_,_=>none
 |_,_,_=>none
def iN (ar : Ar) (mx : Bool) (k : IntKind) : Int → List V → Option Int
 |a,[]=>some a
 |a,.int k' b::r=>if k=k' then iN ar mx k (match mx with|true=>ar.imax a b|false=>ar.Wk a b) r else none
 |_,_=>none
def qe : V → Option Int
 | .int _ n=>some n
 |_=>none
def cz (env : List (Nat × V)) (d : Int) : Option O → Option Int
 |none=>some d
 |some x=>qe (x.ev env)
def elems (ar : Ar) (bl : ai) (t : Ty) : V → Option (List t.den)
 | .bW=>some []
 | .eL t' xs=>jY t' t xs
 | .sl id t' lo n=>match aq id bl with
  |some (.arr t'' xs _)=>if t'=t'' then (match jY t'' t xs with
   |some ys=>some (ar.sub' ys lo n)
   |none=>none) else none
  |_=>none
 |_=>none
def Fv : V → Option Ty
 | .eL t _=>some t
 | .sl _ t _ _=>some t
 |_=>none
def cu:Nat:=2 ^ 30
def l6 (ar : Ar) (bl : ai) (t : Ty) : Nat → List V → Option (List t.den × eC)
 |0,[]=>some ([],[])
 |0,_=>none
 |n+1,vs=>match bg ar bl t vs with
  |some (x,u,r)=>match l6 ar bl t n r with
   |some (xs,u')=>some (x::xs,u++u')
   |none=>none
  |none=>none
def CO (ar : Ar) (t : Ty) (xs : List t.den) : Nat → Nat → List V
 |0,_=>[]
 |n+1,i=>cw t (ar.get t.zero xs i)++CO ar t xs n (i+1)
def Hw (k : IntKind) : List V → Option (List Int)
 |[]=>some []
 | .int k' z::r=>if k=k' then (match Hw k r with
  |some zs=>some (z::zs)
  |none=>none) else none
 |_=>none
def colZ (len eF:Nat) (zs:List Int) (m:Nat):List Int:=(List.range len).map fun j=>zs.getD (j * eF+m) 0
def QG (ar:Ar) (k:IntKind) (len eF:Nat) (zs:List Int) (i:Nat):List V:=(List.range eF).map fun m=>.int k (ar.get 0 (colZ len eF zs m) i)
def Hx (kt vt Lz LA:Ty) (es:List (kt.den×vt.den)):Option (List (Lz.den×LA.den)):=if h:kt=Lz∧vt=LA then some (h.1▸h.2▸es) else none
def jA (bl:ai) (kt:Ty) (kg:Bool) (vt:Ty) (vg:Bool) (id:Nat):Option (List (kt.den×vt.den)):=match aq id bl with
 |some (.map Lz UE LA QH es)=>if kg=UE∧vg=QH then Hx Lz LA kt vt es else none
 |_=>none
def keyOf (ar:Ar) (kt:Ty) (kg:Bool) (k:V):Option kt.den:=match AV kg k with
 |some cs=>match bg ar [] kt cs with
  |some (x,[],[])=>some x
  |_=>none
 |none=>none
def iU (ar:Ar) (e:gv) (vs:List V) (bl:ai) (aC:Nat):Out :=
 match e with
 | .vN=>match vs with
  |[.str s,.int _ n]=>some ([ar.fu n (ar.JL s)],.int .u8 (ar.sat s (ar.sD n)),[])
  |_=>none
 | .LO len eF g=>match vs with
  |[.agg cs,.int _ i]=>match Nat.beq cs.length (len * eF) with
   |false=>none
   |true=>match cs with
    | .int k z::r=>match Hw k (.int k z::r) with
     |some zs=>match cm g (QG ar k len eF zs (ar.sD i)) with
      |some v=>some ([ar.fu i (Int.ofNat len)],v,[])
      |none=>none
     |none=>none
    |cs=>match i with
     | .ofNat n=>if n<len then (match cut (n * eF) eF cs with
      |some vs=>match cm g vs with
       |some v=>some ([],v,[])
       |none=>none
      |none=>none) else none
     |_=>none
  |_=>none
 | .bytes=>match vs with
  |[.str s]=>some ([],.eL (.int .u8) (ar.bys s),[])
  |_=>none
 | .text=>match vs with
  |[v]=>match elems ar bl (.int .u8) v with
   |some ys=>some ([],.str (ar.txt ys),[])
   |none=>none
  |_=>none
 | .clear t=>match vs with
  |[.sl id t' lo n]=>if t'=t then (match aq id bl with
   |some (.arr t'' xs false)=>if t'=t'' then some ([],.cK [],[(id,some (.arr t'' (ar.clr t''.zero xs lo n) false))]) else none
   |_=>none) else none
  |_=>none
 | .LP neg=>match vs with
  |[.sl _ _ _ n]=>match neg with
   |false=>some ([],.cb (ar.eq (Int.ofNat n) 0),[])
   |true=>none
  |[.eL _ xs]=>match neg with
   |false=>some ([],.cb (ar.eq (Int.ofNat (ar.len xs)) 0),[])
   |true=>none
  |_=>none
 | .Fm neg=>match vs with
  |[.mp _]=>some ([],.tf neg,[])
  |[.cC]=>some ([],.tf (!neg),[])
  |_=>none
 | .Fo neg=>match vs with
  |[.ptr _ _]=>some ([],.tf neg,[])
  |[.eB]=>some ([],.tf (!neg),[])
  |_=>none
 | .iQ=>match vs with
  |[.cq t v]=>some ([],.cq t v,[])
  |[.ptr id o]=>some ([],.ptr id o,[])
  |[.ff cs]=>some ([],.ff cs,[])
  |_=>none
 | .iR kt kg vt vg=>some ([],.mp aC,[(aC,some (.map kt kg vt vg []))])
 | .gb kt kg vt vg ok=>match vs with
  |[m,k]=>match keyOf ar kt kg k with
   |some x=>match (match m with
    | .mp id=>jA bl kt kg vt vg id
    | .cC=>some []
    |_=>none) with
    |some es=>match cw.iS vg (cw vt (ar.gb kt vt.zero es x)) with
     |v=>match ok with
      |true=>some ([],.cK [v,.bool (ar.mhas kt es x)],[])
      |false=>some ([],v,[])
    |none=>none
   |none=>none
  |_=>none
 | .iy kt kg vt vg=>match vs with
  |[.mp id,k,v]=>match keyOf ar kt kg k with
   |some x=>match keyOf ar vt vg v with
    |some y=>match jA bl kt kg vt vg id with
     |some es=>some ([],.any,[(id,some (.map kt kg vt vg (ar.iy kt es x y)))])
     |none=>none
    |none=>none
   |none=>none
  |_=>none
 | .QB=>match vs with
  |[.mp id]=>match aq id bl with
   |some (.map _ _ _ _ es)=>some ([],.int .i64 (Int.ofNat (ar.len es)),[])
   |_=>none
  |[.cC]=>some ([],.int .i64 0,[])
  |_=>none
 | .mkif t=>match vs with
  |[v]=>some ([],.cq t v,[])
  |_=>none
 | .Fp t n=>some ([],.pa aC t n,[(aC,some (.arr t (ar.rep n t.zero) false))])
 | .QC t n=>match vs with
  |[.agg cs]=>match l6 ar bl t n cs with
   |some (xs,u)=>some ([],.pa aC t n,u++[(aC,some (.arr t xs false))])
   |none=>none
  |_=>none
 | .capn=>match vs with
  |[.bW]=>some ([],.int .i64 0,[])
  |_=>none
 | .Wj t=>match vs with
  |[.bW,.int _ z]=>match ar.sD z with
   |m=>some ([ar.fu z (Int.ofNat cu)],.sl aC t 0 m,[(aC,some (.arr t (ar.rep m t.zero) false))])
  |_=>none
def gv.lays : gv → Bool
 | .iR _ _ _ _=>true
 | .Fp _ _=>true
 | .QC _ _=>true
 | .Wj _=>true
 |_=>false
def upTo : Nat → List Nat → List Nat
 |0,r=>r
 |n+1,r=>upTo n (n::r)
def AW (f : Nat → Option V) : List Nat → Option (List V)
 |[]=>some []
 |n::r=>match f n with
  |some v=>match AW f r with
   |some vs=>some (v::vs)
   |none=>none
  |none=>none
def asI (k : IntKind) : List V → Option (List Int)
 |[]=>some []
 |v::r=>match v with
  | .int k' n=>if k=k' then (match asI k r with
   |some ns=>some (n::ns)
   |none=>none) else none
  |_=>none
def LS (ar:Ar) (vs:List V) (j:Int):Option V:=match vs with
 | .int k n::r=>match asI k r with
  |some ns=>some (.int k (ar.get 0 (n::ns) (ar.sD j)))
  |none=>none
 |_=>none
def CQ (ar : Ar) (cs : List V) : List (Nat × Nat × Int) → Nat → Option V
 |[],o=>cs[o]?
 |(eF,len,j)::r,o=>match AW (fun n=>CQ ar cs r (o+n * eF)) (upTo len []) with
  |some vs=>LS ar vs j
  |none=>none
def bX (ar:Ar) (i:I) (env:List (Nat×V)) (bl:ai) (aC:Nat):Out :=
 match i with
 | .mv x=>some ([],x.ev env,[])
 | .pick c a b =>
  match c.ev env with
  | .tf true=>some ([],a.ev env,[])
  | .tf false=>some ([],b.ev env,[])
  | .bool c=>match JM (a.ev env),JM (b.ev env) with
   |some x,some y=>some ([],.bool (ar.Fq c x y),[])
   |_,_=>none
  |_=>none
 | .alloc z=>some ([],.ptr aC 0,[(aC,some (.cells z false))])
 | .box x=>match (x.ev env).cells? with
  |some cs=>some ([],.ptr aC 0,[(aC,some (.cells cs false))])
  |none=>none
 | .build z parts=>match tR parts env z with
  |some cs=>some ([],.agg cs,[])
  |none=>none
 | .dU t xs=>match qJ ar bl t (xs.map (·.ev env)) with
  |some (ys,u)=>some ([],.sl aC t 0 xs.length,u++[(aC,some (.arr t ys false))])
  |none=>none
 | .load agg k x =>
  match x.ev env with
  | .ptr id off=>match aq id bl with
   |some (.cells cs _)=>match cut off k cs with
    |some vs=>match cm agg vs with
     |some v=>some ([],v,[])
     |none=>none
    |none=>none
   |_=>none
  | .ff cs=>match cut 0 k cs with
   |some vs=>match cm agg vs with
    |some v=>some ([],v,[])
    |none=>none
   |none=>none
  | .ep id t i p=>match aq id bl with
   |some (.arr t' xs _)=>if t=t' then
     match pI t' (ar.get t'.zero xs i) p with
     |some ⟨t2,y⟩=>match cw t2 y with
      |vs=>if vs.length=k then (match cm agg vs with
       |some v=>some ([ar.Lx i (ar.len xs)],v,[])
       |none=>none) else none
     |none=>none
    else none
   |some (.mJ t' xs i' p' v)=>if t=t'∧p=p'∧k=1 then (match agg with
    |false=>some ([ar.eq (Int.ofNat i) (Int.ofNat i')],v,[])
    |true=>none) else none
   |_=>none
  | .ip t y=>match cw t y with
   |vs=>if vs.length=k then (match cm agg vs with
    |some v=>some ([],v,[])
    |none=>none) else none
  | .pa id t m=>match aq id bl with
   |some (.arr t' xs _)=>if t=t' then (match CO ar t' xs m 0 with
    |vs=>if vs.length=k then (match cm agg vs with
     |some v=>some ([],v,[])
     |none=>none) else none) else none
   |_=>none
  | .sp id o l=>match aq id bl with
   |some (.cells cs _)=>match k with
    |1=>match CQ ar cs l o with
     |some v=>match cm agg [v] with
      |some v=>some ([],v,[])
      |none=>none
     |none=>none
    |_=>none
   |_=>none
  |_=>none
 | .store k a x =>
  match (x.ev env).cells? with
  |none=>none
  |some vs=>if vs.length=k then
   (match a.ev env with
   | .ptr id off=>match aq id bl with
    |some (.cells cs false)=>match qK off vs cs with
     |some cs'=>some ([],.any,[(id,some (.cells cs' false))])
     |none=>none
    |_=>none
   | .ep id t i p=>match aq id bl with
    |some (.arr t' xs false)=>if t=t' then
      match cL ar bl t' (ar.get t'.zero xs i) p vs with
      |some (y,u)=>match tS id u with
       |true=>some ([ar.Lx i (ar.len xs)],.any,u++[(id,some (.arr t' (ar.set xs i y) false))])
       |false=>none
      |none=>none
     else none
    |_=>none
   | .pa id t m=>match aq id bl with
    |some (.arr t' xs false)=>if t=t' then
      match l6 ar bl t' m vs with
      |some (ys,u)=>match tS id u with
       |true=>some ([],.any,u++[(id,some (.arr t' ys false))])
       |false=>none
      |none=>none
     else none
    |_=>none
   |_=>none) else none
 | .bin op x y =>
  match x.ev env,y.ev env with
  | .int k a,.int k' b=>match op with
   | .shl=>zu ar .shl k a b
   | .shr=>zu ar .shr k a b
   |_=>if k=k' then Ft ar op k a b else none
  | .str a,.str b=>Fu ar op a b
  |_,_=>none
 | .QD neg x y=>match JM (x.ev env),JM (y.ev env) with
  |some a,some b=>some ([],.bool (match neg with|true=>ar.sC (ar.beq a b)|false=>ar.beq a b),[])
  |_,_=>none
 | .eqs neg ks x y =>
  match x.ev env,y.ev env with
  | .agg xs,.agg ys=>match aH ar ks xs ys with
   |some c=>some ([],.bool (match neg with|true=>ar.sC c|false=>c),[])
   |none=>none
  |_,_=>none
 | .neg x=>match x.ev env with
  | .int k a=>match k.signed with
   |true=>match ar.sub 0 a with|z=>some ([ar.gG k z],.int k z,[])
   |false=>some ([],.int k (ar.wr k (ar.sub 0 a)),[])
  |_=>none
 | .not x=>match x.ev env with
  | .tf b=>some ([],.tf (!b),[])
  | .bool b=>some ([],.bool (ar.sC b),[])
  |_=>none
 | .conv k x=>match x.ev env with
  | .int _ n=>some ([ar.gG k n],.int k n,[])
  |_=>none
 | .mL off path x=>match x.ev env with
  | .ptr id o=>some ([],.ptr id (o+off),[])
  | .ff cs=>if off≤cs.length then some ([],.ff (cs.drop off),[]) else none
  | .ep id t i p=>match t.qG p with
   |some t1=>if t1.bC path=off then (match t1.qG path with
    |some _=>some ([],.ep id t i (p++path),[])
    |none=>none) else none
   |none=>none
  | .ip t y=>if t.bC path=off then (match pI t y path with
   |some ⟨t2,z⟩=>some ([],.ip t2 z,[])
   |none=>none) else none
  | .pa id t m=>if (off / t.sz) * t.sz=off∧off / t.sz<m then some ([],.ep id t (off / t.sz) [],[]) else none
  | .lg t xs=>if (off / t.sz) * t.sz=off then some ([ar.Lx (off / t.sz) (ar.len xs)],.ip t (ar.get t.zero xs (off / t.sz)),[]) else none
  | .sp id o l=>some ([],.sp id (o+off) l,[])
  |_=>none
 | .field agg off k x=>match x.ev env with
  | .agg cs=>match cut off k cs with
   |some vs=>match cm agg vs with
    |some v=>some ([],v,[])
    |none=>none
   |none=>none
  |_=>none
 | .idx eF x i =>
  match i.ev env with
  | .int _ n=>match x.ev env with
   | .sl id t lo m=>if t.sz=eF then some ([ar.fu n (Int.ofNat m)],.ep id t (ar.Fs lo (ar.sD n)) [],[]) else none
   | .eL t xs=>if t.sz=eF then some ([ar.fu n (Int.ofNat (ar.len xs))],.ip t (ar.get t.zero xs (ar.sD n)),[]) else none
   |_=>none
  |_=>none
 | .yO len eF x i =>
  match x.ev env with
  | .pa id t m=>match i.ev env with
   | .int _ j=>if t.sz=eF∧m=len then some ([ar.fu j (Int.ofNat len)],.ep id t (ar.sD j) [],[]) else none
   |_=>none
  | .lg t xs=>match i.ev env with
   | .int _ j=>if t.sz=eF then some ([ar.fu j (Int.ofNat len),ar.fu j (Int.ofNat (ar.len xs))],.ip t (ar.get t.zero xs (ar.sD j)),[]) else none
   |_=>none
  | .ptr id o=>match i.ev env with
   | .int _ j=>some ([ar.fu j (Int.ofNat len)],.sp id o [(eF,len,j)],[])
   |_=>none
  | .sp id o l=>match i.ev env with
   | .int _ j=>some ([ar.fu j (Int.ofNat len)],.sp id o ((eF,len,j)::l),[])
   |_=>none
  | .ff cs=>match i.ev env with
   | .int _ (.ofNat n)=>if n<len then (if n * eF≤cs.length then some ([],.ff (cs.drop (n * eF)),[]) else none) else none
   |_=>none
  |_=>none
 | .ext k x=>match x.ev env with
  | .cK vs=>match vs[k]? with
   |some v=>some ([],v,[])
   |none=>none
  |_=>none
 | .len x=>match x.ev env with
  | .sl _ _ _ n=>some ([],.int .i64 (Int.ofNat n),[])
  | .eL _ xs=>some ([],.int .i64 (Int.ofNat (ar.len xs)),[])
  | .bW=>some ([],.int .i64 0,[])
  |_=>none
 | .lens x=>match x.ev env with
  | .str s=>some ([],.int .i64 (ar.JL s),[])
  |_=>none
 | .yP n=>some ([],.int .i64 (Int.ofNat n),[])
 | .append eF x y =>
  match x.ev env with
  | .bW=>match Fv (y.ev env) with
   |some t=>if t.sz=eF then
     (match elems ar bl t (y.ev env) with
     |some ys=>match ar.len ys with
      |m=>some ([ar.Lx m cu],.sl aC t 0 m,[(aC,some (.arr t ys false))])
     |none=>none) else none
   |none=>none
  | .sl id t lo n=>if t.sz=eF then
   (match aq id bl with
   |some (.arr t' xs false)=>if t'=t then
    (match jY t' t xs with
    |some xs'=>match elems ar bl t (y.ev env) with
     |some ys=>match ar.Fs n (ar.len ys) with
      |m=>some ([ar.Lx m cu],.sl aC t 0 m,[(id,none),(aC,some (.arr t (ar.app (ar.sub' xs' lo n) ys) false))])
     |none=>none
    |none=>none) else none
   |_=>none) else none
  |_=>none
 | .iM t n=>match n.ev env with
  | .int _ z=>match ar.sD z with
   |m=>some ([ar.fu z (Int.ofNat cu)],.sl aC t 0 m,[(aC,some (.arr t (ar.rep m t.zero) false))])
  |_=>none
 | .AS f a b=>some ([],.fn f (a.map (·.ev env)) (b.map (·.ev env)),[])
 | .slice eF x lo hi mx =>
  match mx with
  |some m=>match hi with
   |some h=>match qe (m.ev env),qe (h.ev env),cz env 0 lo with
    |some a,some b,some c=>match x.ev env with
     | .sl _ _ _ _=>some ([ar.eq a 0,ar.eq b 0,ar.eq c 0],.bW,[])
     | .eL _ _=>some ([ar.eq a 0,ar.eq b 0,ar.eq c 0],.bW,[])
     | .bW=>some ([ar.eq a 0,ar.eq b 0,ar.eq c 0],.bW,[])
     |_=>none
    |_,_,_=>none
   |none=>none
  |none =>
   match x.ev env with
   | .sl id t l n=>if t.sz=eF then
    (match cz env 0 lo,cz env (Int.ofNat n) hi with
    |some a,some b=>some ([ar.le 0 a,ar.le a b,ar.le b (Int.ofNat n)],.sl id t (ar.Fs l (ar.sD a)) (ar.LQ (ar.sD b) (ar.sD a)),[])
    |_,_=>none) else none
   | .eL t xs=>if t.sz=eF then
    (match cz env 0 lo,cz env (Int.ofNat (ar.len xs)) hi with
    |some a,some b=>some ([ar.le 0 a,ar.le a b,ar.le b (Int.ofNat (ar.len xs))],.eL t (ar.sub' xs (ar.sD a) (ar.LQ (ar.sD b) (ar.sD a))),[])
    |_,_=>none) else none
   | .bW=>(match cz env 0 lo,cz env 0 hi with
    |some a,some b=>some ([ar.eq a 0,ar.eq b 0],.bW,[])
    |_,_=>none)
   |_=>none
 | .ex e xs=>iU ar e (xs.map (·.ev env)) bl aC
 | .lS mx x ys=>match x.ev env with
  | .int k a=>match iN ar mx k a (ys.map (·.ev env)) with
   |some z=>some ([],.int k z,[])
   |none=>none
  |_=>none
def lT : Ty → List V → Option (List Bool × V × List V)
 | .list _,.sl id t lo n::r=>some ([],.sl id t lo n,.bW::r)
 | .prod a b,vs=>match lT a vs with
  |some (p,v,vs')=>some (false::p,v,vs')
  |none=>match lT b (vs.drop a.sz) with
   |some (p,v,vs')=>some (true::p,v,vs.take a.sz++vs')
   |none=>none
 |_,_=>none
def uA : Ty → List V → Option (List Bool)
 | .list _,.bW::_=>some []
 | .prod a b,vs=>match uA a vs with
  |some p=>some (false::p)
  |none=>match uA b (vs.drop a.sz) with
   |some p=>some (true::p)
   |none=>none
 |_,_=>none
def yQ (ar:Ar) (i:I) (env:List (Nat×V)) (bl:ai) (aC:Nat):Out:=match i with
 | .dU t xs=>match xs with
  |[x]=>match (x.ev env).cells? with
   |some vs=>match uA t vs with
    |some p=>match bg ar bl t vs with
     |some (y,[],[])=>some ([],.sl aC t 0 1,[(aC,some (.mJ t [y] 0 p .bW))])
     |_=>none
    |none=>none
   |none=>none
  |_=>none
 | .store k a x=>match (x.ev env).cells? with
  |none=>none
  |some vs=>if vs.length=k then (match a.ev env with
   | .ep id t i p=>match aq id bl with
    |some (.arr t' xs false)=>if t=t' then (match t'.qG p with
     |some t1=>match lT t1 vs with
      |some (q,v,vs')=>match cL ar bl t' (ar.get t'.zero xs i) p vs' with
       |some (y,[])=>some ([ar.Lx i (ar.len xs)],.any,[(id,some (.mJ t' (ar.set xs i y) i (p++q) v))])
       |_=>none
      |none=>none
     |none=>none) else none
    |some (.mJ t' xs i' p' _)=>if t=t'∧p=p' then (match vs with
     |[.sl id' s lo n]=>some ([ar.eq (Int.ofNat i) (Int.ofNat i')],.any,[(id,some (.mJ t' xs i' p' (.sl id' s lo n)))])
     |_=>none) else none
    |_=>none
   |_=>none) else none
 |_=>none
def LU : ai → List Nat
 |[]=>[]
 |(id,.mJ _ _ _ _ _)::r=>id::LU r
 |_::r=>LU r
def AX : ai → List Nat
 |[]=>[]
 |(id,.mJ _ _ _ _ v)::r=>match v with
  | .bW=>AX r
  |_=>id::AX r
 |_::r=>AX r
def clU (ar:Ar) (id:Nat) (bl:ai):Option eC:=match aq id bl with
 |some (.mJ t xs i p v)=>match cL ar bl t (ar.get t.zero xs i) p [v] with
  |some (y,u)=>match tS id u with
   |true=>some (u++[(id,some (.arr t (ar.set xs i y) false))])
   |false=>none
  |none=>none
 |_=>some []
def LB (ar : Ar) : List Nat → ai → Option eC
 |[],_=>some []
 |id::r,bl=>match clU ar id bl with
  |some u=>match LB ar r (bw u bl) with
   |some u'=>some (u++u')
   |none=>none
  |none=>none
def LV (ar:Ar) (S:St) (k:St→Prop):Prop:=k S∨∃ids u,LB ar ids S.H.bl=some u∧k ⟨S.env,⟨S.H.next,bw u S.H.bl⟩,S.ms⟩
def I.lays : I → Bool
 | .alloc _ | .box _ | .dU _ _ | .append _ _ _ | .iM _ _=>true
 | .ex e _=>e.lays
 |_=>false
def LC (l:Bool) (n:Nat):Nat:=match l with
 |true=>n+1
 |false=>n
def AY (t:Nat) (v:V) (r:List (Nat×V)):List (Nat×V):=(t,v)::r
def put (d:Option Nat) (v:V) (env:List (Nat×V)):List (Nat×V) :=
 match d with
 |some t=>AY t v env
 |none=>env
def uB : List Bool → Prop
 |[]=>True
 |[b]=>b=true
 |b::r=>b=true∧uB r
def Br (c:Bool) (t e:Unit→Prop):Prop:=(c=true→t ())∧(c=false→e ())
def QI (s:Nat) (b:Bool) (S:St):St:={ S with env:=AY s (.tf b) S.env }
def qL (o:Out) (l:Bool) (dst:Option Nat) (S:St) (K:St→Prop):Prop :=
 match o with
 |some ([],v,u)=>K ⟨put dst v S.env,⟨LC l S.H.next,bw u S.H.bl⟩,S.ms⟩
 |some (ob,v,u)=>uB ob∧K ⟨put dst v S.env,⟨LC l S.H.next,bw u S.H.bl⟩,S.ms⟩
 |none=>False
def wpOp (ar:Ar) (dst:Option Nat) (i:I) (S:St) (K:St→Prop):Prop :=
 qL (bX ar i S.env S.H.bl S.H.next) i.lays dst S K∨qL (yQ ar i S.env S.H.bl S.H.next) i.lays dst S K ∨
  ∃ids u,LB ar ids S.H.bl=some u∧qL (bX ar i S.env (bw u S.H.bl) S.H.next) i.lays dst ⟨S.env,⟨S.H.next,bw u S.H.bl⟩,S.ms⟩ K
def Hy : Ty → V → V
 | .list t,.bW=>.eL t []
 | .bool,.tf b=>.bool b
 |_,v=>v
def uU : Ty → List Ty
 | .unit=>[]
 | .prod a b=>uU a++uU b
 |t=>[t]
def AZ : List Ty → List V → List V
 |t::ts,c::cs=>Hy t c::AZ ts cs
 |_,cs=>cs
def LW (ty:Option Ty) (v:V):V:=match ty with
 |none=>v
 |some t=>match v with
  | .agg cs=>.agg (AZ (uU t) cs)
  |v=>Hy t v
def hT : Ty → Ty
 | .list _=>.str
 | .prod a b=>.prod (hT a) (hT b)
 |t=>t
def hTs (ts:List (Option Ty)):List (Option Ty):=ts.map (·.map hT)
def cO : List (Option Ty) → List V → List V
 |t::ts,v::vs=>LW t v::cO ts vs
 |_,vs=>vs
def uV (ar:Ar) (dst:Option Nat) (f:O) (args:List O) (tys:List (Option Ty)) (S:St) (K:St→Prop):Prop :=
 match f.ev S.env with
 | .fn f first cap=>ar.call f (first++cO tys (args.map (·.ev S.env))++cap) S.H fun v H=>K ⟨put dst v S.env,H,S.ms⟩
 | .yl id=>ar.round id (cO tys (args.map (·.ev S.env))) S.H fun v H=>K ⟨put dst v S.env,H,S.ms⟩
 |_=>False
def Fw (ar:Ar) (dst:Option Nat) (f:O) (args:List O) (tys:List (Option Ty)) (S:St) (K:St→Prop):Prop:=LV ar S fun S=>uV ar dst f args tys S K
def oS (g:Option (Nat×Bool)) (dst:Option Nat) (S:St) (K:St→Prop) (run:St→Prop):Prop :=
 match g with
 |none=>run S
 |some (s,b)=>match get s S.env with
  | .tf c=>match c,b with
   |true,true=>run S
   |false,false=>run S
   |true,false=>K ⟨put dst (.cK []) S.env,S.H,S.ms⟩
   |false,true=>K ⟨put dst (.cK []) S.env,S.H,S.ms⟩
  | .bool c => Br c
   (fun _=>match b with
    |true=>run (QI s true S)
    |false=>K ⟨put dst (.cK []) (QI s true S).env,S.H,S.ms⟩)
   (fun _=>match b with
    |false=>run (QI s false S)
    |true=>K ⟨put dst (.cK []) (QI s false S).env,S.H,S.ms⟩)
  | .cK _=>K ⟨put dst (.cK []) S.env,S.H,S.ms⟩
  |_=>False
def fB (ar : Ar) : List eN → St → (St → Prop) → Prop
 |[],S,K=>K S
 | .op d g i::r,S,K=>oS g d S (fun S=>fB ar r S K) (fun S=>wpOp ar d i S (fun S=>fB ar r S K))
 | .call d g f a tys::r,S,K=>oS g d S (fun S=>fB ar r S K) (fun S=>Fw ar d f a tys S (fun S=>fB ar r S K))
end Go.AM
end
section
namespace Go.AM
abbrev aj:=Nat→Nat→Option Value
structure Loc where
 b:Nat
 ba:Nat
 tot:Nat
 len:Nat
abbrev Mu:=Nat→Option Loc
def aj.le (i j:aj):Prop:=∀b o x,i b o=some x→j b o=some x
def Mu.le (m n:Mu):Prop:=∀id L,m id=some L→n id=some L
theorem aj.le_refl (i:aj):i.le i:=fun _ _ _ h=>h
theorem Mu.le_refl (i:Mu):i.le i:=fun _ _ h=>h
theorem aj.le_trans {i j k:aj} (h:i.le j) (h':j.le k):i.le k:=fun _ _ _ hx=>h' _ _ _ (h _ _ _ hx)
theorem Mu.le_trans {i j k:Mu} (h:i.le j) (h':j.le k):i.le k:=fun _ _ hx=>h' _ _ (h _ _ hx)
def Reads (ι:aj) (b o:Nat) (vs:List Value):Prop:=∀j v,vs[j]?=some v→ι b (o+j)=some v
def bp {α : Type} (D : α → List Value → Prop) : List α → List Value → Prop
 |[],vs=>vs=[]
 |x::xs,vs=>∃us ws,vs=us++ws∧D x us∧bp D xs ws
def iq : Bool → List Value → Option Value
 |true,xs=>some (.agg xs.toArray)
 |false,[x]=>some x
 |false,_=>none
def af (ι : aj) : (t : Ty) → t.den → List Value → Prop
 | .unit,_,vs=>vs=[]
 | .bool,b,vs=>vs=[.bool b]
 | .str,s,vs=>vs=[.string s]
 | .int k,n,vs=>vs=[.int k n]
 | .list t,xs,vs=>∃a cap,vs=[.slice a xs.length cap]∧xs.length≤cap ∧
   (xs=[]∨∃b o us,a=some ⟨b,o,none⟩∧Reads ι b o us∧bp (af ι t) xs us)
 | .prod a b,x,vs=>∃us ws,vs=us++ws∧af ι a x.1 us∧af ι b x.2 ws
 | .cq d g t,x,vs=>∃xs v,af ι t x xs∧iq g xs=some v∧vs=[.iface d v]
def fJ (ι:aj) (g:Bool) (t:Ty) (x:t.den) (v:Value):Prop:=∃xs,af ι t x xs∧iq g xs=some v
theorem Reads.mono {ι ι':aj} (h:ι.le ι') {b o:Nat} {vs:List Value} (hr:Reads ι b o vs):Reads ι' b o vs :=
 fun j v hj=>h _ _ _ (hr j v hj)
theorem bp.mono {α : Type} {D E : α → List Value → Prop} (h : ∀ x us, D x us → E x us) : ∀ {xs : List α} {vs : List Value}, bp D xs vs → bp E xs vs
 |[],_,hc=>hc
 |_::_,_,⟨us,ws,e,h1,h2⟩=>⟨us,ws,e,h _ _ h1,bp.mono h h2⟩
theorem af.mono {ι ι' : aj} (h : ι.le ι') : ∀ {t : Ty} {x : t.den} {vs : List Value}, af ι t x vs → af ι' t x vs
 | .unit,_,_,hc=>hc
 | .bool,_,_,hc=>hc
 | .str,_,_,hc=>hc
 | .int _,_,_,hc=>hc
 | .list t,xs,vs,⟨a,cap,e,hl,hx⟩=>⟨a,cap,e,hl,hx.imp id fun ⟨b,o,us,ha,hr,hc⟩ =>
   ⟨b,o,us,ha,hr.mono h,bp.mono (fun x us hd=>af.mono (t:=t) h hd) hc⟩⟩
 | .prod _ _,_,_,⟨us,ws,e,h1,h2⟩=>⟨us,ws,e,af.mono h h1,af.mono h h2⟩
 | .cq _ _ _,_,_,⟨xs,v,h1,h2,h3⟩=>⟨xs,v,af.mono h h1,h2,h3⟩
theorem af.length {ι : aj} : ∀ {t : Ty} {x : t.den} {vs : List Value}, af ι t x vs → vs.length = t.sz
 | .unit,_,_,hc=>by simp [af] at hc;subst hc;rfl
 | .bool,_,_,hc=>by simp [af] at hc;subst hc;rfl
 | .str,_,_,hc=>by simp [af] at hc;subst hc;rfl
 | .int _,_,_,hc=>by simp [af] at hc;subst hc;rfl
 | .list _,_,_,⟨_,_,e,_,_⟩=>by subst e;rfl
 | .prod _ _,_,_,⟨us,ws,e,h1,h2⟩=>by subst e;simp [Ty.sz,af.length h1,af.length h2]
 | .cq _ _ _,_,_,⟨xs,v,h1,h2,h3⟩=>by subst h3;rfl
theorem af.one {ι : aj} : ∀ {t : Ty} {x : t.den} {vs : List Value}, af ι t x vs → ∀ v ∈ vs, v.oneCell' = true
 | .unit,_,_,hc=>by simp [af] at hc;subst hc;simp
 | .bool,_,_,hc=>by simp [af] at hc;subst hc;simp [Value.oneCell']
 | .str,_,_,hc=>by simp [af] at hc;subst hc;simp [Value.oneCell']
 | .int _,_,_,hc=>by simp [af] at hc;subst hc;simp [Value.oneCell']
 | .list _,_,_,⟨_,_,e,_,_⟩=>by subst e;simp [Value.oneCell']
 | .prod _ _,_,_,⟨us,ws,e,h1,h2⟩=>by
  subst e;intro v hv;rcases List.mem_append.1 hv with h|h
  ·exact af.one h1 v h
  ·exact af.one h2 v h
 | .cq _ _ _,_,_,⟨xs,v,h1,h2,h3⟩=>by subst h3;simp [Value.oneCell']
theorem fJ.mono {ι ι':aj} (h:ι.le ι') {g:Bool} {t:Ty} {x:t.den} {v:Value} (hv:fJ ι g t x v):fJ ι' g t x v:=by
 obtain ⟨xs,h1,h2⟩:=hv
 exact ⟨xs,h1.mono h,h2⟩
def eO (ι : aj) (kt : Ty) (kg : Bool) (vt : Ty) (vg : Bool) : List (kt.den × vt.den) → List MapEntry → Prop
 |[],ms=>ms=[]
 |e::es,ms=>∃m r,ms=m::r∧fJ ι kg kt e.1 m.key∧fJ ι vg vt e.2 m.val∧eO ι kt kg vt vg es r
theorem eO.mono {ι ι' : aj} (h : ι.le ι') {kt vt : Ty} {kg vg : Bool} : ∀ {es : List (kt.den × vt.den)} {ms : List MapEntry}, eO ι kt kg vt vg es ms → eO ι' kt kg vt vg es ms
 |[],_,he=>he
 |_::_,_,⟨m,r,e,h1,h2,h3⟩=>⟨m,r,e,h1.mono h,h2.mono h,eO.mono h h3⟩
theorem eO.length {ι : aj} {kt vt : Ty} {kg vg : Bool} : ∀ {es : List (kt.den × vt.den)} {ms : List MapEntry}, eO ι kt kg vt vg es ms → ms.length = es.length
 |[],_,he=>by simp [eO] at he;subst he;rfl
 |_::_,_,⟨m,r,e,h1,h2,h3⟩=>by subst e;simp [eO.length h3]
section cat
variable {α:Type} {D:α→List Value→Prop} {n:Nat}
theorem bp.length (hD : ∀ x us, D x us → us.length = n) : ∀ {xs : List α} {vs : List Value}, bp D xs vs → vs.length = xs.length * n
 |[],_,hc=>by simp [bp] at hc;subst hc;simp
 |x::xs,_,⟨us,ws,e,h1,h2⟩=>by
  subst e;simp [hD _ _ h1,bp.length hD h2,Nat.add_mul];omega
theorem bp.one (hD : ∀ x us, D x us → ∀ v ∈ us, Value.oneCell' v = true) : ∀ {xs : List α} {vs : List Value}, bp D xs vs → ∀ v ∈ vs, Value.oneCell' v = true
 |[],_,hc=>by simp [bp] at hc;subst hc;simp
 |x::xs,_,⟨us,ws,e,h1,h2⟩=>by
  subst e;intro v hv;rcases List.mem_append.1 hv with h|h
  ·exact hD _ _ h1 v h
  ·exact bp.one hD h2 v h
theorem bp.append : ∀ {xs ys : List α} {vs ws : List Value}, bp D xs vs → bp D ys ws → bp D (xs ++ ys) (vs ++ ws)
 |[],_,_,_,hc,h=>by simp [bp] at hc;subst hc;simpa using h
 |x::xs,_,_,_,⟨us,ws,e,h1,h2⟩,h=>by subst e;exact ⟨us,_,List.append_assoc ..,h1,h2.append h⟩
theorem bp.drop (hD : ∀ x us, D x us → us.length = n) : ∀ (k : Nat) {xs : List α} {vs : List Value}, bp D xs vs → bp D (xs.drop k) (vs.drop (k * n))
 |0,xs,vs,h=>by simpa using h
 |k+1,[],vs,h=>by simp [bp] at h;subst h;simp [bp]
 |k+1,x::xs,vs,⟨us,ws,e,h1,h2⟩=>by
  subst e
  have hl:=hD _ _ h1
  have:(us++ws).drop ((k+1) * n)=ws.drop (k * n):=by
   rw [List.drop_append,List.drop_eq_nil_of_le (by rw [hl,Nat.add_mul];omega),hl]
   simp [Nat.add_mul]
  rw [this]
  exact bp.drop hD k h2
theorem bp.take (hD : ∀ x us, D x us → us.length = n) : ∀ (k : Nat) {xs : List α} {vs : List Value}, bp D xs vs → bp D (xs.take k) (vs.take (k * n))
 |0,xs,vs,h=>by simp [bp]
 |k+1,[],vs,h=>by simp [bp] at h;subst h;simp [bp]
 |k+1,x::xs,vs,⟨us,ws,e,h1,h2⟩=>by
  subst e
  have hl:=hD _ _ h1
  refine ⟨us,ws.take (k * n),?_,h1,bp.take hD k h2⟩
  rw [List.take_append,List.take_of_length_le (by rw [hl,Nat.add_mul];omega),hl]
  simp [Nat.add_mul]
theorem bp.at (hD:∀x us,D x us→us.length=n) {xs:List α} {vs:List Value} (h:bp D xs vs) {i:Nat} {x:α} (hx:xs[i]?=some x) :
  D x ((vs.drop (i * n)).take n):=by
 have h1:=h.drop hD i
 obtain ⟨hi,rfl⟩:=List.getElem?_eq_some_iff.1 hx
 rw [List.drop_eq_getElem_cons hi] at h1
 obtain ⟨us,ws,e,hd,_⟩:=h1
 rw [e,List.take_append,List.take_of_length_le (by rw [hD _ _ hd];exact Nat.le_refl _),hD _ _ hd]
 simpa using hd
theorem bp.set (hD:∀x us,D x us→us.length=n) {xs:List α} {vs:List Value} (h:bp D xs vs) {i:Nat} (hi:i<xs.length) {y:α} {us:List Value} (hy:D y us) :
  bp D (xs.set i y) (vs.take (i * n)++us++vs.drop ((i+1) * n)):=by
 have h1:=h.take hD i
 have h2:=h.drop hD (i+1)
 rw [List.set_eq_take_append_cons_drop,if_pos hi,List.append_assoc]
 exact h1.append ⟨us,_,rfl,hy,h2⟩
theorem bp.rep {y : α} {us : List Value} (hy : D y us) : ∀ k : Nat, bp D (List.replicate k y) (List.flatten (List.replicate k us))
 |0=>rfl
 |k+1=>⟨us,_,by simp [List.replicate_succ],hy,bp.rep hy k⟩
end cat
def l7 : List (Nat × Nat × Int) → Nat
 |[]=>0
 |(eF,_,j)::r=>j.toNat * eF+l7 r
inductive Rel (ι : aj) (μ : Mu) : V → Value → Prop
 |any (x):Rel ι μ .any x
 |tf (b):Rel ι μ (.tf b) (.bool b)
 |bool (b):Rel ι μ (.bool b) (.bool b)
 |int (k n):Rel ι μ (.int k n) (.int k n)
 |str (s):Rel ι μ (.str s) (.string s)
 |eB:Rel ι μ .eB (.pointer none)
 |cF:Rel ι μ .cF .nilFunc
 |eX:Rel ι μ .eX .nilIface
 |eL (t xs x) (h:af ι (.list t) xs [x]):Rel ι μ (.eL t xs) x
 |bW (a):Rel ι μ .bW (.slice a 0 0)
 |sl (id t lo n cap L) (h:μ id=some L) (h1:n≤cap) (h2:L.ba+(lo+cap) * t.sz≤L.tot) (h3:lo+n≤L.len) :
   Rel ι μ (.sl id t lo n) (.slice (some ⟨L.b,L.ba+lo * t.sz,none⟩) n cap)
 |cQ (id t lo a):Rel ι μ (.sl id t lo 0) (.slice a 0 0)
 |ptr (id off L) (h:μ id=some L):Rel ι μ (.ptr id off) (.pointer (some ⟨L.b,L.ba+off,none⟩))
 |ff (cs b o) (g:Nat→Value) (h1:∀i,i<cs.length→ι b (o+i)=some (g i)) (h2:∀i v,cs[i]?=some v→Rel ι μ v (g i)) (h3:∀i,(g i).oneCell'=true) :
   Rel ι μ (.ff cs) (.pointer (some ⟨b,o,none⟩))
 |ep (id t i p L) (h:μ id=some L):Rel ι μ (.ep id t i p) (.pointer (some ⟨L.b,L.ba+i * t.sz+t.bC p,none⟩))
 |ip (t x b o us) (h1:Reads ι b o us) (h2:af ι t x us):Rel ι μ (.ip t x) (.pointer (some ⟨b,o,none⟩))
 | fn (f fs cs) (xs ys : Array Value) (h1 : fs.length = xs.size) (h2 : ∀ (i : Nat) v x, fs[i]? = some v → xs[i]? = some x → Rel ι μ v x)
   (h3:cs.length=ys.size) (h4:∀(i:Nat) v x,cs[i]?=some v→ys[i]?=some x→Rel ι μ v x):Rel ι μ (.fn f fs cs) (.func (.func f) xs ys)
 |yl (id L) (h:μ id=some L):Rel ι μ (.yl id) (.func (.yield L.b) #[] #[])
 |agg (cs) (xs:Array Value) (h1:cs.length=xs.size) (h2:∀(i:Nat) v x,cs[i]?=some v→xs[i]?=some x→Rel ι μ v x) (h3:∀x∈xs.toList,x.oneCell'=true):Rel ι μ (.agg cs) (.agg xs)
 |cK (cs) (xs:Array Value) (h1:cs.length=xs.size) (h2:∀(i:Nat) v x,cs[i]?=some v→xs[i]?=some x→Rel ι μ v x):Rel ι μ (.cK cs) (.tuple xs)
 |cq (t v x) (h:Rel ι μ v x):Rel ι μ (.cq t v) (.iface t x)
 |cb (c b) (h:b=true→c=true):Rel ι μ (.cb c) (.bool b)
 |mp (id L) (h:μ id=some L):Rel ι μ (.mp id) (.map (some L.b))
 |cC:Rel ι μ .cC (.map none)
 |pa (id t n L) (h:μ id=some L) (hn:L.len=n):Rel ι μ (.pa id t n) (.pointer (some ⟨L.b,L.ba,none⟩))
 |lg (t xs b o us) (h1:Reads ι b o us) (h2:bp (af ι t) xs us):Rel ι μ (.lg t xs) (.pointer (some ⟨b,o,none⟩))
 |sp (id o l L) (h:μ id=some L) (hb:∀x∈l,0≤x.2.2∧x.2.2<(x.2.1:Int)):Rel ι μ (.sp id o l) (.pointer (some ⟨L.b,L.ba+(o+l7 l),none⟩))
theorem Rel.mono {ι ι':aj} {μ μ':Mu} (hi:ι.le ι') (hm:μ.le μ') {v:V} {x:Value} (h:Rel ι μ v x):Rel ι' μ' v x:=by
 induction h with
 |any x=>exact .any x
 |tf b=>exact .tf b
 |bool b=>exact .bool b
 |int k n=>exact .int k n
 |str s=>exact .str s
 |eB=>exact .eB
 |cF=>exact .cF
 |eX=>exact .eX
 |eL t xs x h=>exact .eL t xs x (af.mono (t:=.list t) hi h)
 |bW a=>exact .bW a
 |sl id t lo n cap L h h1 h2 h3=>exact .sl id t lo n cap L (hm _ _ h) h1 h2 h3
 |cQ id t lo a=>exact .cQ id t lo a
 |ptr id off L h=>exact .ptr id off L (hm _ _ h)
 |ff cs b o g h1 h2 h3 ih=>exact .ff cs b o g (fun i h=>hi _ _ _ (h1 i h)) ih h3
 |ep id t i p L h=>exact .ep id t i p L (hm _ _ h)
 |ip t x b o us h1 h2=>exact .ip t x b o us (h1.mono hi) (af.mono hi h2)
 |fn f fs cs xs ys h1 h2 h3 h4 ih1 ih2=>exact .fn f fs cs xs ys h1 ih1 h3 ih2
 |yl id L h=>exact .yl id L (hm _ _ h)
 |agg cs xs h1 h2 h3 ih=>exact .agg cs xs h1 ih h3
 |cK cs xs h1 h2 ih=>exact .cK cs xs h1 ih
 |cq t v x h ih=>exact .cq t v x ih
 |cb c b h=>exact .cb c b h
 |mp id L h=>exact .mp id L (hm _ _ h)
 |cC=>exact .cC
 |pa id t n L h hn=>exact .pa id t n L (hm _ _ h) hn
 |lg t xs b o us h1 h2=>exact .lg t xs b o us (h1.mono hi) (bp.mono (fun _ _=>af.mono hi) h2)
 |sp id o l L h hb=>exact .sp id o l L (hm _ _ h) hb
def aG (ι:aj) (μ:Mu) (cs:List V) (xs:List Value):Prop :=
 cs.length=xs.length∧∀(i:Nat) v x,cs[i]?=some v→xs[i]?=some x→Rel ι μ v x
section rell
variable {ι ι':aj} {μ μ':Mu}
theorem aG.nil:aG ι μ [] []:=⟨rfl,fun i v x h=>by simp at h⟩
theorem aG.cons {v:V} {x:Value} {cs:List V} {xs:List Value} (h:Rel ι μ v x) (hl:aG ι μ cs xs):aG ι μ (v::cs) (x::xs) :=
 ⟨by simp [hl.1],fun i w y hw hy=>by
  cases i with
  |zero=>simp at hw hy;subst hw;subst hy;exact h
  |succ i=>exact hl.2 i w y (by simpa using hw) (by simpa using hy)⟩
theorem aG.bA {v:V} {cs:List V} {xs:List Value} (h:aG ι μ (v::cs) xs):∃x r,xs=x::r∧Rel ι μ v x∧aG ι μ cs r:=by
 cases xs with
 |nil=>exact absurd h.1 (by simp)
 |cons x r=>exact ⟨x,r,rfl,h.2 0 v x rfl rfl,by have:=h.1;simpa using this,fun i w y hw hy=>h.2 (i+1) w y (by simpa using hw) (by simpa using hy)⟩
theorem aG.of_nil {xs:List Value} (h:aG ι μ [] xs):xs=[]:=by have:=h.1;cases xs<;>simp_all
theorem aG.mono (hi:ι.le ι') (hm:μ.le μ') {cs:List V} {xs:List Value} (h:aG ι μ cs xs):aG ι' μ' cs xs :=
 ⟨h.1,fun i v x hv hx=>(h.2 i v x hv hx).mono hi hm⟩
theorem aG.append {cs ds:List V} {xs ys:List Value} (h:aG ι μ cs xs) (h':aG ι μ ds ys):aG ι μ (cs++ds) (xs++ys):=by
 induction cs generalizing xs with
 |nil=>rw [h.of_nil];simpa using h'
 |cons c cs ih=>obtain ⟨x,r,rfl,h1,h2⟩:=h.bA;exact .cons h1 (ih h2)
theorem aG.drop {cs:List V} {xs:List Value} (h:aG ι μ cs xs) (k:Nat):aG ι μ (cs.drop k) (xs.drop k) :=
 ⟨by simp [h.1],fun i v x hv hx=>h.2 (k+i) v x (by simpa using hv) (by simpa using hx)⟩
theorem aG.take {cs:List V} {xs:List Value} (h:aG ι μ cs xs) (k:Nat):aG ι μ (cs.take k) (xs.take k) :=
 ⟨by simp [h.1],fun i v x hv hx=>by
  rw [List.getElem?_take] at hv hx
  split at hv
  ·rename_i hk;rw [if_pos hk] at hx;exact h.2 i v x hv hx
  ·simp at hv⟩
theorem aG.at {cs:List V} {xs:List Value} (h:aG ι μ cs xs) {i:Nat} {v:V} (hv:cs[i]?=some v):∃x,xs[i]?=some x∧Rel ι μ v x:=by
 have hi:=(List.getElem?_eq_some_iff.1 hv).1
 exact ⟨xs[i]'(by rw [←h.1];exact hi),by simp,h.2 i v _ hv (by simp)⟩
theorem aG.qM {cs vs:List V} {off k:Nat} {xs:List Value} (h:aG ι μ cs xs) (hc:cut off k cs=some vs):aG ι μ vs ((xs.drop off).take k)∧vs.length=k∧off+k≤xs.length:=by
 unfold cut at hc
 split at hc
 ·rename_i hk
  cases hc
  exact ⟨(h.drop off).take k,by simp;omega,by rw [←h.1];exact hk⟩
 ·cases hc
end rell
theorem Rel.cells {ι:aj} {μ:Mu} {v:V} {x:Value} (h:Rel ι μ v x) {cs:List V} (hv:v.cells?=some cs):aG ι μ cs x.cells.toList∧∀u∈x.cells.toList,u.oneCell'=true:=by
 cases h
 case any=>cases hv
 case cK=>cases hv
 case cb=>cases hv
 case agg cs xs h1 h2 h3 =>
  cases hv
  exact ⟨⟨by simpa [Value.cells] using h1,fun i v x hv hx=>h2 i v x hv (by simpa [Value.cells] using hx)⟩,h3⟩
 case eL t xs h =>
  obtain ⟨a,cap,e,hl,hx⟩:=h
  cases e
  cases hv
  exact ⟨.cons (.eL t xs _ ⟨a,cap,rfl,hl,hx⟩) .nil,by simp [Value.cells,Value.oneCell']⟩
 case ff cs b o g h1 h2 h3=>cases hv;exact ⟨.cons (.ff cs b o g h1 h2 h3) .nil,by simp [Value.cells,Value.oneCell']⟩
 case fn f fs cs xs ys h1 h2 h3 h4=>cases hv;exact ⟨.cons (.fn f fs cs xs ys h1 h2 h3 h4) .nil,by simp [Value.cells,Value.oneCell']⟩
 all_goals
  cases hv
  refine ⟨.cons ?_ .nil,by simp [Value.cells,Value.oneCell']⟩
  first
   |(constructor;done)
   |(constructor<;>assumption)
theorem zw {ι:aj} {μ:Mu} {g:Bool} {cs:List V} {xs:List Value} {v:Value} (h:iq g xs=some v) (hr:aG ι μ cs xs) (h1:∀u∈xs,u.oneCell'=true):Rel ι μ (cw.iS g cs) v:=by
 cases g with
 |true =>
  cases h
  exact .agg _ _ (by simpa using hr.1) (fun i v x hv hx=>hr.2 i v x hv (by simpa using hx)) (by simpa using h1)
 |false =>
  match xs,h with
  |[c],h =>
   cases h
   match cs,hr with
   |[v'],hr=>exact hr.2 0 v' _ rfl rfl
   |[],hr=>exact absurd hr.1 (by simp)
   |_::_::_,hr=>exact absurd hr.1 (by simp)
theorem eP {ι : aj} {μ : Mu} : ∀ {t : Ty} {x : t.den} {vs : List Value}, af ι t x vs → aG ι μ (cw t x) vs
 | .unit,_,_,h=>by simp [af] at h;subst h;exact .nil
 | .bool,_,_,h=>by simp [af] at h;subst h;exact .cons (.bool _) .nil
 | .str,_,_,h=>by simp [af] at h;subst h;exact .cons (.str _) .nil
 | .int _,_,_,h=>by simp [af] at h;subst h;exact .cons (.int _ _) .nil
 | .list t,xs,_,h=>by
  obtain ⟨a,cap,e,hl,hx⟩:=h
  subst e
  exact .cons (.eL t xs _ ⟨a,cap,rfl,hl,hx⟩) .nil
 | .prod _ _,_,_,⟨us,ws,e,h1,h2⟩=>by subst e;exact (eP h1).append (eP h2)
 | .cq d g t,x,_,⟨xs,v,h1,h2,h3⟩=>by
  subst h3
  exact .cons (.cq d _ v (zw h2 (eP h1) (af.one h1))) .nil
def iz (ι:aj) (μ:Mu) (id:Nat) (t:Ty) (xs:List t.den):Prop :=
 (xs=[]∧μ id=none)∨∃L vs,μ id=some L∧Reads ι L.b L.ba vs∧bp (af ι t) xs vs∧xs.length=L.len
def Fy:List Int:=[0,1,56,2,57,49,28,3,61,58,42,50,38,29,17,4,62,47,59,36,45,43,51,22,53,39,33,30,24,18,12,5,63,55,48,27,60,41,37,16,46,35,44,21,52,32,23,11,54,26,40,15,34,20,31,10,25,14,19,9,13,8,7,6]
def oT (P:Program) (g:Nat):Option (List Int):=match P.globals[g]? with
 |some gl=>if gl.name == "math/bits.deBruijn64tab" then some Fy else none
 |none=>none
def ji (P:Program) (ι:aj):Prop:=∀g dz,oT P g=some dz→Reads ι g 0 (dz.map fun z=>Value.int .u8 z)
theorem ji.mono {P:Program} {ι ι':aj} (h:ji P ι) (hi:ι.le ι'):ji P ι':=fun g dz hg=>(h g dz hg).mono hi
theorem ji.rel {P:Program} {ι:aj} (h:ji P ι) (μ:Mu) {g:Nat} {dz:List Int} (hg:oT P g=some dz):Rel ι μ (.lg (.int .u8) dz) (.pointer (some ⟨g,0,none⟩)):=by
 refine .lg (.int .u8) dz g 0 (dz.map fun z=>Value.int .u8 z) (h g dz hg) ?_
 clear hg
 induction dz with
 |nil=>rfl
 |cons z r ih=>exact ⟨[.int .u8 z],_,rfl,rfl,ih⟩
theorem ji.none {P:Program} (h:(List.range P.globals.size).all (fun g=>(oT P g).isNone)=true) (ι:aj):ji P ι:=fun g dz hg=>by
 have hs:g<P.globals.size:=by
  unfold oT at hg
  split at hg
  ·rename_i gl h';exact (Array.getElem?_eq_some_iff.1 h').1
  ·cases hg
 have:=List.all_eq_true.1 h g (List.mem_range.2 hs)
 rw [hg] at this;cases this
theorem dV {t t':Ty} {xs:List t.den} {ys:List t'.den} (h:jY t t' xs=some ys):∃e:t=t',ys=e▸xs:=by
 unfold jY at h
 split at h
 ·rename_i e;cases h;exact ⟨e,rfl⟩
 ·cases h
theorem zx {ι:aj} {μ:Mu} {t:Ty} {v:V} {x:Value} (h:Rel ι μ v x):Rel ι μ (Hy t v) x:=by
 unfold Hy
 split
 ·cases h;exact .eL _ _ _ ⟨_,0,rfl,Nat.le_refl _,.inl rfl⟩
 ·cases h;exact .bool _
 ·exact h
theorem tT {ι : aj} {μ : Mu} : ∀ {ts : List Ty} {cs : List V} {xs : List Value}, aG ι μ cs xs → aG ι μ (AZ ts cs) xs
 |[],cs,xs,h=>by cases cs<;>exact h
 |t::ts,[],xs,h=>h
 |t::ts,c::cs,xs,h=>by
  obtain ⟨x,r,rfl,h1,h2⟩:=h.bA
  exact .cons (zx h1) (tT h2)
theorem JN {ι:aj} {μ:Mu} {ty:Option Ty} {v:V} {x:Value} (h:Rel ι μ v x):Rel ι μ (LW ty v) x:=by
 unfold LW
 split
 ·exact h
 ·rename_i t
  split
  ·rename_i cs
   cases h with
   |agg _ xs h1 h2 h3 =>
    have:=tT (ts:=uU t) (ι:=ι) (μ:=μ) (cs:=cs) (xs:=xs.toList) ⟨by simpa using h1,fun i v x hv hx=>h2 i v x hv (by simpa using hx)⟩
    exact .agg _ _ (by simpa using this.1) (fun i v x hv hx=>this.2 i v x hv (by simpa using hx)) h3
  ·exact zx h
theorem l8 {ι : aj} {μ : Mu} : ∀ {ts : List (Option Ty)} {cs : List V} {xs : List Value}, aG ι μ cs xs → aG ι μ (cO ts cs) xs
 |[],cs,xs,h=>by cases cs<;>exact h
 |t::ts,[],xs,h=>h
 |t::ts,c::cs,xs,h=>by
  obtain ⟨x,r,rfl,h1,h2⟩:=h.bA
  exact .cons (JN h1) (l8 h2)
end Go.AM
end
section
namespace Go.AM
def LX : Value → Option V
 | .bool b=>some (.tf b)
 | .int k n=>some (.int k n)
 | .string s=>some (.str s)
 | .slice none 0 0=>some .bW
 | .pointer none=>some .eB
 | .nilFunc=>some .cF
 | .nilIface=>some .eX
 | .map none=>some .cC
 |_=>none
def yR : List Value → Option (List V)
 |[]=>some []
 |v::r=>match LX v,yR r with
  |some x,some xs=>some (x::xs)
  |_,_=>none
def ofC : Value → Option V
 | .agg cs=>match yR cs.toList with
  |some vs=>some (.agg vs)
  |none=>none
 |v=>LX v
def dA : Operand → Option O
 | .tmp t=>some (.t t)
 | .const v=>match ofC v with
  |some x=>some (.c x)
  |none=>none
 | .func f=>some (.c (.fn f [] []))
 | .global _=>none
def vO : List Operand → Option (List O)
 |[]=>some []
 |x::r=>match dA x,vO r with
  |some y,some ys=>some (y::ys)
  |_,_=>none
def Wl : Operand → Operand → Option O
 | .tmp n,.tmp m=>if n=m then some (.t n) else none
 | .const (.int k n),.const (.int k' m)=>if k=k'∧n=m then some (.c (.int k n)) else none
 |_,_=>none
def CR (g : TypeId → Option Ty) : List Field → Option Ty
 |[]=>some .unit
 |[f]=>g f.type
 |f::r=>match g f.type,CR g r with
  |some a,some b=>some (.prod a b)
  |_,_=>none
def UF : Nat → Ty → Ty
 |0,_=>.unit
 |1,t=>t
 |n+2,t=>.prod t (UF (n+1) t)
def aaL (P:Program) (ms:Array (String×TypeId)):Option Nat:=(List.range P.types.size).find? fun t=>match P.underlying t with
 |some (.struct _)=>match P.info? t with
  |some i => !ms.isEmpty&&ms.all fun (n,_)=>i.methods.any fun m=>m.name==n&&m.path.isEmpty&&(match m.func with
   |some (_,false)=>true
   |_=>false)
  |none=>false
 |_=>false
def pJ (P : Program) : Nat → TypeId → Option Ty
 |0,_=>none
 |n+1,t=>match P.underlying t with
  |some .bool=>some .bool
  |some (.int k)=>some (.int k)
  |some .string=>some .str
  |some (.slice e)=>(pJ P n e).map .list
  |some (.struct fs)=>match fs.toList with
   |[f]=>(pJ P n f.type).map fun a=>.prod a .unit
   |fs=>CR (pJ P n) fs
  |some (.array m e)=>(pJ P n e).map (UF m)
  |some (.interface ms)=>match aaL P ms with
   |some d=>(pJ P n d).map (.cq d true)
   |none=>none
  |_=>none
def cW (P:Program) (t:TypeId):Option Nat:=(P.info? t).map (·.size)
def sE (P:Program) (t:TypeId):Option Bool:=match P.underlying t with
 |some (.struct _)=>some true
 |some (.array _ _)=>some true
 |some _=>some false
 |none=>none
def tU : Ty → Value → Bool
 | .bool,.bool b => !b
 | .str,.string s=>s.size==0
 | .int k,.int k' n=>decide (k=k')&&n==0
 | .list _,.slice none 0 0=>true
 |_,_=>false
def dW : Ty → List Value → Option (List Value)
 | .unit,vs=>some vs
 | .prod a b,vs=>match dW a vs with
  |some r=>dW b r
  |none=>none
 | .bool,v::r=>if tU .bool v then some r else none
 | .str,v::r=>if tU .str v then some r else none
 | .int k,v::r=>if tU (.int k) v then some r else none
 | .list t,v::r=>if tU (.list t) v then some r else none
 | .cq _ _ _,_::_=>none
 |_,[]=>none
def Hz (t : Ty) : Nat → List Value → Option (List Value)
 |0,vs=>some vs
 |n+1,vs=>match dW t vs with
  |some r=>Hz t n r
  |none=>none
def A2 : Ty → Bool
 | .unit=>true
 | .bool=>true
 | .str=>true
 | .int _=>true
 | .prod a b=>A2 a&&A2 b
 |_=>false
def UG (P:Program) (e:TypeId):Option (Ty×Nat):=match P.underlying e with
 |some (.array m el)=>match pJ P 8 el,cW P el with
  |some ty,some k=>if ty.sz=k∧1≤k∧m≤64∧A2 ty=true∧cW P e=some (m * k) then some (ty,m) else none
  |_,_=>none
 |_=>none
def Fz : Value → Bool
 | .agg _=>true
 |_=>false
def zy (P:Program) (e:TypeId):Option (Ty×Bool):=match pJ P 8 e,sE P e,P.info? e with
 |some ty,some g,some i=>match i.zero with
  |some z=>match dW ty z.cells.toList with
   |some []=>if Fz z=g then some (ty,g) else none
   |_=>none
  |none=>none
 |_,_,_=>none
def QJ (P:Program) (name:String):List (Nat×Nat):=(List.range P.types.size).filterMap fun t=>match P.info? t with
 |some i=>match i.methods.find? (·.name==name) with
  |some m=>if m.path.isEmpty then (match m.func,P.underlying t with
   |some (f,true),some (.pointer _)=>some (t,f)
   |some (_,true),_=>none
   |some (_,false),some (.pointer _)=>none
   |some (f,false),some _=>some (t,f)
   |_,_=>none) else none
  |none=>none
 |none=>none
def UH (n f:Nat):List Bool:=if n=1 then [false] else if f+1=n then List.replicate f true else List.replicate f true++[false]
def vP : BinOp → Option yN
 | .add=>some .add
 | .sub=>some .sub
 | .mul=>some .mul
 | .quo=>some .quo
 | .rem=>some .rem
 | .and=>some .and
 | .or=>some .or
 | .xor=>some .xor
 | .andNot=>some .andNot
 | .shl=>some .shl
 | .shr=>some .shr
 | .eql=>some .eql
 | .neq=>some .neq
 | .lss=>some .lss
 | .leq=>some .leq
 | .gtr=>some .gtr
 | .geq=>some .geq
def l9:Nat:=1024
def jZ (P:Program) (e:TypeId):Option Nat:=match P.info? e with
 |some i=>match i.zero with
  |some z=>if i.bytes≤l9∧z.cells.size=i.size then some i.size else none
  |none=>none
 |none=>none
def partsOf (place : Nat → Option (Nat × Nat)) : List (Nat × Operand) → Option (List (Nat × Nat × O))
 |[]=>some []
 |(i,x)::r=>match place i,dA x,partsOf place r with
  |some (off,k),some y,some ys=>some ((off,k,y)::ys)
  |_,_,_=>none
def uW : Nat → List (Nat × Operand) → Option (List O)
 |_,[]=>some []
 |n,(i,x)::r=>if i=n then (match dA x,uW (n+1) r with
  |some y,some ys=>some (y::ys)
  |_,_=>none) else none
def A3 : Option Operand → Option (Option O)
 |none=>some none
 |some x=>(dA x).map some
def qN (P:Program) (s:TypeId) (f:Nat):Option (Field×Nat):=match P.underlying s with
 |some (.struct fs)=>match fs[f]? with
  |some fd=>some (fd,fs.size)
  |none=>none
 |_=>none
def lu : BinOp → Option Bool
 | .eql=>some false
 | .neq=>some true
 |_=>none
def tV (P : Program) : Nat → List Field → Option (List Kd)
 |_,[]=>some []
 |n,f::r=>if f.name ≠ "_" ∧ f.offset=n then (match P.underlying f.type,tV P (n+1) r with
  |some .bool,some ks=>some (.b::ks)
  |some (.int _),some ks=>some (.i::ks)
  |some .string,some ks=>some (.s::ks)
  |_,_=>none) else none
def LY (P:Program) (t:TypeId):Option (List Kd):=match P.underlying t with
 |some (.struct fs)=>if P.stoodInHeld t=false∧(P.info? t).isSome then (match tV P 0 fs.toList with
  |some ks=>if P.cellsOf t=ks.length then some ks else none
  |none=>none) else none
 |_=>none
def QK (P:Program) (t:TypeId):Option (List Kd):=match P.underlying t with
 |some (.array m e)=>(match P.underlying e with
  |some (.int _)=>if P.cellsOf e=1∧(P.info? e).isSome∧(P.info? t).isSome∧P.cellsOf t=m then some (List.replicate m .i) else none
  |_=>none)
 |_=>none
def iA (P : Program) : Nat → List Field → Option (List Kd)
 |_,[]=>some []
 |n,f::r=>if f.name ≠ "_" ∧ f.offset=n then (match P.underlying f.type with
  |some .bool=>(iA P (n+1) r).map (.b::·)
  |some (.int _)=>(iA P (n+1) r).map (.i::·)
  |some .string=>(iA P (n+1) r).map (.s::·)
  |some (.struct _)=>(match LY P f.type with
   |some ks=>(iA P (n+ks.length) r).map (ks++·)
   |none=>none)
  |some (.array _ _)=>(match QK P f.type with
   |some ks=>(iA P (n+ks.length) r).map (ks++·)
   |none=>none)
  |_=>none) else none
def structEq (P:Program) (t:TypeId):Option (List Kd):=match P.underlying t with
 |some (.struct fs)=>if P.eqGuardType P.depth t=false∧P.stoodInHeld t=false then iA P 0 fs.toList else none
 |some (.array _ _)=>if P.eqGuardType P.depth t=false then QK P t else none
 |_=>none
def bD : Ty → Option (List Kd)
 | .unit=>some []
 | .bool=>some [.b]
 | .str=>some [.s]
 | .int _=>some [.i]
 | .prod a b=>match bD a,bD b with
  |some x,some y=>some (x++y)
  |_,_=>none
 |_=>none
def vQ (P:Program) (k:TypeId):Option (Ty×Bool):=match P.underlying k with
 |some (.int i)=>some (.int i,false)
 |some .string=>some (.str,false)
 |some (.struct fs)=>match pJ P 8 k,tV P 0 fs.toList with
  |some ty,some ks=>if bD ty=some ks∧P.stoodInHeld k=false then some (ty,true) else none
  |_,_=>none
 |_=>none
def j4 (P:Program) (t:TypeId):Option (Ty×Bool×Ty×Bool):=match P.underlying t with
 |some (.map k e)=>match vQ P k,zy P e with
  |some (kt,kg),some (vt,vg)=>some (kt,kg,vt,vg)
  |_,_=>none
 |_=>none
def trB (P:Program) (b:Builtin) (tys:List TypeId) (args:List Operand):Option I :=
 match b,tys,args with
 | .len,[t],[x]=>match P.underlying t with
  |some .string=>(dA x).map .lens
  |some (.slice _)=>(dA x).map .len
  |some (.array n _)=>some (.yP n)
  |some (.map _ _)=>(dA x).map fun x=>.ex .QB [x]
  |some (.pointer a)=>match P.underlying a with
   |some (.array n _)=>some (.yP n)
   |_=>none
  |_=>none
 | .append,[t,u],[x,y]=>match P.underlying t,P.underlying u with
  |some (.slice e),some (.slice _)=>match jZ P e,dA x,dA y with
   |some k,some x,some y=>some (.append k x y)
   |_,_,_=>none
  |some (.slice e),some (.int _)=>match pJ P 8 e,jZ P e,P.info? e with
   |some ty,some k,some i=>match i.zero with
    |some z=>match dW ty z.cells.toList with
     |some []=>match dA x,dA y with
      |some x,some y=>if ty.sz=k∧z.cells.size=k then some (.ex (.Wj ty) [x,y]) else none
      |_,_=>none
     |_=>none
    |none=>none
   |_,_,_=>none
  |_,_=>none
 | .cap,[t],[x]=>match P.underlying t with
  |some (.slice _)=>(dA x).map fun x=>.ex .capn [x]
  |_=>none
 | .clear,[t],[x]=>match P.underlying t with
  |some (.slice e)=>match pJ P 8 e,jZ P e,P.info? e with
   |some ty,some k,some i=>match i.zero with
    |some z=>match dW ty z.cells.toList with
     |some []=>if ty.sz=k∧z.cells.size=k then (dA x).map fun x=>.ex (.clear ty) [x] else none
     |_=>none
    |none=>none
   |_,_,_=>none
  |_=>none
 | .max,_,x::r=>match dA x,vO r with
  |some x,some ys=>some (.lS true x ys)
  |_,_=>none
 | .min,_,x::r=>match dA x,vO r with
  |some x,some ys=>some (.lS false x ys)
  |_,_=>none
 |_,_,_=>none
def zz (P:Program) (op:BinOp) (t:TypeId) (x y:Operand):Option I:=match y with
 | .const (.slice none 0 0)=>match P.underlying t,dA x,lu op with
  |some (.slice _),some x,some n=>some (.ex (.LP n) [x])
  |_,_,_=>none
 | .const (.map none)=>match P.underlying t,dA x,lu op with
  |some (.map _ _),some x,some n=>some (.ex (.Fm n) [x])
  |_,_,_=>none
 | .const (.pointer none)=>match P.underlying t,dA x,lu op with
  |some (.pointer _),some x,some n=>some (.ex (.Fo n) [x])
  |_,_,_=>none
 |y=>match dA x,dA y with
  |some x,some y=>match structEq P t with
   |some ks=>match lu op with
    |some n=>some (.eqs n ks x y)
    |none=>none
   |none=>match P.underlying t with
    |some .bool=>(lu op).map (.QD · x y)
    |some (.int _)=>(vP op).map (.bin · x y)
    |some .string=>(vP op).map (.bin · x y)
    |_=>none
  |_,_=>none
def sF (P:Program) (t:TypeId) (x i:Operand):Option I:=match x with
 | .global g=>match P.underlying t,oT P g,dA i with
  |some (.array n e),some dz,some i=>match P.underlying e,cW P e with
   |some (.int .u8),some 1=>if dz.length=n then some (.yO n 1 (.c (.lg (.int .u8) dz)) i) else none
   |_,_=>none
  |_,_,_=>none
 |_=>none
def CS (P:Program) (o:Op):Option I :=
 match o with
 | .move x=>(dA x).map .mv
 | .assign x=>(dA x).map .mv
 | .pick c a b=>match dA c,dA a,dA b with
  |some c,some a,some b=>some (.pick c a b)
  |_,_,_=>none
 | .alloc e=>match P.info? e with
  |some i=>match i.zero with
   |some z=>match UG P e with
    |some (ty,m)=>match Hz ty m z.cells.toList with
     |some []=>some (.ex (.Fp ty m) [])
     |_=>none
    |none=>(yR z.cells.toList).map .alloc
   |none=>none
  |none=>none
 | .box e x=>match UG P e with
  |some (ty,m)=>(dA x).map fun x=>.ex (.QC ty m) [x]
  |none=>(dA x).map .box
 | .build t parts=>match P.info? t,P.underlying t with
  |some it,some (.struct fields)=>match it.zero,fields.toList.mapM (fun f=>(P.info? f.type).map fun i=>(f.offset,i.size)) with
   |some z,some places=>match yR z.cells.toList,partsOf (places.toArray[·]?) parts.toList with
    |some z,some ps=>some (.build z ps)
    |_,_=>none
   |_,_=>none
  |some it,some (.array _ e)=>match it.zero,P.info? e with
   |some z,some ie=>match yR z.cells.toList,partsOf (fun i=>some (i * ie.size,ie.size)) parts.toList with
    |some z,some ps=>some (.build z ps)
    |_,_=>none
   |_,_=>none
  |_,_=>none
 | .buildSlice t n parts=>match P.underlying t with
  |some (.slice e)=>match pJ P 8 e,jZ P e,uW 0 parts.toList with
   |some ty,some k,some xs=>if ty.sz=k∧xs.length=n∧n * k≤2 ^ 20 then some (.dU ty xs) else none
   |_,_,_=>none
  |_=>none
 | .load t x=>match cW P t,sE P t,dA x with
  |some k,some g,some x=>some (.load g k x)
  |_,_,_=>none
 | .store t a x=>match cW P t,dA a,dA x with
  |some k,some a,some x=>some (.store k a x)
  |_,_,_=>none
 | .binOp op t x y _=>zz P op t x y
 | .nilCheck x=>(dA x).map fun x=>.ex .iQ [x]
 | .unOp .neg _ x=>(dA x).map .neg
 | .unOp .not _ x=>(dA x).map .not
 | .convert s d x=>match P.underlying s,P.underlying d with
  |some (.int _),some (.int k)=>(dA x).map (.conv k)
  |some .string,some (.slice e)=>match P.underlying e with
   |some (.int .u8)=>(dA x).map fun x=>.ex .bytes [x]
   |_=>none
  |some (.slice e),some .string=>match P.underlying e with
   |some (.int .u8)=>(dA x).map fun x=>.ex .text [x]
   |_=>none
  |_,_=>none
 | .makeFunc (.func f) a b=>match vO a.toList,vO b.toList with
  |some a,some b=>some (.AS f a b)
  |_,_=>none
 | .makeSlice t n m=>match Wl n m with
  |some xn=>(match P.underlying t with
  |some (.slice e)=>match pJ P 8 e,jZ P e,P.info? e with
   |some ty,some k,some i=>match i.zero with
    |some z=>match dW ty z.cells.toList with
     |some []=>if ty.sz=k∧z.cells.size=k then some (.iM ty xn) else none
     |_=>none
    |none=>none
   |_,_,_=>none
  |_=>none)
  |none=>none
 | .slice t x lo hi mx=>match P.underlying t with
  |some (.slice e)=>match cW P e,dA x,A3 lo,A3 hi,A3 mx with
   |some k,some x,some lo,some hi,some mx=>some (.slice k x lo hi mx)
   |_,_,_,_,_=>none
  |_=>none
 | .fieldAddr s x f=>match qN P s f with
  |some (fd,n)=>match cW P fd.type,dA x with
   |some (_+1),some x=>some (.mL fd.offset (UH n f) x)
   |_,_=>none
  |none=>none
 | .field s x f=>match qN P s f with
  |some (fd,_)=>match cW P fd.type,sE P fd.type,dA x with
   |some k,some g,some x=>some (.field g fd.offset k x)
   |_,_,_=>none
  |none=>none
 | .indexAddr t x i=>match P.underlying t,dA x,dA i with
  |some (.slice e),some x,some i=>(cW P e).map fun k=>.idx k x i
  |some (.array n e),some x,some (.c (.int _ (.ofNat m)))=>match cW P e with
   |some (k+1)=>if m<n then some (.mL (m * (k+1)) (UH n m) x) else none
   |_=>none
  |some (.array n e),some x,some i=>(cW P e).map fun k=>.yO n k x i
  |_,_,_=>sF P t x i
 | .index t x i=>match P.underlying t,dA x,dA i with
  |some (.array n e),some x,some i=>match cW P e,sE P e with
   |some (k+1),some g=>some (.ex (.LO n (k+1) g) [x,i])
   |_,_=>none
  |some .string,some x,some i=>some (.ex .vN [x,i])
  |_,_,_=>none
 | .makeMap t none=>match j4 P t with
  |some (kt,kg,vt,vg)=>some (.ex (.iR kt kg vt vg) [])
  |none=>none
 | .lookup t x i ok=>match j4 P t,dA x,dA i with
  |some (kt,kg,vt,vg),some x,some i=>some (.ex (.gb kt kg vt vg ok) [x,i])
  |_,_,_=>none
 | .mapUpdate t m k v=>match j4 P t,dA m,dA k,dA v with
  |some (kt,kg,vt,vg),some m,some k,some v=>some (.ex (.iy kt kg vt vg) [m,k,v])
  |_,_,_,_=>none
 | .makeInterface t x=>match P.underlying t with
  |some (.interface _)=>none
  |some _=>(dA x).map fun x=>.ex (.mkif t) [x]
  |none=>none
 | .panic _=>some (.ex .vN [])
 | .range _ _=>some (.ex .vN [])
 | .next _ _=>some (.ex .vN [])
 | .entry _=>some (.ex .vN [])
 | .extract x k=>(dA x).map (.ext k)
 | .call { callee:=.builtin b,args,argTypes }=>trB P b argTypes.toList args.toList
 |_=>none
def trG (ops : Array Oper) : Option (Nat × Bool) → Option (Option (Nat × Bool))
 |none=>some none
 |some (j,b)=>match ops[j]? with
  |some o=>match o.dst with
   |some d=>some (some (d,b))
   |none=>none
  |none=>none
def qO (N : Nat) : Option Nat → Bool
 |none=>true
 |some d=>d<N
def mM (P : Program) : Callee → Option O
 | .value f=>dA f
 | .invoke (.tmp t) name=>some (.m t (QJ P name))
 |_=>none
def rawF (P:Program) (f:Nat):Bool:=match P.funcs[f]? with
 |some f=>(Nat.beq f.targs.size 1||(Nat.beq f.params.size 2&&(match f.params[1]? with
   |some t=>(match P.underlying t with
    |some (.int _)=>true
    |some (.func _ rs _)=>Nat.beq rs.size 0
    |_=>false)
   |none=>false)))&&Nat.beq f.resultTypes.size 1&&(match f.params[0]?,f.resultTypes[0]? with
  |some a,some b=>Nat.beq a b
  |_,_=>false)
 |none=>false
def iO (P:Program) (f:O) (tys:Array TypeId):List (Option Ty):=match f with
 | .c (.fn f [] [])=>match rawF P f with
  |true=>hTs (tys.toList.map (pJ P 8))
  |false=>tys.toList.map (pJ P 8)
 |_=>tys.toList.map (pJ P 8)
def pO (P:Program) (N:Nat) (ops:Array Oper) (o:Oper):Option eN :=
 if qO N o.dst then
  match trG ops o.guard with
  |none=>none
  |some g =>
   match o.op with
   | .call { callee:=.value f,args,argTypes }=>match dA f,vO args.toList with
    |some f,some args=>some (.call o.dst g f args (iO P f argTypes))
    |_,_=>none
   | .call { callee:=.invoke r name,args,argTypes }=>match mM P (.invoke r name),vO args.toList with
    |some f,some args=>some (.call o.dst g f args (iO P f argTypes))
    |_,_=>none
   |op=>match CS P op with
    |some i=>some (.op o.dst g i)
    |none=>none
 else none
def dX (P : Program) (N : Nat) (ops : Array Oper) : List Oper → Option (List eN)
 |[]=>some []
 |o::r=>match pO P N ops o,dX P N ops r with
  |some i,some is=>some (i::is)
  |_,_=>none
def bN (ops:Array Oper):List (List Nat):=(Region.before ops).toList.map fun m=>(List.range ops.size).filter fun j=>m.testBit j
def I.os : I → List O
 | .mv x=>[x]
 | .pick c a b=>[c,a,b]
 | .alloc _=>[]
 | .box x=>[x]
 | .build _ ps=>ps.map (·.2.2)
 | .dU _ xs=>xs
 | .load _ _ x=>[x]
 | .store _ a x=>[a,x]
 | .bin _ x y=>[x,y]
 | .QD _ x y=>[x,y]
 | .eqs _ _ x y=>[x,y]
 | .neg x=>[x]
 | .not x=>[x]
 | .conv _ x=>[x]
 | .mL _ _ x=>[x]
 | .field _ _ _ x=>[x]
 | .idx _ x i=>[x,i]
 | .yO _ _ x i=>[x,i]
 | .ext _ x=>[x]
 | .len x=>[x]
 | .lens x=>[x]
 | .yP _=>[]
 | .append _ x y=>[x,y]
 | .iM _ n=>[n]
 | .AS _ a b=>a++b
 | .slice _ x lo hi mx=>x::(lo.toList++hi.toList++mx.toList)
 | .lS _ x ys=>x::ys
 | .ex _ xs=>xs
def HA : O → List Nat
 | .t n=>[n]
 | .c _=>[]
 | .m n _=>[n]
def eN.dst : eN → Option Nat
 | .op d _ _=>d
 | .call d _ _ _ _=>d
def eN.Wm : eN → Option (Nat × Bool)
 | .op _ g _=>g
 | .call _ g _ _ _=>g
def eN.os : eN → List O
 | .op _ _ i=>i.os
 | .call _ _ f as _=>f::as
def eN.uses (i:eN):List Nat:=i.os.flatMap HA++(match i.Wm with
 |some (s,_)=>[s]
 |none=>[])
def A4 (d:Option Nat) (l:List Nat):Bool:=match d with
 |some t => !(l.contains t)
 |none=>true
def mN (a b:eN):Bool:=A4 a.dst b.uses&&A4 b.dst a.uses&&(match a.dst with
 |some t=>b.dst != some t
 |none=>true)
def qP (cS:List (List Nat)) (is:List eN):Bool :=
 (List.range is.length).all fun j=>(List.range j).all fun i=>((cS.getD j []).contains i)||(match is[i]?,is[j]? with
  |some a,some b=>mN a b
  |_,_=>true)
def gM (ops:Array Oper):Bool:=ops.toList.zipIdx.all fun (o,i)=>o.after.all fun e => !(Region.binds .any e)||decide (e.on<i)
def Wn : eN → Bool
 | .call _ _ _ _ _=>true
 |_=>false
def QL (cS:List (List Nat)) (n c:Nat):Bool:=(List.range n).all fun i=>decide (i<c)||(List.range i).all fun j=>(cS.getD i []).contains j
def CT : List eN → Nat → Option Nat → Option Nat
 |[],_,r=>r
 |i::l,k,r=>CT l (k+1) (match Wn i with
  |true=>some k
  |false=>r)
def HB (cS:List (List Nat)) (is:List eN):Option Nat:=match CT is 0 none with
 |some c=>match QL cS is.length c&&decide (c≤is.length) with
  |true=>some c
  |false=>none
 |none=>none
structure UI where
 pre:List eN
 m:O
 it:Nat
 cl:List Nat
 e:Option Nat
 kt:Ty
 kg:Bool
 vt:Ty
 vg:Bool
 pM:Nat
def LZ (P : Program) (N : Nat) : Code → Option (List eN × O × Nat × Ty × Bool × Ty × Bool)
 | .region _ ops false=>match ops.toList.reverse with
  |o::r=>match o.op with
   | .range t x=>match o.dst with
    |some it=>if o.guard=none∧it<N then (match j4 P t,dA x,dX P N ops r.reverse with
     |some (kt,kg,vt,vg),some m,some is=>some (is,m,it,kt,kg,vt,vg)
     |_,_,_=>none) else none
    |none=>none
   |_=>none
  |[]=>none
 |_=>none
def L5 (N it : Nat) : Code → Option (Nat × Nat)
 | .region _ ops false=>match ops.toList with
  |[o,o']=>match o.op with
   | .next (.tmp i) false=>match o.dst with
    |some n=>match o'.op with
     | .extract (.tmp n') 0=>match o'.dst with
      |some ok=>if o.guard=none∧o'.guard=none∧i=it∧n'=n∧n<N∧ok<N∧n≠it∧ok≠it then some (n,ok) else none
      |none=>none
     |_=>none
    |none=>none
   |_=>none
  |_=>none
 |_=>none
def sG (N it : Nat) : Code → Option Nat
 | .seq (.region _ ops false) _=>match ops.toList with
  |o::_=>match o.op with
   | .entry (.tmp i)=>match o.dst with
    |some e=>if o.guard=none∧i=it∧e<N∧e≠it then some e else none
    |none=>none
   |_=>none
  |[]=>none
 |_=>none
def vR (P:Program) (N:Nat) (a b:Code):Option UI:=match b with
 | .block b1 (.loop (.seq x (.seq (.cond (.tmp t) .skip (.exit b2)) (.block _ y))))=>match LZ P N a with
  |some (is,m,it,kt,kg,vt,vg)=>match L5 N it x with
   |some (n,ok)=>if t=ok∧b1=b2 then some ⟨is,m,it,[n,ok],sG N it y,kt,kg,vt,vg,b1⟩ else none
   |none=>none
  |none=>none
 |_=>none
def HC (e : Option Nat) : C → Option C
 | .block _ (.loop (.seq _ (.seq _ (.block b x))))=>match e with
  |none=>some (.block b x)
  |some _=>match x with
   | .seq (.aO (_::is)) r=>some (.block b (.seq (.aO is) r))
   |_=>none
 |_=>none
def fh (P : Program) (N : Nat) : Code → Option C
 | .skip=>some .skip
 | .label _=>some .skip
 | .scope c=>fh P N c
 | .region _ ops draw=>match dX P N ops ops.toList with
  |some is=>match draw with
   |true=>if qP (bN ops) is=true∧gM ops=true then some (match HB (bN ops) is with
    |some c=>.seq (.draw (bN ops) (is.take c)) (.aO (is.drop c))
    |none=>.draw (bN ops) is) else none
   |false=>some (.aO is)
  |none=>none
 | .seq a b=>match fh P N a,fh P N b with
  |some ca,some cb=>match vR P N a b with
   |none=>some (.seq ca cb)
   |some h=>match HC h.e cb with
    |some bd=>some (.gF h.pre h.m h.it h.cl h.e h.kt h.kg h.vt h.vg h.pM bd)
    |none=>none
  |_,_=>none
 | .cond c a b=>match dA c,fh P N a,fh P N b with
  |some c,some a,some b=>some (.cond c a b)
  |_,_,_=>none
 | .block id c=>(fh P N c).map (.block id)
 | .loop c=>(fh P N c).map .loop
 | .exit id=>some (.exit id)
 | .ret=>some .ret
 | .rangeFunc f ps a b=>match dA f,fh P N a,fh P N b with
  |some f,some a,some b=>some (.bF f ps.toList a b)
  |_,_,_=>none
 |_=>none
inductive RV where
 |t (n:Nat)
 |cell (n:Nat) (agg:Bool) (k:Nat)
structure Fn where
 N:Nat
 np:Nat
 body:C
 res:List RV
 tys:List (Option Ty)
def Ma (P : Program) : List ResultVar → Option (List RV)
 |[]=>some []
 | .tmp t::r=>(Ma P r).map (.t t::·)
 | .cell a t::r=>match cW P t,sE P t,Ma P r with
  |some k,some g,some rs=>some (.cell a g k::rs)
  |_,_,_=>none
def cM (P:Program) (f:Func):Option Fn:=match f.body with
 |some c=>match fh P f.ntmps c,Ma P f.results.toList with
  |some b,some rs=>if f.params.size+f.nfree≤f.ntmps then some ⟨f.ntmps,f.params.size+f.nfree,b,rs,f.resultTypes.toList.map (pJ P 8)⟩ else none
  |_,_=>none
 |none=>none
end Go.AM
end
section
namespace Go.AM
def QM (c:O) (b:Bool) (S:St):St:=match c with
 | .t n=>QI n b S
 | .c _=>S
 | .m _ _=>S
def dK : Nat → V → Bool
 |0,_=>false
 |n+1,v=>match v with
  | .sl _ _ _ _=>false
  | .ptr _ _=>false
  | .ep _ _ _ _=>false
  | .yl _=>false
  | .mp _=>false
  | .pa _ _ _=>false
  | .sp _ _ _=>false
  | .ff cs=>cs.all (dK n)
  | .fn _ a b=>a.all (dK n)&&b.all (dK n)
  | .agg cs=>cs.all (dK n)
  | .cK cs=>cs.all (dK n)
  | .cq _ v=>dK n v
  |_=>true
def dh (g : V → Option V) : List V → Option (List V)
 |[]=>some []
 |v::r=>match g v with
  |some x=>match dh g r with
   |some xs=>some (x::xs)
   |none=>none
  |none=>none
def fin (ar : Ar) (bl : ai) : Nat → V → Option V
 |0,_=>none
 |n+1,v=>match v with
  | .sl id t lo m=>match aq id bl with
   |some (.arr t' xs _)=>if t=t' then some (.eL t' (ar.sub' xs lo m)) else none
   |_=>none
  | .ptr id off=>match aq id bl with
   |some (.cells cs _)=>match dh (fin ar bl n) cs with
    |some ds=>if off≤ds.length then some (.ff (ds.drop off)) else none
    |none=>none
   |_=>none
  | .ep _ _ _ _=>none
  | .yl _=>none
  | .mp _=>none
  | .sp _ _ _=>none
  | .pa id t m=>match aq id bl with
   |some (.arr t' xs _)=>if t=t' then some (.lg t' xs) else none
   |_=>none
  | .fn f a b=>match dh (fin ar bl n) a,dh (fin ar bl n) b with
   |some a,some b=>some (.fn f a b)
   |_,_=>none
  | .agg cs=>match dh (fin ar bl n) cs with
   |some cs=>some (.agg cs)
   |none=>none
  | .cK cs=>match dh (fin ar bl n) cs with
   |some cs=>some (.cK cs)
   |none=>none
  | .cq t v=>match fin ar bl n v with
   |some v=>some (.cq t v)
   |none=>none
  | .ff cs=>if cs.all (dK n) then some (.ff cs) else none
  |v=>some v
def uC : V → List Nat
 | .sl id _ _ _=>[id]
 | .ptr id _=>[id]
 | .ep id _ _ _=>[id]
 | .mp id=>[id]
 | .pa id _ _=>[id]
 | .sp id _ _=>[id]
 |_=>[]
def qQ : V → List Nat
 | .agg cs=>cs.flatMap uC
 |v=>uC v
def mP (i:I) (env:List (Nat×V)):List Nat:=match i with
 | .load _ _ x=>uC (x.ev env)
 | .store _ a x=>uC (a.ev env)++qQ (x.ev env)
 | .dU _ xs=>(xs.map (·.ev env)).flatMap qQ
 | .append _ x y=>uC (x.ev env)++uC (y.ev env)
 | .ex _ xs=>(xs.map (·.ev env)).flatMap qQ
 |_=>[]
def A5 (x : Nat) : List Nat → Bool
 |[]=>false
 |y::r=>match Nat.beq y x with
  |true=>true
  |false=>A5 x r
def zA : List Nat → List Nat → Bool
 |[],_=>true
 |x::r,l=>match A5 x l with
  |true=>false
  |false=>zA r l
structure DR where
 k:Nat
 rd:List Nat
 wr:List Nat
def A6 (cS:List (List Nat)) (a b:DR):Bool :=
 match A5 a.k (cS.getD b.k []) with
 |true=>true
 |false=>match zA a.wr b.rd with
  |false=>false
  |true=>match zA a.wr b.wr with
   |false=>false
   |true=>zA a.rd b.wr
def HD (cS : List (List Nat)) (a : DR) : List DR → Bool
 |[]=>true
 |b::r=>match A6 cS a b with
  |true=>HD cS a r
  |false=>false
def Mb (cS : List (List Nat)) : List DR → Bool
 |[]=>true
 |a::r=>match HD cS a r with
  |true=>Mb cS r
  |false=>false
def vS (k:Nat) (rd wr:List Nat) (dc:List DR):List DR:=match rd,wr with
 |[],[]=>dc
 |_,_=>dc++[⟨k,rd,wr⟩]
def HE : V → Bool
 | .bool _=>true
 | .tf _=>true
 | .int _ _=>true
 | .str _=>true
 |_=>false
def Mc : V → Bool
 | .bool _=>true
 | .tf _=>true
 | .int _ _=>true
 | .str _=>true
 | .agg vs=>vs.all HE
 |_=>false
def CU : V → Bool
 | .bool _=>true
 | .tf _=>true
 | .int _ _=>true
 | .str _=>true
 | .agg vs=>vs.all HE
 | .cK vs=>vs.all Mc
 |_=>false
def CV (gs:List Nat) (d:Option Nat) (v:V) (env:List (Nat×V)) (K:List (Nat×V)→Prop):Prop:=match d with
 |none=>K env
 |some t=>match A5 t gs with
  |false=>K (AY t v env)
  |true=>match v with
   | .bool c=>Br c (fun _=>K (AY t (.tf true) env)) (fun _=>K (AY t (.tf false) env))
   |v=>K (AY t v env)
def HF (g:Option (Nat×Bool)) (env:List (Nat×V)):Option Bool:=match g with
 |none=>some true
 |some (s,b)=>match get s env with
  | .tf c=>match c,b with
   |true,true=>some true
   |false,false=>some true
   |_,_=>some false
  | .cK _=>some false
  |_=>none
def fC (bl : ai) : Nat → V → List Nat
 |0,_=>[]
 |n+1,v=>match v with
  | .sl id _ _ _=>[id]
  | .pa id _ _=>[id]
  | .ptr id _=>id::(match aq id bl with
   |some (.cells cs _)=>cs.flatMap (fC bl n)
   |_=>[])
  | .fn _ a b=>a.flatMap (fC bl n)++b.flatMap (fC bl n)
  | .agg cs=>cs.flatMap (fC bl n)
  | .cK cs=>cs.flatMap (fC bl n)
  | .cq _ v=>fC bl n v
  |_=>[]
def jB (bl:ai) (vs:List V):List Nat:=vs.flatMap (fC bl 8)
def vT : List Nat → ai → Option eC
 |[],_=>some []
 |id::r,bl=>match aq id bl with
  |some (.arr t xs _)=>match vT r ((id,.arr t xs true)::bn id bl) with
   |some u=>some ((id,some (.arr t xs true))::u)
   |none=>none
  |some (.cells cs _)=>match vT r ((id,.cells cs true)::bn id bl) with
   |some u=>some ((id,some (.cells cs true))::u)
   |none=>none
  |_=>none
def HG (b:Bool) (ids:List Nat) (bl:ai):Option eC:=match b with
 |true=>some []
 |false=>vT ids bl
def vU (o:Out) (K:V→eC→Prop):Prop:=match o with
 |some (ob,v,u)=>uB ob∧K v u
 |none=>False
theorem vV {o:Out} {K:V→eC→Prop} (h:vU o K):∃ob v u,o=some (ob,v,u)∧uB ob∧K v u:=by
 unfold vU at h
 split at h
 ·exact ⟨_,_,_,rfl,h.1,h.2⟩
 ·exact h.elim
theorem zB {o:Out} {K:V→eC→Prop} {ob:List Bool} {v:V} {u:eC} (h:o=some (ob,v,u)) (cV:uB ob) (hk:K v u):vU o K:=by
 subst h;exact ⟨cV,hk⟩
def qR (ar : Ar) (gs : List Nat) (b : Nat) : List eN → Nat → List (Nat × V) → ai → List DR → (List (Nat × V) → ai → List DR → Prop) → Prop
 |[],_,env,bl,dc,K=>K env bl dc
 | .op d g i::r,k,env,bl,dc,K=>match HF g env with
  |some true=>vU (bX ar i env bl (b+k)) (fun v u=>CV gs d v env fun env'=>qR ar gs b r (k+1) env' (bw u bl) (vS k (mP i env) (u.map (·.1)) dc) K) ∨
   vU (yQ ar i env bl (b+k)) (fun v u=>CV gs d v env fun env'=>qR ar gs b r (k+1) env' (bw u bl) (vS k (mP i env) (u.map (·.1)) dc) K)
  |some false=>qR ar gs b r (k+1) (put d (.cK []) env) bl dc K
  |none=>False
 | .call d g f a tys::r,k,env,bl,dc,K=>match HF g env with
  |some true=>match f.ev env with
   | .fn f fs cs=>match fs++cO tys (a.map (·.ev env))++cs with
    |vs=>match dh (fin ar bl 8) vs with
     |some vs'=>∃x u,ar.gL f vs' x∧HG (CU x||vs.all (dK 8)) (jB bl vs) bl=some u∧CV gs d x env fun env'=>qR ar gs b r (k+1) env' (bw u bl) (vS k (jB bl vs) (u.map (·.1)) dc) K
     |none=>False
   |_=>False
  |some false=>qR ar gs b r (k+1) (put d (.cK []) env) bl dc K
  |none=>False
def vW : List eN → List Nat
 |[]=>[]
 | .op _ (some (s,_)) _::r=>s::vW r
 | .call _ (some (s,_)) _ _ _::r=>s::vW r
 |_::r=>vW r
def Md (ar:Ar) (cS:List (List Nat)) (is:List eN) (S:St) (K:St→Prop):Prop :=
 qR ar (vW is) S.H.next is 0 S.env S.H.bl [] fun env bl dc=>Mb cS dc=true∧K ⟨env,⟨S.H.next+is.length,bl⟩,S.ms⟩
def qS (ar : Ar) : C → St → (Ex → St → Prop) → Prop
 | .skip,S,K=>K .normal S
 | .aO is,S,K=>fB ar is S fun S=>K .normal S
 | .draw ps is,S,K=>Md ar ps is S fun S=>K .normal S
 | .seq a b,S,K=>qS ar a S fun e S=>match e with
  | .normal=>qS ar b S K
  | .exit id=>K (.exit id) S
  | .ret=>K .ret S
 | .cond c a b,S,K=>match c.ev S.env with
  | .tf true=>qS ar a S K
  | .tf false=>qS ar b S K
  | .bool x=>Br x (fun _=>qS ar a (QM c true S) K) (fun _=>qS ar b (QM c false S) K)
  | .cb x=>(x=true→qS ar a (QM c true S) K)∧qS ar b (QM c false S) K
  |_=>False
 | .block id c,S,K=>qS ar c S fun e S=>match e with
  | .normal=>K .normal S
  | .exit id'=>match Nat.beq id' id with
   |true=>K .normal S
   |false=>K (.exit id') S
  | .ret=>K .ret S
 | .loop c,S,K=>LV ar S fun S=>ar.loop c S K
 | .exit id,S,K=>K (.exit id) S
 | .ret,S,K=>K .ret S
 | .bF f ps a b,S,K=>LV ar S fun S=>ar.bF f ps a b S K
 | .gF pre m it cl e kt kg vt vg pM b,S,K=>LV ar S fun S=>ar.gF (.gF pre m it cl e kt kg vt vg pM b) S K
def args : Nat → List V → List (Nat × V)
 |_,[]=>[]
 |n,v::r=>(n,v)::args (n+1) r
end Go.AM
end
section
namespace Go.AM
structure Ctx where
  w0:World
  ι0:aj
  m0:Mu
  ro:Option Nat
  x:Nat→Prop
  hid:List Nat
def Ctx.own (Y:Ctx) (b:Nat):Prop:=Y.w0.heap.size≤b∨Y.x b
theorem Ctx.lU {Y:Ctx} {b k:Nat} (h:Y.own b) (hk:k<Y.w0.heap.size) (hx:¬Y.x k):k≠b:=fun e=>by
  subst e;rcases h with h|h
  · omega
  · exact hx h
def jC (o o':Option Obj):Prop:=∀ms c,o=some (.map ms c)→∃ms' c',o'=some (.map ms' c')∧(ms.toList.map fun m=>(m.born,m.key)) <+: (ms'.toList.map fun m=>(m.born,m.key))∧c≤c'
theorem jC.eq {o o':Option Obj} (h:o'=o):jC o o':=fun ms c e=>⟨ms,c,h.trans e,List.prefix_refl _,Nat.le_refl _⟩
theorem jC.trans {a b c:Option Obj} (h:jC a b) (k:jC b c):jC a c:=fun ms n e=>by
  obtain ⟨ms1,n1,e1,p1,q1⟩:=h ms n e
  obtain ⟨ms2,n2,e2,p2,q2⟩:=k ms1 n1 e1
  exact ⟨ms2,n2,e2,p1.trans p2,Nat.le_trans q1 q2⟩
theorem jC.no {o o':Option Obj} (h:∀ms c,o≠some (.map ms c)):jC o o':=fun ms c e=>absurd e (h ms c)
structure HH (x:Nat→Prop) (w0 w:World):Prop where
  os:w.os=w0.os
  tape:w.tape=w0.tape
  output:w.output=w0.output
  size:w0.heap.size≤w.heap.size
  block:∀k,k<w0.heap.size→¬x k→w.heap[k]?=w0.heap[k]?
  dr:w0.drawn≤w.drawn
  maps:∀k,k<w0.heap.size→jC w0.heap[k]? w.heap[k]?
structure Dw (w w':World):Prop where
  b:RowKit.Below w.heap.size w w'
  dr:w.drawn≤w'.drawn
theorem HH.refl (x:Nat→Prop) (w:World):HH x w w:=⟨rfl,rfl,rfl,Nat.le_refl _,fun _ _ _=>rfl,Nat.le_refl _,fun _ _=>.eq rfl⟩
theorem HH.to {x:Nat→Prop} {w0 w:World} (h:HH x w0 w) (hx:∀k,¬x k):Dw w0 w:=⟨⟨h.os,h.tape,h.output,h.size,fun k hk=>h.block k hk (hx k)⟩,h.dr⟩
theorem HH.then {x:Nat→Prop} {w0 w w':World} (h:HH x w0 w) (k:Dw w w'):HH x w0 w' :=
  ⟨k.b.os.trans h.os,k.b.tape.trans h.tape,k.b.output.trans h.output,Nat.le_trans h.size k.b.size,fun i hi hx=>(k.b.block i (Nat.lt_of_lt_of_le hi h.size)).trans (h.block i hi hx),Nat.le_trans h.dr k.dr,
    fun i hi=>(h.maps i hi).trans (.eq (k.b.block i (Nat.lt_of_lt_of_le hi h.size)))⟩
structure Mem (B:Nat→Prop) (ι:aj) (μ:Mu) (id:Nat) (fz:Bool) (w:World) (L:Loc) (vs:List Value):Prop where
  mu:μ id=some L
  old:B L.b
  row:∃c e,w.heap[L.b]?=some (.cells c e (0,0))∧c.size=L.tot∧∀(j:Nat) v,vs[j]?=some v→c[L.ba+j]?=some v
  fits:L.ba+vs.length≤L.tot
  one:∀v∈vs,v.oneCell'=true
  CW:fz=true→Reads ι L.b L.ba vs
  pP:fz=false→∀o,ι L.b o=none
def CX : Option Ex → Option Code → Prop
  |none,c=>c=none
  |some .normal,_=>False
  |some (.exit id),c=>c=some (.exit id)
  |some .ret,c=>c=some .ret
def stR : qd → LoopState
  | .ready=>.ready
  | .busy=>.busy
  | .done=>.done
  | .exhausted=>.exhausted
def eu (ι:aj) (μ:Mu) (env:List (Nat×V)) (tmps:Array Value):Prop:=∀t,Rel ι μ (get t env) (tmps.getD t undef)
def dL (P : Program) (B : Nat → Prop) (ι : aj) (μ : Mu) (id : Nat) (w : World) : k8 → Prop
  | .cells cs fz=>∃L vs,Mem B ι μ id fz w L vs∧aG ι μ cs vs
  | .arr t xs fz=>(xs=[]∧μ id=none)∨∃L vs,Mem B ι μ id fz w L vs∧bp (af ι t) xs vs∧xs.length=L.len
  | .loop st j d env ps as bd N=>∃L r Ld,μ id=some L∧B L.b∧w.heap[L.b]?=some (.loop r)∧r.state=stR st∧CX j r.pending∧eu ι μ env r.tmps ∧
      r.params.toList=ps∧r.tmps.size=N∧(∀p∈ps,p<N)∧fh P N r.assign=some as∧fh P N r.body=some bd∧μ d=some Ld∧r.defers=Ld.b
  | .ig=>∃L,μ id=some L∧B L.b∧w.heap[L.b]?=some (.deferred (some []))
  | .map kt kg vt vg es=>∃L ms clock dB,μ id=some L∧B L.b∧w.heap[L.b]?=some (.map ms clock)∧eO ι kt kg vt vg dB ms.toList∧(∀m∈ms.toList,m.born<clock)∧(ms.toList.map (·.born)).Nodup∧dB.Perm es∧KD kt dB
  | .mJ t xs i p v=>∃L us vs c,Mem B ι μ id false w L vs∧bp (af ι t) xs us∧xs.length=L.len∧i<xs.length∧i * t.sz+t.bC p<us.length∧vs=us.set (i * t.sz+t.bC p) c∧Rel ι μ v c
structure Inv (P:Program) (Y:Ctx) (ι:aj) (μ:Mu) (H:aF) (w:World):Prop where
  below:HH Y.x Y.w0 w
  i0:Y.ι0.le ι
  iB:∀b o,b<Y.w0.heap.size→¬Y.x b→ι b o=Y.ι0 b o
  rd:∀b o x,ι b o=some x→w.cell? ⟨b,o,none⟩=some x
  m0:Y.m0.le μ
  nx:∀id,H.next≤id→μ id=none
  live:∀id B,aq id H.bl=some B→dL P Y.own ι μ id w B
  inj:∀id id' B B' L L',aq id H.bl=some B→aq id' H.bl=some B'→μ id=some L→μ id'=some L'→L.b=L'.b→id=id'
  lt:∀id B,aq id H.bl=some B→id<H.next
  gl:ji P Y.ι0
theorem Inv.dz {P:Program} {Y:Ctx} {ι:aj} {μ:Mu} {H:aF} {w:World} (h:Inv P Y ι μ H w):ji P ι:=h.gl.mono h.i0
theorem aW (i j : Nat) : ∀ bl : ai, aq i (bn j bl) = if i = j then none else aq i bl
  |[]=>by simp [bn,aq]
  |(s,b)::r=>by
    have ih:=aW i j r
    by_cases h:s=j
    · subst h
      have:Nat.beq s s=true:=Nat.beq_refl s
      simp only [bn,this,ih]
      by_cases hi:i=s
      · simp [hi]
      · have h2 : Nat.beq s i = false := by rw [Bool.eq_false_iff]; intro e; exact hi (Nat.eq_of_beq_eq_true e).symm
        simp [hi,aq,h2]
    · have h1 : Nat.beq s j = false := by rw [Bool.eq_false_iff]; intro e; exact h (Nat.eq_of_beq_eq_true e)
      simp only [bn,h1,aq]
      by_cases hi:s=i
      · subst hi;simp [Nat.beq_refl,h]
      · have h2 : Nat.beq s i = false := by rw [Bool.eq_false_iff]; intro e; exact hi (Nat.eq_of_beq_eq_true e)
        simp [h2,ih]
theorem bf (i s:Nat) (b:k8) (r:ai):aq i ((s,b)::r)=if s=i then some b else aq i r:=by
  by_cases h:s=i
  · subst h;simp [aq,Nat.beq_refl]
  · have h2 : Nat.beq s i = false := by rw [Bool.eq_false_iff]; intro e; exact h (Nat.eq_of_beq_eq_true e)
    simp [aq,h2,h]
theorem bT (i s:Nat) (b:V) (r:List (Nat×V)):get i ((s,b)::r)=if s=i then b else get i r:=by
  by_cases h:s=i
  · subst h;simp [get,Nat.beq_refl]
  · have h2 : Nat.beq s i = false := by rw [Bool.eq_false_iff]; intro e; exact h (Nat.eq_of_beq_eq_true e)
    simp [get,h2,h]
theorem mb (i s:Nat) (b:V) (r:List (Nat×V)):get i (AY s b r)=if s=i then b else get i r:=by simp only [AY,bT]
theorem aD (i s:Nat) (b:k8) (bl:ai):aq i ((s,b)::bn s bl)=if i=s then some b else aq i bl:=by
  rw [bf,aW]
  by_cases h:s=i
  · simp [h]
  · simp [h,Ne.symm h,fun e:i=s=>h e.symm]
section
variable {P:Program} {Y:Ctx} {ι ι':aj} {μ μ':Mu} {H:aF} {w w':World}
theorem Mem.mono {B : Nat → Prop} {id : Nat} {fz : Bool} {L : Loc} {vs : List Value} (h : Mem B ι μ id fz w L vs) (hi : ι.le ι') (hm : μ.le μ') (hw : w'.heap[L.b]? = w.heap[L.b]?)
    (hf:fz=false→∀o,ι' L.b o=none):Mem B ι' μ' id fz w' L vs :=
  ⟨hm _ _ h.mu,h.old,by rw [hw];exact h.row,h.fits,h.one,fun e=>(h.CW e).mono hi,hf⟩
theorem eu.mono (hi:ι.le ι') (hm:μ.le μ') {env:List (Nat×V)} {t:Array Value} (h:eu ι μ env t):eu ι' μ' env t:=fun i=>(h i).mono hi hm
theorem dL.mono {B : Nat → Prop} {id : Nat} {b : k8} (h : dL P B ι μ id w b) (hi : ι.le ι') (hm : μ.le μ') (hn : μ id = none → μ' id = none)
    (hw:∀L,μ id=some L→w'.heap[L.b]?=w.heap[L.b]?) (hf:∀L,μ id=some L→(∀o,ι L.b o=none)→∀o,ι' L.b o=none):dL P B ι' μ' id w' b:=by
  cases b with
  |cells cs fz =>
    obtain ⟨L,vs,hM,hR⟩:=h
    exact ⟨L,vs,hM.mono hi hm (hw L hM.mu) (fun e=>hf L hM.mu (hM.pP e)),hR.mono hi hm⟩
  |arr t xs fz =>
    rcases h with ⟨rfl,h⟩|⟨L,vs,hM,hR,hl⟩
    · exact .inl ⟨rfl,hn h⟩
    · exact .inr ⟨L,vs,hM.mono hi hm (hw L hM.mu) (fun e=>hf L hM.mu (hM.pP e)),bp.mono (fun _ _=>af.mono hi) hR,hl⟩
  |loop st j d env ps as bd N =>
    obtain ⟨L,r,Ld,h1,h2,h3,h4,h5,h6,h7,h8,h9,h10,h11,h12,h13⟩:=h
    exact ⟨L,r,Ld,hm _ _ h1,h2,by rw [hw L h1];exact h3,h4,h5,h6.mono hi hm,h7,h8,h9,h10,h11,hm _ _ h12,h13⟩
  |ig =>
    obtain ⟨L,h1,h2,h3⟩:=h
    exact ⟨L,hm _ _ h1,h2,by rw [hw L h1];exact h3⟩
  |map kt kg vt vg es =>
    obtain ⟨L,ms,clock,dB,h1,h2,h3,h4,h5,h6,h7⟩:=h
    exact ⟨L,ms,clock,dB,hm _ _ h1,h2,by rw [hw L h1];exact h3,h4.mono hi,h5,h6,h7⟩
  |mJ t xs i p v =>
    obtain ⟨L,us,vs,c,hM,hR,hl,h1,h2,h3,h4⟩:=h
    exact ⟨L,us,vs,c,hM.mono hi hm (hw L hM.mu) (fun e=>hf L hM.mu (hM.pP e)),bp.mono (fun _ _=>af.mono hi) hR,hl,h1,h2,h3,h4.mono hi hm⟩
theorem dL.loc {B:Nat→Prop} {id:Nat} {b:k8} (h:dL P B ι μ id w b) {L:Loc} (hL:μ id=some L):B L.b∧L.b<w.heap.size:=by
  have lt:∀{o:Obj},w.heap[L.b]?=some o→L.b<w.heap.size:=fun h=>(Array.getElem?_eq_some_iff.1 h).1
  cases b with
  |cells cs fz =>
    obtain ⟨L',vs,hM,_⟩:=h
    have:=hM.mu;rw [hL] at this;cases this
    obtain ⟨c,e,h1,_⟩:=hM.row
    exact ⟨hM.old,lt h1⟩
  |arr t xs fz =>
    rcases h with ⟨_,h⟩|⟨L',vs,hM,_⟩
    · rw [h] at hL;cases hL
    · have := hM.mu; rw [hL] at this; cases this
      obtain ⟨c,e,h1,_⟩:=hM.row
      exact ⟨hM.old,lt h1⟩
  |loop st j d env ps as bd N =>
    obtain ⟨L',r,Ld,h1,h2,h3,_⟩:=h
    rw [hL] at h1;cases h1
    exact ⟨h2,lt h3⟩
  |ig =>
    obtain ⟨L',h1,h2,h3⟩:=h
    rw [hL] at h1;cases h1
    exact ⟨h2,lt h3⟩
  |map kt kg vt vg es =>
    obtain ⟨L',ms,clock,dB,h1,h2,h3,_⟩:=h
    rw [hL] at h1;cases h1
    exact ⟨h2,lt h3⟩
  |mJ t xs i p v =>
    obtain ⟨L',us,vs,c,hM,_⟩:=h
    have:=hM.mu;rw [hL] at this;cases this
    obtain ⟨c,e,h1,_⟩:=hM.row
    exact ⟨hM.old,lt h1⟩
theorem Inv.congr {bl:ai} {n:Nat} (h:Inv P Y ι μ H w) (hb:∀id,aq id bl=aq id H.bl) (hn:H.next=n):Inv P Y ι μ ⟨n,bl⟩ w :=
  ⟨h.below,h.i0,h.iB,h.rd,h.m0,by rw [←hn];exact h.nx,fun id B hB=>h.live id B (by rw [←hb];exact hB),
   fun id id' B B' L L' h1 h2=>h.inj id id' B B' L L' (by rw [←hb];exact h1) (by rw [←hb];exact h2),fun id B hB=>by rw [←hn];exact h.lt id B (by rw [←hb];exact hB),h.gl⟩
theorem Inv.sub {bl:ai} (h:Inv P Y ι μ H w) (hb:∀id B,aq id bl=some B→aq id H.bl=some B):Inv P Y ι μ ⟨H.next,bl⟩ w :=
  ⟨h.below,h.i0,h.iB,h.rd,h.m0,h.nx,fun id B hB=>h.live id B (hb _ _ hB),
   fun id id' B B' L L' h1 h2=>h.inj id id' B B' L L' (hb _ _ h1) (hb _ _ h2),fun id B hB=>h.lt id B (hb _ _ hB),h.gl⟩
theorem Inv.del (h:Inv P Y ι μ H w) (i:Nat):Inv P Y ι μ ⟨H.next,bn i H.bl⟩ w :=
  h.sub fun id B hB=>by rw [aW] at hB;split at hB<;>simp_all
theorem Inv.next (h:Inv P Y ι μ H w):Inv P Y ι μ ⟨H.next+1,H.bl⟩ w :=
  ⟨h.below,h.i0,h.iB,h.rd,h.m0,fun id hid=>h.nx id (by simp only at hid;omega),h.live,h.inj,fun id B hB=>by have:=h.lt id B hB;simp only;omega,h.gl⟩
theorem Inv.drew (h:Inv P Y ι μ H w):Inv P Y ι μ H w.drew :=
  ⟨⟨h.below.os,h.below.tape,h.below.output,h.below.size,h.below.block,Nat.le_succ_of_le h.below.dr,h.below.maps⟩,h.i0,h.iB,h.rd,h.m0,h.nx,
   fun id B hB=>(h.live id B hB).mono (aj.le_refl _) (Mu.le_refl _) (fun h=>h) (fun _ _=>rfl) (fun _ _ h=>h),h.inj,h.lt,h.gl⟩
def Mu.set (μ:Mu) (n:Nat) (L:Loc):Mu:=fun id=>if id=n then some L else μ id
theorem Mu.fD {n:Nat} {L:Loc} (h:μ n=none):μ.le (μ.set n L):=fun id L' hL=>by
  unfold Mu.set;split
  · rename_i e;subst e;rw [h] at hL;cases hL
  · exact hL
theorem Inv.lay (h : Inv P Y ι μ H w) {aC : Nat} (hn : μ aC = none) {o : Obj} {b : k8} {L : Loc} (hL : L.b = w.heap.size)
    (hb:dL P Y.own ι (μ.set aC L) aC (w.alloc o) b):Inv P Y ι (μ.set aC L) ⟨max H.next (aC+1),(aC,b)::bn aC H.bl⟩ (w.alloc o):=by
  have hle:=Mu.fD (L:=L) hn
  have heap:∀k,k<w.heap.size→(w.alloc o).heap[k]?=w.heap[k]?:=fun k hk=>by
    show (w.heap.push o)[k]?=_
    rw [Array.getElem?_push];split
    · omega
    · rfl
  refine ⟨⟨h.below.os,h.below.tape,h.below.output,by have:=h.below.size;simp;omega,fun k hk hx=>?_,h.below.dr,fun k hk=>(h.below.maps k hk).trans (.eq (heap k (Nat.lt_of_lt_of_le hk h.below.size)))⟩,h.i0,h.iB,fun b o x hx=>?_,Mu.le_trans h.m0 hle,fun id hid=>?_,fun id B hB=>?_,?_,?_,h.gl⟩
  · have := h.below.size
    rw [heap k (by omega)];exact h.below.block k hk hx
  · have := h.rd b o x hx
    rw [World.cell?_alloc_lt _ _ _ (World.block_lt_of_cell? _ _ this)];exact this
  · simp only at hid
    unfold Mu.set;rw [if_neg (by omega)];exact h.nx id (by omega)
  · rw [aD] at hB
    split at hB
    · rename_i e;subst e;cases hB;exact hb
    · rename_i e
      refine (h.live id B hB).mono (aj.le_refl _) hle (fun hm=>by unfold Mu.set;rw [if_neg e];exact hm) (fun L' hL'=>?_) (fun _ _ h=>h)
      exact heap _ ((h.live id B hB).loc hL').2
  · intro id id' B B' L1 L2 h1 h2 fK hm2 e
    rw [aD] at h1 h2
    unfold Mu.set at fK hm2
    by_cases e1:id=aC<;>by_cases e2:id'=aC
    · rw [e1,e2]
    · rw [if_pos e1] at fK; rw [if_neg e2] at hm2 h2
      cases fK
      have:=((h.live id' B' h2).loc hm2).2;omega
    · rw [if_pos e2] at hm2; rw [if_neg e1] at fK h1
      cases hm2
      have:=((h.live id B h1).loc fK).2;omega
    · rw [if_neg e1] at fK h1; rw [if_neg e2] at hm2 h2
      exact h.inj id id' B B' L1 L2 h1 h2 fK hm2 e
  · intro id B hB
    rw [aD] at hB
    split at hB
    · rename_i e;subst e;simp only;omega
    · have:=h.lt id B hB;simp only;omega
theorem Inv.turn (h : Inv P Y ι μ H w) {id : Nat} {b0 b : k8} (hb0 : aq id H.bl = some b0) {L : Loc} (hL : μ id = some L) (hfree : ∀ o, ι L.b o = none)
    (hos:w'.os=w.os) (Me:w'.tape=w.tape) (hout:w'.output=w.output) (hdr:w'.drawn=w.drawn) (hsz:w'.heap.size=w.heap.size) (hk:∀k,k≠L.b→w'.heap[k]?=w.heap[k]?)
    (Wo:jC w.heap[L.b]? w'.heap[L.b]?) (hb:dL P Y.own ι μ id w' b):Inv P Y ι μ ⟨H.next,(id,b)::bn id H.bl⟩ w':=by
  have hold:=((h.live id b0 hb0).loc hL).1
  refine ⟨⟨hos.trans h.below.os, Me.trans h.below.tape, hout.trans h.below.output, by rw [hsz]; exact h.below.size, fun k hk' hx => ?_, by rw [hdr]; exact h.below.dr, fun k hk' => (h.below.maps k hk').trans (by
      by_cases e:k=L.b
      · subst e;exact Wo
      · exact .eq (hk k e))⟩,h.i0,h.iB,fun b o x hx=>?_,h.m0,h.nx,fun i B hB=>?_,?_,?_,h.gl⟩
  · rw [hk k (Ctx.lU hold hk' hx)];exact h.below.block k hk' hx
  · have := h.rd b o x hx
    have hne:b≠L.b:=fun e=>by subst e;rw [hfree] at hx;cases hx
    unfold World.cell? at this ⊢
    simp only at this ⊢
    rw [hk b hne];exact this
  · rw [aD] at hB
    split at hB
    · rename_i e;subst e;cases hB;exact hb
    · rename_i e
      refine (h.live i B hB).mono (aj.le_refl _) (Mu.le_refl _) (fun h=>h) (fun L' hL'=>hk _ (fun e'=>e (h.inj i id B b0 L' L hB hb0 hL' hL e'))) (fun _ _ h=>h)
  · intro i i' B B' L1 L2 h1 h2 fK hm2 e
    have:∀{j B},aq j ((id,b)::bn id H.bl)=some B→∃Wp,aq j H.bl=some Wp:=fun {j B} hj=>by
      rw [aD] at hj
      split at hj
      · rename_i e;subst e;exact ⟨b0,hb0⟩
      · exact ⟨B,hj⟩
    obtain ⟨C,hC⟩:=this h1
    obtain ⟨C',QN⟩:=this h2
    exact h.inj i i' C C' L1 L2 hC QN fK hm2 e
  · intro i B hB
    rw [aD] at hB
    split at hB
    · rename_i e;subst e;exact h.lt _ _ hb0
    · exact h.lt i B hB
theorem Inv.same (h:Inv P Y ι μ H w) {id:Nat} {b0 b:k8} (hb0:aq id H.bl=some b0) (hb:dL P Y.own ι μ id w b):Inv P Y ι μ ⟨H.next,(id,b)::bn id H.bl⟩ w:=by
  refine ⟨h.below,h.i0,h.iB,h.rd,h.m0,h.nx,fun i B hB=>?_,?_,?_,h.gl⟩
  · rw [aD] at hB
    split at hB
    · rename_i e;subst e;cases hB;exact hb
    · exact h.live i B hB
  · intro i i' B B' L1 L2 h1 h2 fK hm2 e
    have:∀{j B},aq j ((id,b)::bn id H.bl)=some B→∃Wp,aq j H.bl=some Wp:=fun {j B} hj=>by
      rw [aD] at hj
      split at hj
      · rename_i e;subst e;exact ⟨b0,hb0⟩
      · exact ⟨B,hj⟩
    obtain ⟨C,hC⟩:=this h1
    obtain ⟨C',QN⟩:=this h2
    exact h.inj i i' C C' L1 L2 hC QN fK hm2 e
  · intro i B hB
    rw [aD] at hB
    split at hB
    · rename_i e;subst e;exact h.lt _ _ hb0
    · exact h.lt i B hB
def aj.add (ι:aj) (L:Loc) (vs:List Value):aj:=fun b o=>if b=L.b then (if L.ba≤o then vs[o - L.ba]? else none) else ι b o
theorem aj.FA {L:Loc} {vs:List Value} (h:∀o,ι L.b o=none):ι.le (ι.add L vs):=fun b o x hx=>by
  unfold aj.add;split
  · rename_i e;subst e;rw [h] at hx;cases hx
  · exact hx
theorem Reads.add {L:Loc} {vs:List Value}:Reads (ι.add L vs) L.b L.ba vs:=fun j v hj=>by
  unfold aj.add;rw [if_pos rfl,if_pos (by omega)];simpa using hj
theorem Inv.QO (h:Inv P Y ι μ H w) {c:Array Value} {e:TypeId} {f:Nat×Nat} {vs:List Value} (hvs:∀(j:Nat) v,vs[j]?=some v→c[j]?=some v) :
    ∃ι',ι.le ι'∧Inv P Y ι' μ H (w.alloc (.cells c e f))∧Reads ι' w.heap.size 0 vs:=by
  have hfree:∀o,ι w.heap.size o=none:=fun o=>by
    cases vX:ι w.heap.size o with
    |none=>rfl
    |some y=>have:=World.block_lt_of_cell? _ _ (h.rd _ _ _ vX);simp at this
  let L:Loc:=⟨w.heap.size,0,0,0⟩
  have hle:=aj.FA (L:=L) (vs:=vs) hfree
  have heap:∀k,k<w.heap.size→(w.alloc (.cells c e f)).heap[k]?=w.heap[k]?:=fun k hk=>by
    show (w.heap.push _)[k]?=_
    rw [Array.getElem?_push];split
    · omega
    · rfl
  have hnew:(w.alloc (.cells c e f)).heap[w.heap.size]?=some (.cells c e f):=by
    show (w.heap.push _)[w.heap.size]?=_
    simp
  refine ⟨ι.add L vs,hle,⟨⟨h.below.os,h.below.tape,h.below.output,by have:=h.below.size;simp;omega,fun k hk hx=>?_,h.below.dr,fun k hk=>(h.below.maps k hk).trans (.eq (heap k (Nat.lt_of_lt_of_le hk h.below.size)))⟩,aj.le_trans h.i0 hle,fun b o hb' hx=>?_,fun b o x hx=>?_,h.m0,h.nx,fun i B hB=>?_,h.inj,h.lt,h.gl⟩,Reads.add (L:=L)⟩
  · have := h.below.size
    rw [heap k (by omega)];exact h.below.block k hk hx
  · have := h.below.size
    unfold aj.add;rw [if_neg (show b≠L.b by simp only [L];omega)];exact h.iB b o hb' hx
  · unfold aj.add at hx
    split at hx
    · rename_i e'; subst e'
      split at hx
      · have := hvs _ _ hx
        simp only [L,Nat.sub_zero] at this
        show (match (w.alloc (.cells c e f)).heap[w.heap.size]? with|some (.cells c _ _)=>if (⟨w.heap.size,o,none⟩:Addr).spot.isSome then none else c[o]? | _=>none)=some x
        rw [hnew];simpa using this
      · cases hx
    · have := h.rd b o x hx
      rw [World.cell?_alloc_lt _ _ _ (World.block_lt_of_cell? _ _ this)];exact this
  · refine (h.live i B hB).mono hle (Mu.le_refl _) (fun h => h) (fun L' hL' => heap _ ((h.live i B hB).loc hL').2) (fun L' hL' ho o => ?_)
    have:=((h.live i B hB).loc hL').2
    unfold aj.add;rw [if_neg (show L'.b≠L.b by simp only [L];omega)];exact ho o
theorem Inv.freeze (h:Inv P Y ι μ H w) {id:Nat} {t:Ty} {xs:List t.den} {fz:Bool} (hb:aq id H.bl=some (.arr t xs fz)) :
    ∃ι',ι.le ι'∧Inv P Y ι' μ ⟨H.next,(id,.arr t xs true)::bn id H.bl⟩ w∧iz ι' μ id t xs:=by
  rcases h.live id _ hb with ⟨rfl,hn⟩|⟨L,vs,hM,hR,hl⟩
  · exact ⟨ι,aj.le_refl _,h.same hb (.inl ⟨rfl,hn⟩),.inl ⟨rfl,hn⟩⟩
  · cases fz with
    |true=>exact ⟨ι,aj.le_refl _,h.same hb (.inr ⟨L,vs,hM,hR,hl⟩),.inr ⟨L,vs,hM.mu,hM.CW rfl,hR,hl⟩⟩
    |false =>
      have hfree:=hM.pP rfl
      have hle:=aj.FA (vs:=vs) hfree
      have gI:bp (af (ι.add L vs) t) xs vs:=bp.mono (fun _ _=>af.mono hle) hR
      refine ⟨ι.add L vs,hle,?_,.inr ⟨L,vs,hM.mu,Reads.add,gI,hl⟩⟩
      refine ⟨h.below,aj.le_trans h.i0 hle,fun b o hb' hx=>?_,fun b o x hx=>?_,h.m0,h.nx,fun i B hB=>?_,?_,?_,h.gl⟩
      · unfold aj.add;rw [if_neg (fun e=>Ctx.lU hM.old hb' hx e)];exact h.iB b o hb' hx
      · unfold aj.add at hx
        split at hx
        · rename_i e; subst e
          split at hx
          · rename_i ho
            obtain ⟨c,e,h1,h2,h3⟩:=hM.row
            have:=h3 _ _ hx
            rw [show L.ba+(o - L.ba)=o by omega] at this
            simp [World.cell?,h1,this]
          · cases hx
        · exact h.rd b o x hx
      · rw [aD] at hB
        split at hB
        · rename_i e; subst e; cases hB
          exact .inr ⟨L,vs,⟨hM.mu,hM.old,hM.row,hM.fits,hM.one,fun _=>Reads.add,fun e=>by cases e⟩,gI,hl⟩
        · rename_i e
          refine (h.live i B hB).mono hle (Mu.le_refl _) (fun h=>h) (fun _ _=>rfl) (fun L' hL' ho o=>?_)
          unfold aj.add
          rw [if_neg (fun e'=>e (h.inj i id B _ L' L hB hb hL' hM.mu e'))]
          exact ho o
      · intro i i' B B' L1 L2 h1 h2 fK hm2 e
        have:∀{j B},aq j ((id,.arr t xs true)::bn id H.bl)=some B→∃Wp,aq j H.bl=some Wp:=fun {j B} hj=>by
          rw [aD] at hj
          split at hj
          · rename_i e;subst e;exact ⟨_,hb⟩
          · exact ⟨B,hj⟩
        obtain ⟨C,hC⟩:=this h1
        obtain ⟨C',QN⟩:=this h2
        exact h.inj i i' C C' L1 L2 hC QN fK hm2 e
      · intro i B hB
        rw [aD] at hB
        split at hB
        · rename_i e;subst e;exact h.lt _ _ hb
        · exact h.lt i B hB
end
end Go.AM
end
section
namespace Go.AM
section
variable {P:Program} {Y:Ctx} {ι ι':aj} {μ μ':Mu} {H:aF} {w w':World}
@[reducible] def aY (call : Nat → List V → aF → (V → aF → Prop) → Prop) (gL : Nat → List V → V → Prop) (loop : C → St → (Ex → St → Prop) → Prop)
  (round:Nat→List V→aF→(V→aF→Prop)→Prop) (bF:O→List Nat→C→C→St→(Ex→St→Prop)→Prop) (gF:C→St→(Ex→St→Prop)→Prop):Ar where
 add a b:=a+b
 sub a b:=a - b
 mul a b:=a * b
 quo a b:=a.tdiv b
 rem a b:=a.tmod b
 bits op k a b:=match op with
  | .and=>k.wrap (BitVec.ofInt k.bits a &&& BitVec.ofInt k.bits b).toNat
  | .or=>k.wrap (BitVec.ofInt k.bits a ||| BitVec.ofInt k.bits b).toNat
  | .xor=>k.wrap (BitVec.ofInt k.bits a ^^^ BitVec.ofInt k.bits b).toNat
  |_=>k.wrap (BitVec.ofInt k.bits a &&& ~~~(BitVec.ofInt k.bits b)).toNat
 shr a b:=a.fdiv (2 ^ b.toNat)
 shl a b:=a * 2 ^ b.toNat
 Wk a b:=if b<a then b else a
 imax a b:=if b > a then b else a
 eq a b:=a==b
 lt a b:=decide (a<b)
 le a b:=decide (a≤b)
 beq a b:=a==b
 seq a b:=a.toList==b.toList
 slt a b:=Op.bytesLess a.toList b.toList
 JL s:=(s.size:Int)
 QE a b:=a&&b
 sC a := !a
 Fq c a b:=if c then a else b
 gG k z:=k.min≤z&&z≤k.max
 fu i n:=decide (0≤i∧i<n)
 Lx a b:=decide (a<b)
 len xs:=xs.length
 get d xs i:=xs.getD i d
 set xs i v:=xs.set i v
 sub' xs lo n:=(xs.drop lo).take n
 app xs ys:=xs++ys
 rep n x:=List.replicate n x
 Fs a b:=a+b
 LQ a b:=a - b
 sD z:=z.toNat
 sat:=QF
 bys:=eY
 txt:=uz
 wr k z:=k.wrap z
 clr:=AU
 mhas:=aM
 gb:=ax
 iy:=aU
 call:=call
 gL:=gL
 loop:=loop
 round:=round
 bF:=bF
 gF:=gF
theorem j5 {k:IntKind} {z:Int} (h:(decide (k.min≤z)&&decide (z≤k.max))=true):k.wrap z=z:=by
 simp only [Bool.and_eq_true,decide_eq_true_eq] at h
 obtain ⟨h1,h2⟩:=h
 cases k<;>simp only [IntKind.wrap,IntKind.min,IntKind.max,IntKind.bits,IntKind.signed] at *<;>simp at *<;>first|omega|(rw [Int.bmod_eq_of_le]<;>omega)
theorem CY {x:Value} {v:V} (h:LX x=some v):Rel ι μ v x:=by
 unfold LX at h
 split at h<;>first|cases h|skip
 ·exact .tf _
 ·exact .int _ _
 ·exact .str _
 ·exact .bW _
 ·exact .eB
 ·exact .cF
 ·exact .eX
 ·exact .cC
theorem nR : ∀ {xs : List Value} {vs : List V}, yR xs = some vs → aG ι μ vs xs
 |[],vs,h=>by cases h;exact .nil
 |x::xs,vs,h=>by
  unfold yR at h
  split at h
  ·rename_i a b ha hb;cases h;exact .cons (CY ha) (nR hb)
  ·cases h
theorem nS : ∀ {xs : List Value} {vs : List V}, yR xs = some vs → ∀ x ∈ xs, x.oneCell' = true
 |[],vs,h=>by simp
 |x::xs,vs,h=>by
  unfold yR at h
  split at h
  ·rename_i a b ha hb; cases h
   intro y hy
   rcases List.mem_cons.1 hy with rfl|hy
   ·unfold LX at ha
    split at ha<;>first|rfl|cases ha
   ·exact nS hb y hy
  ·cases h
theorem QS {x:Value} {v:V} (h:ofC x=some v):Rel ι μ v x:=by
 unfold ofC at h
 split at h
 ·rename_i cs
  split at h
  ·rename_i vs hv; cases h
   have:=nR (ι:=ι) (μ:=μ) hv
   exact .agg _ _ (by simpa using this.1) (fun i v x hv hx=>this.2 i v x hv (by simpa using hx)) (nS hv)
  ·cases h
 ·exact CY h
theorem aB {env:List (Nat×V)} {a:Act} (he:eu ι μ env a.tmps) {x:Operand} {y:O} (h:dA x=some y):Rel ι μ (y.ev env) (a.eval x):=by
 cases x with
 |tmp t=>cases h;exact he t
 |const v =>
  simp only [dA] at h
  split at h
  ·rename_i u hu;cases h;exact QS hu
  ·cases h
 |func f=>cases h;exact .fn _ _ _ #[] #[] rfl (fun i v x h=>by simp at h) rfl (fun i v x h=>by simp at h)
 |global g=>cases h
theorem j6 {env : List (Nat × V)} {a : Act} (he : eu ι μ env a.tmps) : ∀ {xs : List Operand} {ys : List O}, vO xs = some ys → aG ι μ (ys.map (·.ev env)) (xs.map a.eval)
 |[],ys,h=>by cases h;exact .nil
 |x::xs,ys,h=>by
  unfold vO at h
  split at h
  ·rename_i y ys' h1 h2;cases h;exact .cons (aB he h1) (j6 he h2)
  ·cases h
theorem Mem.rangeAt {B:Nat→Prop} {id:Nat} {fz:Bool} {L:Loc} {vs:List Value} (h:Mem B ι μ id fz w L vs):w.rangeAt L.b L.ba vs:=fun j v hv=>by
 obtain ⟨c,e,h1,_,h3⟩:=h.row
 simp [World.cell?,h1,h3 j v hv]
theorem dR {b o:Nat} {vs:List Value} (h:w.rangeAt b o vs) (d k:Nat):w.rangeAt b (o+d) ((vs.drop d).take k):=fun j v hv=>by
 rw [List.getElem?_take] at hv
 split at hv
 ·rw [List.getElem?_drop] at hv
  have:=h (d+j) v hv
  rw [←Nat.add_assoc] at this;exact this
 ·cases hv
theorem Reads.rangeAt {b o:Nat} {vs:List Value} (hr:Reads ι b o vs) (hi:∀b o x,ι b o=some x→w.cell? ⟨b,o,none⟩=some x):w.rangeAt b o vs:=fun j v hv=>hi _ _ _ (hr j v hv)
theorem Reads.sub {b o:Nat} {vs:List Value} (h:Reads ι b o vs) (d k:Nat):Reads ι b (o+d) ((vs.drop d).take k):=fun j v hv=>by
 rw [List.getElem?_take] at hv
 split at hv
 ·rw [List.getElem?_drop] at hv
  have:=h (d+j) v hv
  rw [←Nat.add_assoc] at this;exact this
 ·cases hv
theorem World.C0 {b o:Nat} {v:Value} (h:w.rangeAt b o [v]):w.cell? ⟨b,o,none⟩=some v:=by simpa using h 0 v rfl
theorem sH {g:Bool} {cs:List V} {v:V} {xs:List Value} (h:cm g cs=some v) (hr:aG ι μ cs xs) (h1:∀u∈xs,u.oneCell'=true):∃x,iq g xs=some x∧Rel ι μ v x:=by
 cases g with
 |true =>
  cases h
  exact ⟨_,rfl,.agg _ _ (by simpa using hr.1) (fun i v x hv hx=>hr.2 i v x hv (by simpa using hx)) (by simpa using h1)⟩
 |false =>
  match cs,h with
  |[c],h =>
   cases h
   obtain ⟨x,r,rfl,h1,h2⟩:=hr.bA
   rw [h2.of_nil]
   exact ⟨x,rfl,h1⟩
theorem FB {t : TypeId} {k : Nat} {g : Bool} (hk : cW P t = some k) (hg : sE P t = some g) {b o : Nat} {vs : List Value} (hr : w.rangeAt b o vs) (hl : vs.length = k)
  {x:Value} (hx:iq g vs=some x):(Instr.loadAt t (.pointer (some ⟨b,o,none⟩))).run P w = .ok x w:=by
 unfold sE at hg
 unfold cW at hk
 cases g with
 |true =>
  cases hx
  split at hg
  ·rename_i hu;exact run_loadAt_mid w b o t vs _ hr hu rfl (by rw [hk,hl])
  ·rename_i hu;exact run_loadAt_mid w b o t vs _ hr hu rfl (by rw [hk,hl])
  ·cases hg
  ·cases hg
 |false =>
  match vs,hx with
  |[c],hx =>
   cases hx
   have hc:=World.C0 hr
   split at hg
   ·cases hg
   ·cases hg
   ·rename_i d h1 h2 hu
    have hagg:(isAgg t).run P w = .ok false w:=by
     unfold isAgg
     rw [Sem.run_bind,run_underlying hu w]
     cases d<;>simp_all
    simp [Instr.loadAt,Instr.sureAddr,loadVar,hagg,hc]
   ·cases hg
theorem iV {t:TypeId} {k:Nat} (hk:cW P t=some k) {b o:Nat} {v:Value} (ht:w.there b o k) (hl:v.cells.size=k) (h1:∀u∈v.cells.toList,u.oneCell'=true) :
  (Instr.storeAt t (.pointer (some ⟨b,o,none⟩)) v).run P w = .ok () (w.setCells b o v.cells.toList):=by
 have:=run_storeCells_cells (P:=P) b o v.cells.toList 0 w (fun j hj=>by simpa using (ht j (by simp at hj;omega)).1) (fun j hj=>by simpa using (ht j (by simp at hj;omega)).2) h1
 unfold cW at hk
 cases hq:P.info? t with
 |none=>simp [hq] at hk
 |some i =>
  have hs:v.cells.size=i.size:=by simp [hq] at hk;omega
  simp only [Nat.add_zero] at this
  simp [Instr.storeAt,Instr.sureAddr,storeVar,sizeOf,typeInfo,hq,hs,this]
theorem Mem.there {B:Nat→Prop} {id:Nat} {fz:Bool} {L:Loc} {vs:List Value} (h:Mem B ι μ id fz w L vs) {o k:Nat} (hk:L.ba≤o) (hf:o+k≤L.tot):w.there L.b o k:=fun j hj=>by
 obtain ⟨c,e,h1,h2,_⟩:=h.row
 simp only [World.cell?,World.frozen?,h1]
 refine ⟨?_,by simp⟩
 have:o+j<c.size:=by omega
 simp [this]
theorem Mem.write {B:Nat→Prop} {id:Nat} {L:Loc} {vs:List Value} (h:Mem B ι μ id false w L vs) {d:Nat} {us:List Value} (hd:d+us.length≤vs.length) (h1:∀u∈us,u.oneCell'=true) :
  Mem B ι μ id false (w.setCells L.b (L.ba+d) us) L (vs.take d++us++vs.drop (d+us.length)):=by
 obtain ⟨c,e,hc,hs,hr⟩:=h.row
 have Wq:w.there L.b (L.ba+d) us.length:=h.there (by omega) (by have:=h.fits;omega)
 refine ⟨h.mu,h.old,?_,?_,?_,(fun e=>by cases e),h.pP⟩
 ·have key:∀(us:List Value) (o:Nat) (w:World) (c:Array Value),w.heap[L.b]?=some (.cells c e (0,0))→o+us.length≤c.size →
    ∃c',(w.setCells L.b o us).heap[L.b]?=some (.cells c' e (0,0))∧c'.size=c.size∧∀i,c'[i]?=if o≤i∧i<o+us.length then us[i - o]? else c[i]?:=by
   intro us
   induction us with
   |nil=>intro o w c hc _;exact ⟨c,hc,rfl,fun i=>by rw [if_neg (by simp only [List.length_nil];omega)]⟩
   |cons u us ih =>
    intro o w c hc ho
    have Mf:(w.setCell ⟨L.b,o,none⟩ u).heap[L.b]?=some (.cells (c.setIfInBounds o u) e (0,0)):=by
     simp [World.setCell,Array.getElem?_modify,hc]
    obtain ⟨c',e1,e2,e3⟩:=ih (o+1) _ _ Mf (by simp at ho ⊢;omega)
    refine ⟨c',e1,by simpa using e2,fun i=>?_⟩
    rw [e3]
    simp only [List.length_cons] at ho ⊢
    by_cases hi:i=o
    ·subst hi
     rw [if_neg (by omega),if_pos (by omega)]
     have:i<c.size:=by omega
     simp [this]
    ·by_cases h2 : o + 1 ≤ i ∧ i < o + 1 + us.length
     ·rw [if_pos h2, if_pos (by omega)]
      obtain ⟨m,rfl⟩:∃m,i=o+1+m:=⟨i - (o+1),by omega⟩
      rw [show o+1+m - (o+1)=m by omega,show o+1+m - o=m+1 by omega];rfl
     ·rw [if_neg h2,if_neg (by omega),Array.getElem?_setIfInBounds_ne (by omega)]
  have hf:=h.fits
  obtain ⟨c',e1,e2,e3⟩:=key us (L.ba+d) w c hc (by omega)
  refine ⟨c',e,e1,by rw [e2];exact hs,fun j v hv=>?_⟩
  rw [e3]
  by_cases hj:d≤j∧j<d+us.length
  ·rw [if_pos (by omega)]
   rw [List.append_assoc,List.getElem?_append_right (by simp;omega),List.getElem?_append_left (by simp;omega)] at hv
   rw [←hv];congr 1;simp;omega
  ·rw [if_neg (by omega)]
   by_cases hj2:j<d
   ·rw [List.append_assoc, List.getElem?_append_left (by simp; omega), List.getElem?_take, if_pos hj2] at hv
    exact hr j v hv
   ·rw [List.getElem?_append_right (by simp; omega), List.getElem?_drop] at hv
    refine hr j v ?_
    rw [←hv];congr 1;simp;omega
 ·have := h.fits
  simp;omega
 ·intro v hv
  rcases List.mem_append.1 hv with hv|hv
  ·rcases List.mem_append.1 hv with hv | hv
   ·exact h.one v (List.mem_of_mem_take hv)
   ·exact h1 v hv
  ·exact h.one v (List.mem_of_mem_drop hv)
theorem iC (b : Nat) : ∀ (vs : List Value) (o : Nat) (w : World) (k : Nat), k ≠ b → (w.setCells b o vs).heap[k]? = w.heap[k]?
 |[],_,_,_,_=>rfl
 |v::r,o,w,k,h=>by
  rw [World.setCells,iC b r _ _ k h]
  simp [World.setCell,Array.getElem?_modify,Ne.symm h]
theorem size_setCells (b : Nat) : ∀ (vs : List Value) (o : Nat) (w : World), (w.setCells b o vs).heap.size = w.heap.size
 |[],_,_=>rfl
 |v::r,o,w=>by rw [World.setCells,size_setCells b r];simp
theorem di (b : Nat) : ∀ (vs : List Value) (o : Nat) (w : World), (w.setCells b o vs).os = w.os ∧ (w.setCells b o vs).tape = w.tape ∧ (w.setCells b o vs).output = w.output ∧ (w.setCells b o vs).drawn = w.drawn
 |[],_,_=>⟨rfl,rfl,rfl,rfl⟩
 |v::r,o,w=>by rw [World.setCells];exact di b r (o+1) (w.setCell ⟨b,o,none⟩ v)
theorem j7 (b : Nat) : ∀ (vs : List Value) (o : Nat) (w : World) (k : Nat), jC w.heap[k]? (w.setCells b o vs).heap[k]?
 |[],_,_,_=>.eq rfl
 |v::r,o,w,k=>by
  rw [World.setCells]
  refine jC.trans ?_ (j7 b r _ _ k)
  intro ms c e
  refine ⟨ms,c,?_,List.prefix_refl _,Nat.le_refl _⟩
  simp only [World.setCell,Array.getElem?_modify]
  split
  ·rw [e];rfl
  ·exact e
theorem Inv.store (h : Inv P Y ι μ H w) {id : Nat} {b0 b : k8} (hb0 : aq id H.bl = some b0) {L : Loc} (hL : μ id = some L) (hfree : ∀ o, ι L.b o = none) {o : Nat} {us : List Value}
  (hb:dL P Y.own ι μ id (w.setCells L.b o us) b):Inv P Y ι μ ⟨H.next,(id,b)::bn id H.bl⟩ (w.setCells L.b o us) :=
 h.turn hb0 hL hfree (di _ _ _ _).1 (di _ _ _ _).2.1 (di _ _ _ _).2.2.1 (di _ _ _ _).2.2.2 (size_setCells _ _ _ _) (fun k hk=>iC _ _ _ _ _ hk) (j7 _ _ _ _ _) hb
theorem sI:∀{off:Nat} {vs cs cs':List V} {us xs:List Value},qK off vs cs=some cs'→aG ι μ cs xs→aG ι μ vs us →
  off+us.length≤xs.length∧aG ι μ cs' (xs.take off++us++xs.drop (off+us.length))
 |0,vs,cs,cs',us,xs,h,hc,hv=>by
  unfold qK at h
  split at h
  ·rename_i hl; cases h
   refine ⟨by have:=hc.1;have:=hv.1;omega,?_⟩
   have:=hv.append (hc.drop vs.length)
   rw [hv.1] at this ⊢
   simpa using this
  ·cases h
 |off+1,vs,[],cs',us,xs,h,hc,hv=>by simp [qK] at h
 |off+1,vs,c::cs,cs',us,xs,h,hc,hv=>by
  unfold qK at h
  obtain ⟨x,r,rfl,h1,h2⟩:=hc.bA
  split at h
  ·rename_i r' hr'
   cases h
   obtain ⟨h3,h4⟩:=sI hr' h2 hv
   refine ⟨by simp;omega,?_⟩
   have:=aG.cons h1 h4
   simpa [List.take_succ_cons,show off+1+us.length=(off+us.length)+1 by omega] using this
  ·cases h
end
end Go.AM
end
section
namespace Go.AM
section
variable {P : Program} {Y : Ctx} {ι ι' : aj} {μ μ' : Mu} {H : aF} {w w' : World}
 {c1:Nat→List V→aF→(V→aF→Prop)→Prop} {c2:Nat→List V→V→Prop} {c3:C→St→(Ex→St→Prop)→Prop}
 {c4:Nat→List V→aF→(V→aF→Prop)→Prop} {c5:O→List Nat→C→C→St→(Ex→St→Prop)→Prop} {c6:C→St→(Ex→St→Prop)→Prop}
def jk (bl:ai) (u:eC):Prop:=∀e∈u,∃(id:Nat) (t:Ty) (xs:List t.den) (fz:Bool),e=(id,some (.arr t xs true))∧aq id bl=some (.arr t xs fz)
def JO (ι:aj) (μ:Mu) (u:eC):Prop:=∀(id:Nat) (t:Ty) (xs:List t.den),(id,some (.arr t xs true))∈u→iz ι μ id t xs
theorem jk.nil {bl:ai}:jk bl []:=fun e h=>by cases h
theorem jk.append {bl:ai} {u v:eC} (h:jk bl u) (h':jk bl v):jk bl (u++v):=fun e he=>(List.mem_append.1 he).elim (h e) (h' e)
theorem JO.left {u v:eC} (h:JO ι μ (u++v)):JO ι μ u:=fun id t xs hm=>h id t xs (List.mem_append_left _ hm)
theorem JO.right {u v:eC} (h:JO ι μ (u++v)):JO ι μ v:=fun id t xs hm=>h id t xs (List.mem_append_right _ hm)
theorem iz.mono (hi:ι.le ι') {id:Nat} {t:Ty} {xs:List t.den} (h:iz ι μ id t xs):iz ι' μ id t xs :=
 h.imp (fun h=>h) fun ⟨L,vs,h1,h2,h3,h4⟩=>⟨L,vs,h1,h2.mono hi,bp.mono (fun _ _=>af.mono hi) h3,h4⟩
theorem jS:∀{u:eC} {ι:aj} {bl:ai} {n:Nat},jk bl u→Inv P Y ι μ ⟨n,bl⟩ w →
  ∃ι',ι.le ι'∧Inv P Y ι' μ ⟨n,bw u bl⟩ w∧JO ι' μ u
 |[],ι,bl,n,_,hI=>⟨ι,aj.le_refl _,hI,fun id t xs h=>by cases h⟩
 |e::r,ι,bl,n,hz,hI=>by
  obtain ⟨id,t,xs,fz,rfl,hb⟩:=hz e (List.mem_cons_self)
  obtain ⟨ι1,hle,Fc,hF⟩:=hI.freeze hb
  have qf:jk ((id,.arr t xs true)::bn id bl) r:=fun e he=>by
   obtain ⟨yK,t2,Wr,fz2,rfl,eM⟩:=hz e (List.mem_cons_of_mem _ he)
   by_cases hid:yK=id
   ·subst hid
    rw [hb] at eM;cases eM
    exact ⟨yK,t,xs,true,rfl,by rw [aD,if_pos rfl]⟩
   ·exact ⟨yK,t2,Wr,fz2,rfl,by rw [aD,if_neg hid];exact eM⟩
  obtain ⟨ι2,hle2,nT,hF2⟩:=jS qf Fc
  refine ⟨ι2,aj.le_trans hle hle2,nT,fun yK t2 Wr hm=>?_⟩
  rcases List.mem_cons.1 hm with hm|hm
  ·cases hm;exact hF.mono hle2
  ·exact hF2 yK t2 Wr hm
theorem iz.slice {id:Nat} {t:Ty} {xs:List t.den} (h:iz ι' μ id t xs) {lo n:Nat} {x:Value} (hr:Rel ι μ (.sl id t lo n) x):af ι' (.list t) ((xs.drop lo).take n) [x]:=by
 cases hr with
 |cQ _ _ _ a=>exact ⟨a,0,by simp,by simp,.inl (by simp)⟩
 |sl _ _ _ _ cap L hm h1 h2 h3 =>
  rcases h with ⟨_,hn⟩|⟨L',vs,h4,h5,h6,h7⟩
  ·rw [hn] at hm;cases hm
  ·rw [h4] at hm; cases hm
   have hl:((xs.drop lo).take n).length=n:=by simp;omega
   refine ⟨some ⟨L.b,L.ba+lo * t.sz,none⟩,cap,by rw [hl],by rw [hl];exact h1,.inr ⟨_,_,(vs.drop (lo * t.sz)).take (n * t.sz),rfl,h5.sub _ _,?_⟩⟩
   exact (h6.drop (fun _ _=>af.length) lo).take (fun _ _=>af.length) n
theorem jT : ∀ {t : Ty} {bl : ai} {cs : List V} {x : t.den} {u : eC} {r : List V}, bg (aY c1 c2 c3 c4 c5 c6) bl t cs = some (x, u, r) → jk bl u
 | .unit,bl,cs,x,u,r,h=>by simp [bg] at h;obtain ⟨rfl,rfl⟩:=h;exact .nil
 | .bool,bl,cs,x,u,r,h=>by
  cases cs with
  |nil=>simp [bg] at h
  |cons v r'=>cases v<;>simp [bg] at h<;>(obtain ⟨rfl,rfl,rfl⟩:=h;exact .nil)
 | .str,bl,cs,x,u,r,h=>by
  cases cs with
  |nil=>simp [bg] at h
  |cons v r'=>cases v<;>simp [bg] at h<;>(obtain ⟨rfl,rfl,rfl⟩:=h;exact .nil)
 | .int k,bl,cs,x,u,r,h=>by
  cases cs with
  |nil=>simp [bg] at h
  |cons v r'=>cases v<;>simp [bg] at h<;>(obtain ⟨rfl,rfl,rfl,rfl⟩:=h;exact .nil)
 | .list t,bl,cs,x,u,r,h=>by
  cases cs with
  |nil=>simp [bg] at h
  |cons v r' =>
   cases v<;>simp only [bg] at h<;>try (simp at h;done)
   case eL t' zs=>split at h<;>cases h;exact .nil
   case bW=>cases h;exact .nil
   case sl id t' lo n =>
    split at h
    ·rename_i t'' zs fz hb
     split at h
     ·split at h
      ·cases h
       intro e he;simp at he;subst he
       exact ⟨id,_,zs,fz,rfl,hb⟩
      ·cases h
     ·cases h
    ·cases h
 | .prod a b,bl,cs,x,u,r,h=>by
  simp only [bg] at h
  split at h
  ·rename_i x1 u1 r1 h1
   split at h
   ·rename_i x2 u2 r2 h2
    cases h
    exact (jT h1).append (jT h2)
   ·cases h
  ·cases h
 | .cq d g t,bl,cs,x,u,r,h=>by
  cases cs with
  |nil=>simp [bg] at h
  |cons v r' =>
   cases v<;>simp only [bg] at h<;>try (simp at h;done)
   case cq d' v' =>
    split at h
    ·split at h
     ·split at h
      ·cases h;exact .nil
      ·cases h
     ·cases h
    ·cases h
theorem C1 {ι:aj} {g:Bool} {v:V} {cs:List V} {x:Value} (h:AV g v=some cs) (hr:Rel ι μ v x):∃xs,aG ι μ cs xs∧iq g xs=some x:=by
 cases g with
 |true =>
  cases v<;>simp [AV] at h
  subst h
  cases hr with
  |agg _ xs h1 h2 h3=>exact ⟨xs.toList,⟨by simpa using h1,fun i v x hv hx=>h2 i v x hv (by simpa using hx)⟩,by simp [iq]⟩
 |false =>
  have:cs=[v]:=by cases v<;>simp_all [AV,V.cells?]
  subst this
  exact ⟨[x],.cons hr .nil,rfl⟩
theorem j9:∀{ι:aj} {t:Ty} {bl:ai} {cs:List V} {x:t.den} {u:eC} {r:List V} {xs:List Value},bg (aY c1 c2 c3 c4 c5 c6) bl t cs=some (x,u,r)→aG ι μ cs xs →
  jk bl u∧∀ι',ι.le ι'→JO ι' μ u→∃us ws,xs=us++ws∧af ι' t x us∧aG ι' μ r ws
 |ι,.unit,bl,cs,x,u,r,xs,h,hr=>by
  simp [bg] at h;obtain ⟨rfl,rfl⟩:=h
  exact ⟨.nil,fun ι' hi _=>⟨[],xs,rfl,rfl,hr.mono hi (Mu.le_refl _)⟩⟩
 |ι,.bool,bl,cs,x,u,r,xs,h,hr=>by
  cases cs with
  |nil=>simp [bg] at h
  |cons v r' =>
   cases v<;>simp [bg] at h
   all_goals
    obtain ⟨rfl,rfl,rfl⟩:=h
    obtain ⟨y,ys,rfl,h1,h2⟩:=hr.bA
    cases h1
    exact ⟨.nil,fun ι' hi _=>⟨[_],ys,rfl,rfl,h2.mono hi (Mu.le_refl _)⟩⟩
 |ι,.str,bl,cs,x,u,r,xs,h,hr=>by
  cases cs with
  |nil=>simp [bg] at h
  |cons v r' =>
   cases v<;>simp [bg] at h
   all_goals
    obtain ⟨rfl,rfl,rfl⟩:=h
    obtain ⟨y,ys,rfl,h1,h2⟩:=hr.bA
    cases h1
    exact ⟨.nil,fun ι' hi _=>⟨[_],ys,rfl,rfl,h2.mono hi (Mu.le_refl _)⟩⟩
 |ι,.int k,bl,cs,x,u,r,xs,h,hr=>by
  cases cs with
  |nil=>simp [bg] at h
  |cons v r' =>
   cases v<;>simp [bg] at h
   all_goals
    obtain ⟨rfl,rfl,rfl,rfl⟩:=h
    obtain ⟨y,ys,rfl,h1,h2⟩:=hr.bA
    cases h1
    exact ⟨.nil,fun ι' hi _=>⟨[_],ys,rfl,rfl,h2.mono hi (Mu.le_refl _)⟩⟩
 |ι,.list t,bl,cs,x,u,r,xs,h,hr=>by
  cases cs with
  |nil=>simp [bg] at h
  |cons v r' =>
   obtain ⟨y,ys,rfl,h1,h2⟩:=hr.bA
   cases v<;>simp only [bg] at h<;>try (simp at h;done)
   case eL t' zs =>
    split at h
    ·rename_i zs' hc; cases h
     obtain ⟨e,hz⟩:=dV hc
     subst e;subst hz
     cases h1 with
     |eL _ _ _ hd=>exact ⟨.nil,fun ι' hi _=>⟨[y],ys,rfl,af.mono hi hd,h2.mono hi (Mu.le_refl _)⟩⟩
    ·cases h
   case bW =>
    cases h
    cases h1 with
    |bW a=>exact ⟨.nil,fun ι' hi _=>⟨[_],ys,rfl,⟨a,0,rfl,Nat.le_refl _,.inl rfl⟩,h2.mono hi (Mu.le_refl _)⟩⟩
   case sl id t' lo n =>
    split at h
    ·rename_i t'' zs fz hb
     split at h
     ·rename_i e; subst e
      split at h
      ·rename_i zs' hc; cases h
       obtain ⟨e,hz⟩:=dV hc
       subst e;subst hz
       refine ⟨fun e he=>?_,fun ι' hi hf=>⟨[y],ys,rfl,(hf id _ zs' (by simp)).slice h1,h2.mono hi (Mu.le_refl _)⟩⟩
       simp at he;subst he
       exact ⟨id,_,zs',fz,rfl,hb⟩
      ·cases h
     ·cases h
    ·cases h
 |ι,.prod a b,bl,cs,x,u,r,xs,h,hr=>by
  simp only [bg] at h
  split at h
  ·rename_i x1 u1 r1 h1
   split at h
   ·rename_i x2 u2 r2 h2
    cases h
    obtain ⟨z1,f1⟩:=j9 h1 hr
    have z2:jk bl u2:=jT h2
    refine ⟨z1.append z2,fun ι' hi hf=>?_⟩
    obtain ⟨us,ws,rfl,hd,C2⟩:=f1 ι' hi hf.left
    obtain ⟨Ws,ws2,rfl,hd2,C3⟩:=(j9 h2 C2).2 ι' (aj.le_refl _) hf.right
    exact ⟨us++Ws,ws2,by simp,⟨us,Ws,rfl,hd,hd2⟩,C3⟩
   ·cases h
  ·cases h
 |ι,.cq d g t,bl,cs,x,u,r,xs,h,hr=>by
  cases cs with
  |nil=>simp [bg] at h
  |cons v r' =>
   obtain ⟨y,ys,rfl,h1,h2⟩:=hr.bA
   cases v<;>simp only [bg] at h<;>try (simp at h;done)
   case cq d' v' =>
    split at h
    ·rename_i e; subst e
     split at h
     ·rename_i cs hun
      split at h
      ·rename_i x0 ho
       cases h
       cases h1 with
       |cq _ _ z hz =>
        obtain ⟨zs,r1,r2⟩:=C1 hun hz
        obtain ⟨_,f1⟩:=j9 ho r1
        refine ⟨.nil,fun ι' hi hf=>⟨[_],ys,rfl,?_,h2.mono hi (Mu.le_refl _)⟩⟩
        obtain ⟨us,ws,e1,hd,C2⟩:=f1 ι' hi (fun _ _ _ hm=>by cases hm)
        rw [C2.of_nil,List.append_nil] at e1
        exact ⟨us,z,hd,by rw [←e1];exact r2,rfl⟩
      ·cases h
     ·cases h
    ·cases h
theorem qT : ∀ {t : Ty} {bl : ai} {cs : List V} {x : t.den} {u : eC} {r : List V}, bg (aY c1 c2 c3 c4 c5 c6) bl t cs = some (x, u, r) → cs.length = t.sz + r.length
 | .unit,bl,cs,x,u,r,h=>by simp [bg] at h;obtain ⟨_,rfl⟩:=h;simp [Ty.sz]
 | .bool,bl,cs,x,u,r,h=>by
  cases cs with
  |nil=>simp [bg] at h
  |cons v r'=>cases v<;>simp [bg] at h<;>(obtain ⟨_,_,rfl⟩:=h;simp [Ty.sz];omega)
 | .str,bl,cs,x,u,r,h=>by
  cases cs with
  |nil=>simp [bg] at h
  |cons v r'=>cases v<;>simp [bg] at h<;>(obtain ⟨_,_,rfl⟩:=h;simp [Ty.sz];omega)
 | .int k,bl,cs,x,u,r,h=>by
  cases cs with
  |nil=>simp [bg] at h
  |cons v r'=>cases v<;>simp [bg] at h<;>(obtain ⟨_,_,_,rfl⟩:=h;simp [Ty.sz];omega)
 | .list t,bl,cs,x,u,r,h=>by
  cases cs with
  |nil=>simp [bg] at h
  |cons v r' =>
   cases v<;>simp only [bg] at h<;>try (simp at h;done)
   case eL t' zs=>split at h<;>cases h;simp [Ty.sz];omega
   case bW=>cases h;simp [Ty.sz];omega
   case sl id t' lo n =>
    split at h
    ·split at h
     ·split at h
      ·cases h;simp [Ty.sz];omega
      ·cases h
     ·cases h
    ·cases h
 | .prod a b,bl,cs,x,u,r,h=>by
  simp only [bg] at h
  split at h
  ·rename_i x1 u1 r1 h1
   split at h
   ·rename_i x2 u2 r2 h2
    cases h
    have:=qT h1;have:=qT h2;simp only [Ty.sz];omega
   ·cases h
  ·cases h
 | .cq d g t,bl,cs,x,u,r,h=>by
  cases cs with
  |nil=>simp [bg] at h
  |cons v r' =>
   cases v<;>simp only [bg] at h<;>try (simp at h;done)
   case cq d' v' =>
    split at h
    ·split at h
     ·split at h
      ·cases h;simp [Ty.sz];omega
      ·cases h
     ·cases h
    ·cases h
theorem Mh {t:Ty} {bl:ai} {cs:List V} {y:t.den} {u:eC} {x:Value} (h:bg (aY c1 c2 c3 c4 c5 c6) bl t cs=some (y,u,[])) (hr:aG ι μ cs x.cells.toList):x.cells.size=t.sz:=by
 have:=qT h;have:=hr.1;simp at *;omega
theorem qU:∀{t:Ty} {x:t.den} {p:List Bool} {t':Ty} {y:t'.den} {xs:List Value},pI t x p=some ⟨t',y⟩→af ι t x xs →
  af ι t' y ((xs.drop (t.bC p)).take t'.sz)∧t.bC p+t'.sz≤t.sz∧t.qG p=some t'
 |t,x,[],t',y,xs,h,hc=>by
  have:t=t'∧HEq x y:=by cases t<;>(simp [pI] at h;exact ⟨h.1,h.2⟩)
  obtain ⟨rfl,hy⟩:=this
  cases hy
  have h0:t.bC []=0:=by cases t<;>rfl
  rw [h0]
  refine ⟨by simp [List.take_of_length_le (Nat.le_of_eq hc.length)];exact hc,by omega,by cases t<;>rfl⟩
 | .prod a b,x,false::p,t',y,xs,h,hc=>by
  simp only [pI] at h
  obtain ⟨us,ws,rfl,h1,h2⟩:=hc
  obtain ⟨h3,h4,h5⟩:=qU h h1
  refine ⟨?_,by simp only [Ty.bC,Ty.sz];omega,by simpa [Ty.qG] using h5⟩
  have hl:=h1.length
  rw [Ty.bC,List.drop_append_of_le_length (by omega),List.take_append_of_le_length (by simp;omega)]
  exact h3
 | .prod a b,x,true::p,t',y,xs,h,hc=>by
  simp only [pI] at h
  obtain ⟨us,ws,rfl,h1,h2⟩:=hc
  obtain ⟨h3,h4,h5⟩:=qU h h2
  refine ⟨?_,by simp only [Ty.bC,Ty.sz];omega,by simpa [Ty.qG] using h5⟩
  have hl:=h1.length
  rw [Ty.bC,←hl,List.drop_append,List.drop_eq_nil_of_le (by omega)]
  simpa using h3
 | .unit,x,b::p,t',y,xs,h,hc=>by cases b<;>simp [pI] at h
 | .bool,x,b::p,t',y,xs,h,hc=>by cases b<;>simp [pI] at h
 | .str,x,b::p,t',y,xs,h,hc=>by cases b<;>simp [pI] at h
 | .int k,x,b::p,t',y,xs,h,hc=>by cases b<;>simp [pI] at h
 | .list k,x,b::p,t',y,xs,h,hc=>by cases b<;>simp [pI] at h
 | .cq _ _ _,x,b::p,t',y,xs,h,hc=>by cases b<;>simp [pI] at h
theorem oU : ∀ {t : Ty} {bl : ai} {x y : t.den} {p : List Bool} {vs : List V} {u : eC}, cL (aY c1 c2 c3 c4 c5 c6) bl t x p vs = some (y, u) → jk bl u
 |t,bl,x,y,[],vs,u,h=>by
  have:bg (aY c1 c2 c3 c4 c5 c6) bl t vs=some (y,u,[]):=by
   cases t<;>(simp only [cL] at h;split at h<;>first|(cases h;assumption)|cases h)
  exact jT this
 | .prod a b,bl,x,y,false::p,vs,u,h=>by
  simp only [cL] at h
  split at h
  ·rename_i h';cases h;exact oU h'
  ·cases h
 | .prod a b,bl,x,y,true::p,vs,u,h=>by
  simp only [cL] at h
  split at h
  ·rename_i h';cases h;exact oU h'
  ·cases h
 | .unit,bl,x,y,b::p,vs,u,h=>by cases b<;>simp [cL] at h
 | .bool,bl,x,y,b::p,vs,u,h=>by cases b<;>simp [cL] at h
 | .str,bl,x,y,b::p,vs,u,h=>by cases b<;>simp [cL] at h
 | .int k,bl,x,y,b::p,vs,u,h=>by cases b<;>simp [cL] at h
 | .list k,bl,x,y,b::p,vs,u,h=>by cases b<;>simp [cL] at h
 | .cq _ _ _,bl,x,y,b::p,vs,u,h=>by cases b<;>simp [cL] at h
theorem nU:∀{t:Ty} {bl:ai} {x y:t.den} {p:List Bool} {vs:List V} {u:eC} {us xs:List Value},cL (aY c1 c2 c3 c4 c5 c6) bl t x p vs=some (y,u) →
  aG ι μ vs us→ι.le ι'→JO ι' μ u→af ι' t x xs→t.bC p+us.length≤t.sz∧af ι' t y (xs.take (t.bC p)++us++xs.drop (t.bC p+us.length))
 |t,bl,x,y,[],vs,u,us,xs,h,hr,hi,hf,hc=>by
  have:bg (aY c1 c2 c3 c4 c5 c6) bl t vs=some (y,u,[]):=by
   cases t<;>(simp only [cL] at h;split at h<;>first|(cases h;assumption)|cases h)
  obtain ⟨us',ws,rfl,h1,h2⟩:=(j9 this hr).2 ι' hi hf
  rw [h2.of_nil]
  have h0:t.bC []=0:=by cases t<;>rfl
  have hl:=h1.length
  rw [h0]
  refine ⟨by simp;omega,?_⟩
  rw [List.drop_eq_nil_of_le (by simp;have:=hc.length;omega)]
  simpa using h1
 | .prod a b,bl,x,y,false::p,vs,u,us,xs,h,hr,hi,hf,hc=>by
  simp only [cL] at h
  split at h
  ·rename_i y1 u1 h'
   cases h
   obtain ⟨as,bs,rfl,h1,h2⟩:=hc
   obtain ⟨h3,h4⟩:=nU h' hr hi hf h1
   have hl:=h1.length
   refine ⟨by simp only [Ty.bC,Ty.sz];omega,_,bs,?_,h4,h2⟩
   rw [Ty.bC,List.take_append_of_le_length (by omega),List.drop_append_of_le_length (by omega)]
   simp
  ·cases h
 | .prod a b,bl,x,y,true::p,vs,u,us,xs,h,hr,hi,hf,hc=>by
  simp only [cL] at h
  split at h
  ·rename_i y1 u1 h'
   cases h
   obtain ⟨as,bs,rfl,h1,h2⟩:=hc
   obtain ⟨h3,h4⟩:=nU h' hr hi hf h2
   have hl:=h1.length
   refine ⟨by simp only [Ty.bC,Ty.sz];omega,as,_,?_,h1,h4⟩
   rw [Ty.bC,←hl,List.take_append,List.take_of_length_le (by omega),List.drop_append,List.drop_eq_nil_of_le (by omega)]
   simp [show as.length+b.bC p+us.length - as.length=b.bC p+us.length by omega]
  ·cases h
 | .unit,bl,x,y,b::p,vs,u,us,xs,h,hr,hi,hf,hc=>by cases b<;>simp [cL] at h
 | .bool,bl,x,y,b::p,vs,u,us,xs,h,hr,hi,hf,hc=>by cases b<;>simp [cL] at h
 | .str,bl,x,y,b::p,vs,u,us,xs,h,hr,hi,hf,hc=>by cases b<;>simp [cL] at h
 | .int k,bl,x,y,b::p,vs,u,us,xs,h,hr,hi,hf,hc=>by cases b<;>simp [cL] at h
 | .list k,bl,x,y,b::p,vs,u,us,xs,h,hr,hi,hf,hc=>by cases b<;>simp [cL] at h
 | .cq _ _ _,bl,x,y,b::p,vs,u,us,xs,h,hr,hi,hf,hc=>by cases b<;>simp [cL] at h
theorem iz.le (hi:ι.le ι') {u:eC} (h:JO ι μ u):JO ι' μ u:=fun id t xs hm=>(h id t xs hm).mono hi
theorem vY {t:Ty} {bl:ai}:∀{ι:aj} {n:Nat} {vs:List V} {ys:List t.den} {u:eC} {xs:List Value},l6 (aY c1 c2 c3 c4 c5 c6) bl t n vs=some (ys,u)→aG ι μ vs xs →
  jk bl u∧ys.length=n∧vs.length=n * t.sz∧∀ι',ι.le ι'→JO ι' μ u→bp (af ι' t) ys xs
 |ι,0,vs,ys,u,xs,h,hr=>by
  cases vs with
  |nil=>simp [l6] at h;obtain ⟨rfl,rfl⟩:=h;exact ⟨.nil,rfl,by simp,fun _ _ _=>hr.of_nil⟩
  |cons v r=>simp [l6] at h
 |ι,n+1,vs,ys,u,xs,h,hr=>by
  simp only [l6] at h
  split at h
  ·rename_i x u1 r h1
   split at h
   ·rename_i zs u2 h2
    cases h
    obtain ⟨z1,f1⟩:=j9 h1 hr
    have z2:jk bl u2:=by
     have:∀{n:Nat} {vs:List V} {ys:List t.den} {u:eC},l6 (aY c1 c2 c3 c4 c5 c6) bl t n vs=some (ys,u)→jk bl u:=by
      intro n
      induction n with
      |zero=>intro vs ys u h;cases vs<;>simp [l6] at h;obtain ⟨_,rfl⟩:=h;exact .nil
      |succ n ih =>
       intro vs ys u h
       simp only [l6] at h
       split at h
       ·rename_i h1
        split at h
        ·rename_i h2;cases h;exact (jT h1).append (ih h2)
        ·cases h
       ·cases h
     exact this h2
    have hlen:zs.length=n∧r.length=n * t.sz:=by
     have:∀{n:Nat} {vs:List V} {ys:List t.den} {u:eC},l6 (aY c1 c2 c3 c4 c5 c6) bl t n vs=some (ys,u)→ys.length=n∧vs.length=n * t.sz:=by
      intro n
      induction n with
      |zero=>intro vs ys u h;cases vs<;>simp [l6] at h;obtain ⟨rfl,rfl⟩:=h;simp
      |succ n ih =>
       intro vs ys u h
       simp only [l6] at h
       split at h
       ·rename_i h1
        split at h
        ·rename_i h2; cases h
         obtain ⟨q1,q2⟩:=ih h2
         have:=qT h1
         exact ⟨by simp [q1],by rw [this,q2,Nat.add_mul,Nat.one_mul,Nat.add_comm]⟩
        ·cases h
       ·cases h
     exact this h2
    refine ⟨z1.append z2,by simp [hlen.1],by rw [qT h1,hlen.2,Nat.add_mul,Nat.one_mul,Nat.add_comm],fun ι' hi hf=>?_⟩
    obtain ⟨us,ws,rfl,hd,C2⟩:=f1 ι' hi hf.left
    exact ⟨us,ws,rfl,hd,(vY h2 C2).2.2.2 ι' (aj.le_refl _) hf.right⟩
   ·cases h
  ·cases h
theorem C4 {t : Ty} {xs : List t.den} {vs : List Value} (h : bp (af ι t) xs vs) : ∀ {n i : Nat}, i + n = xs.length → aG ι μ (CO (aY c1 c2 c3 c4 c5 c6) t xs n i) (vs.drop (i * t.sz))
 |0,i,e=>by
  have hl:=h.length (fun _ _=>af.length)
  have:vs.drop (i * t.sz)=[]:=List.drop_eq_nil_of_le (by rw [hl,←e];simp)
  rw [this];exact .nil
 |n+1,i,e=>by
  have hi:xs[i]?=some (xs.getD i t.zero):=by simp [List.getD,show i<xs.length by omega]
  have hc:=h.at (fun _ _=>af.length) hi
  have ih:=C4 h (n:=n) (i:=i+1) (by omega)
  have e1:vs.drop (i * t.sz)=(vs.drop (i * t.sz)).take t.sz++vs.drop ((i+1) * t.sz):=by
   rw [Nat.add_mul,Nat.one_mul,←List.drop_drop,List.take_append_drop]
  rw [e1]
  exact (eP hc).append ih
theorem vZ {t:Ty} {bl:ai}:∀{vs:List V} {ys:List t.den} {u:eC} {xs:List Value},qJ (aY c1 c2 c3 c4 c5 c6) bl t vs=some (ys,u)→aG ι μ vs xs →
  jk bl u∧ys.length=vs.length∧(∀x∈xs,x.cells.size=t.sz)∧∀ι',ι.le ι'→JO ι' μ u→bp (af ι' t) ys (xs.flatMap fun x=>x.cells.toList)
 |[],ys,u,xs,h,hr=>by
  cases h
  rw [hr.of_nil]
  exact ⟨.nil,rfl,by simp,fun ι' _ _=>rfl⟩
 |v::r,ys,u,xs,h,hr=>by
  unfold qJ at h
  obtain ⟨x,xs',rfl,h1,h2⟩:=hr.bA
  split at h
  ·rename_i vs hvs
   obtain ⟨hc,_⟩:=h1.cells hvs
   split at h
   ·rename_i y u1 hy
    split at h
    ·rename_i ys' u2 hys
     cases h
     obtain ⟨a1,a2,a3,a4⟩:=vZ hys h2
     have z1:=jT hy
     refine ⟨z1.append a1,by simp [a2],?_,fun ι' hi hf=>?_⟩
     ·intro x' hx'
      rcases List.mem_cons.1 hx' with rfl|hx'
      ·exact Mh hy hc
      ·exact a3 x' hx'
     ·obtain ⟨us, ws, e, hd, hn⟩ := (j9 hy hc).2 ι' hi hf.left
      have:=hn.of_nil;subst this
      exact ⟨us,_,by simp [e],hd,a4 ι' hi hf.right⟩
    ·cases h
   ·cases h
  ·cases h
end
end Go.AM
end
section
namespace Go.AM
section
variable {P : Program} {Y : Ctx} {ι ι' : aj} {μ μ' : Mu} {H : aF} {w w' : World}
 {c1:Nat→List V→aF→(V→aF→Prop)→Prop} {c2:Nat→List V→V→Prop} {c3:C→St→(Ex→St→Prop)→Prop}
 {c4:Nat→List V→aF→(V→aF→Prop)→Prop} {c5:O→List Nat→C→C→St→(Ex→St→Prop)→Prop} {c6:C→St→(Ex→St→Prop)→Prop}
def nV (ob:List Bool):Prop:=∀b∈ob,b=true
def fE (l:Bool) (n aC:Nat):Nat:=match l with
 |true=>max n (aC+1)
 |false=>n
def Mi (P:Program) (Y:Ctx) (ι:aj) (μ:Mu) (H:aF) (w:World) (aC:Nat) (s:Sem Next) (v:V) (u:eC) (l:Bool):Prop :=
 ∃ι' μ' x w',(s.run P w = .ok (.value x) w'∨(s.run P w = .ok .skip w'∧x=undef))∧ι.le ι'∧μ.le μ'∧(∀id,id≠aC→μ' id=μ id) ∧
  Inv P Y ι' μ' ⟨fE l H.next aC,bw u H.bl⟩ w'∧Rel ι' μ' v x
theorem Mi.pure (h:Inv P Y ι μ H w) {aC:Nat} {s:Sem Next} {v:V} {x:Value} (hs:s.run P w = .ok (.value x) w) (hr:Rel ι μ v x):Mi P Y ι μ H w aC s v [] false :=
 ⟨ι,μ,x,w,.inl hs,aj.le_refl _,Mu.le_refl _,fun _ _=>rfl,h,hr⟩
theorem Mu.sJ {μ:Mu} {n:Nat} {L:Loc}:∀id,id≠n→μ.set n L id=μ id:=fun id h=>by unfold Mu.set;rw [if_neg h]
theorem A7 : ∀ (n : Nat) (r : List Nat), upTo n r = List.range n ++ r
 |0,r=>rfl
 |n+1,r=>by rw [upTo,A7 n,List.range_succ,List.append_assoc];rfl
theorem C5 {f : Nat → Option V} : ∀ {ns : List Nat} {vs : List V}, AW f ns = some vs → ∀ (i : Nat) n, ns[i]? = some n → ∃ v, vs[i]? = some v ∧ f n = some v
 |[],vs,h,i,n,hi=>by simp at hi
 |m::ns,vs,h,i,n,hi=>by
  simp only [AW] at h
  split at h<;>try (cases h;done)
  rename_i v hv
  split at h<;>try (cases h;done)
  rename_i vs' hvs
  cases h
  cases i with
  |zero=>simp at hi;subst hi;exact ⟨v,rfl,hv⟩
  |succ i=>obtain ⟨u,hu,hf⟩:=C5 hvs i n (by simpa using hi);exact ⟨u,by simpa using hu,hf⟩
theorem HI {k : IntKind} : ∀ {vs : List V} {ns : List Int}, asI k vs = some ns → ∀ (i : Nat) v, vs[i]? = some v → ∃ n, ns[i]? = some n ∧ v = .int k n
 |[],ns,h,i,v,hv=>by simp at hv
 |w::vs,ns,h,i,v,hv=>by
  simp only [asI] at h
  split at h<;>try (cases h;done)
  rename_i k' m
  split at h<;>try (cases h;done)
  rename_i e;subst e
  split at h<;>try (cases h;done)
  rename_i ns' hns
  cases h
  cases i with
  |zero=>simp at hv;subst hv;exact ⟨m,rfl,rfl⟩
  |succ i=>obtain ⟨n,hn,e⟩:=HI hns i v (by simpa using hv);exact ⟨n,by simpa using hn,e⟩
theorem Mj {vs:List V} {j:Int} {v:V} (h:LS (aY c1 c2 c3 c4 c5 c6) vs j=some v) (hj:j.toNat<vs.length):vs[j.toNat]?=some v:=by
 simp only [LS] at h
 split at h<;>try (cases h;done)
 rename_i k n r
 split at h<;>try (cases h;done)
 rename_i ns hns
 cases h
 have hx:(V.int k n::r)[j.toNat]?=some (V.int k n::r)[j.toNat]:=by simp
 have hall:asI k (V.int k n::r)=some (n::ns):=by simp [asI,hns]
 obtain ⟨m,hm,e⟩:=HI hall j.toNat _ hx
 rw [hx,e]
 congr 2
 show m=(n::ns).getD j.toNat 0
 simp only [List.getD,hm,Option.getD_some]
theorem C6 {cs : List V} : ∀ {l : List (Nat × Nat × Int)} {o : Nat} {v : V}, CQ (aY c1 c2 c3 c4 c5 c6) cs l o = some v → (∀ x ∈ l, 0 ≤ x.2.2 ∧ x.2.2 < (x.2.1 : Int)) → cs[o + l7 l]? = some v
 |[],o,v,h,_=>h
 |(eF,len,j)::r,o,v,h,hb=>by
  simp only [CQ] at h
  split at h<;>try (cases h;done)
  rename_i vs hvs
  have h0:=hb _ (List.mem_cons_self ..)
  simp only at h0
  have hlen:vs.length=len:=by
   have:∀{f:Nat→Option V} {ns:List Nat} {vs:List V},AW f ns=some vs→vs.length=ns.length:=by
    intro f ns
    induction ns with
    |nil=>intro vs h;cases h;rfl
    |cons n ns ih =>
     intro vs h
     simp only [AW] at h
     split at h<;>try (cases h;done)
     split at h<;>try (cases h;done)
     rename_i vs' hvs
     cases h
     simp [ih hvs]
   rw [this hvs,A7];simp
  have hv:=Mj h (by omega)
  have hlt:j.toNat<len:=by omega
  have hr:(upTo len [])[j.toNat]?=some j.toNat:=by rw [A7,List.append_nil,List.getElem?_range hlt]
  obtain ⟨u,hu,hf⟩:=C5 hvs _ _ hr
  rw [hu] at hv;cases hv
  have:=C6 hf (fun x hx=>hb x (List.mem_cons_of_mem _ hx))
  rw [←this]
  congr 1
  simp only [l7];omega
theorem QT {cs:List V} {o:Nat} {v:V} (h:cs[o]?=some v):cut o 1 cs=some [v]:=by
 have hl:=(List.getElem?_eq_some_iff.1 h).1
 have e:(cs.drop o).take 1=[v]:=by
  rw [List.drop_eq_getElem_cons hl]
  simp [(List.getElem?_eq_some_iff.1 h).2]
 unfold cut
 rw [if_pos (by omega),e]
theorem we (h : Inv P Y ι μ H w) {env : List (Nat × V)} {t : TypeId} {g : Bool} {k : Nat} {x : O} {px : Value} {ob : List Bool} {v : V} {u : eC} {aC : Nat} (hk : cW P t = some k) (hg : sE P t = some g)
  (hx:Rel ι μ (x.ev env) px) (ag:bX (aY c1 c2 c3 c4 c5 c6) (.load g k x) env H.bl aC=some (ob,v,u)) (cV:nV ob) :
  u=[]∧∃y,(Instr.loadAt t px).run P w = .ok y w∧Rel ι μ v y:=by
 have fin:∀{b o:Nat} {cs:List V} {vs:List Value},w.rangeAt b o vs→vs.length=k→aG ι μ cs vs→(∀u∈vs,u.oneCell'=true)→cm g cs=some v →
   ∃y,(Instr.loadAt t (.pointer (some ⟨b,o,none⟩))).run P w = .ok y w∧Rel ι μ v y:=fun hr hl hR h1 hw=>by
  obtain ⟨y,hy,hv⟩:=sH hw hR h1
  exact ⟨y,FB hk hg hr hl hy,hv⟩
 simp only [bX] at ag
 split at ag<;>try (cases ag;done)
 ·rename_i id off dD
  rw [dD] at hx
  split at ag<;>try (cases ag;done)
  rename_i cs fz hb
  split at ag<;>try (cases ag;done)
  rename_i vs' sK
  split at ag<;>try (cases ag;done)
  rename_i v' hwr
  cases ag
  obtain ⟨L,vs,hM,hR⟩:=h.live _ _ hb
  cases hx with
  |ptr _ _ L' hL =>
   rw [hM.mu] at hL;cases hL
   obtain ⟨r1,r2,r3⟩:=hR.qM sK
   exact ⟨rfl,fin (dR hM.rangeAt off k) (by rw [←r1.1];exact r2) r1 (fun u hu=>hM.one u (List.mem_of_mem_drop (List.mem_of_mem_take hu))) hwr⟩
 ·rename_i cs dD
  rw [dD] at hx
  split at ag<;>try (cases ag;done)
  rename_i vs' sK
  split at ag<;>try (cases ag;done)
  rename_i v' hwr
  cases ag
  cases hx with
  |ff _ b o gf h1 h2 h3 =>
   have hR:aG ι μ cs ((List.range cs.length).map gf):=⟨by simp,fun i v x hv hx=>by
    have hi:=(List.getElem?_eq_some_iff.1 hv).1
    simp [hi] at hx;subst hx;exact h2 i v hv⟩
   have hrg:w.rangeAt b o ((List.range cs.length).map gf):=fun j v hv=>by
    have hj:j<cs.length:=by have:=(List.getElem?_eq_some_iff.1 hv).1;simpa using this
    simp [hj] at hv;subst hv;exact h.rd _ _ _ (h1 j hj)
   obtain ⟨r1,r2,r3⟩:=hR.qM sK
   have:=dR hrg 0 k
   exact ⟨rfl,fin this (by rw [←r1.1];exact r2) r1 (fun u hu=>by
    have hu:=List.mem_of_mem_drop (List.mem_of_mem_take hu)
    obtain ⟨i,_,rfl⟩:=List.mem_map.1 hu;exact h3 i) hwr⟩
 ·rename_i id te i p dD
  rw [dD] at hx
  split at ag<;>try (cases ag;done)
  case h_2 =>
   rename_i t' xs i' p' v' hb
   split at ag<;>try (cases ag;done)
   rename_i e;obtain ⟨rfl,rfl,rfl⟩:=e
   split at ag<;>try (cases ag;done)
   cases ag
   have hii:i=i':=by
    have:=cV _ (List.mem_singleton.2 rfl)
    simp [aY] at this;omega
   subst hii
   obtain ⟨L,us,vs,c,hM,hR,hl,h1,h2,h3,h4⟩:=h.live _ _ hb
   cases hx with
   |ep _ _ _ _ L' hL =>
    rw [hM.mu] at hL;cases hL
    have hlt:i * te.sz+te.bC p<vs.length:=by rw [h3];simpa using h2
    have hc:vs[i * te.sz+te.bC p]?=some c:=by rw [h3];simp [h2]
    have sK:(vs.drop (i * te.sz+te.bC p)).take 1=[c]:=by
     rw [List.drop_eq_getElem_cons hlt]
     simp [(List.getElem?_eq_some_iff.1 hc).2]
    have C2:=dR hM.rangeAt (i * te.sz+te.bC p) 1
    rw [sK] at C2
    have:=fin C2 rfl (aG.cons h4 aG.nil) (fun u hu=>by
     rw [List.mem_singleton.1 hu]
     exact hM.one c (List.mem_of_getElem? hc)) (show cm false [v]=some v from rfl)
    rw [←Nat.add_assoc] at this
    exact ⟨rfl,this⟩
  rename_i t' xs fz hb
  split at ag<;>try (cases ag;done)
  rename_i e;subst e
  split at ag<;>try (cases ag;done)
  rename_i t2 y mQ
  split at ag<;>try (cases ag;done)
  rename_i hlen
  split at ag<;>try (cases ag;done)
  rename_i v' hwr
  cases ag
  have hi:i<xs.length:=by simpa using cV _ (List.mem_singleton.2 rfl)
  rcases h.live _ _ hb with ⟨rfl,_⟩|⟨L,vs,hM,hR,hl⟩
  ·simp at hi
  ·cases hx with
   |ep _ _ _ _ L' hL =>
    rw [hM.mu] at hL;cases hL
    have FC:xs[i]?=some (xs.getD i te.zero):=by simp [List.getD,hi]
    have hc:=hR.at (fun _ _=>af.length) FC
    obtain ⟨g1,g2,_⟩:=qU mQ hc
    have C2:=dR hM.rangeAt (i * te.sz) te.sz
    have C3:=dR C2 (te.bC p) t2.sz
    have nD:=eP (μ:=μ) g1
    exact ⟨rfl,fin C3 (by rw [←nD.1];exact hlen) nD (af.one g1) hwr⟩
 ·rename_i ti y dD
  rw [dD] at hx
  split at ag<;>try (cases ag;done)
  rename_i hlen
  split at ag<;>try (cases ag;done)
  rename_i v' hwr
  cases ag
  cases hx with
  |ip _ _ b o us h1 h2 =>
   have nD:=eP (μ:=μ) h2
   exact ⟨rfl,fin (h1.rangeAt h.rd) (by rw [←nD.1];exact hlen) nD (af.one h2) hwr⟩
 ·rename_i id te m dD
  rw [dD] at hx
  split at ag<;>try (cases ag;done)
  rename_i t' xs fz hb
  split at ag<;>try (cases ag;done)
  rename_i e;subst e
  split at ag<;>try (cases ag;done)
  rename_i hlen
  split at ag<;>try (cases ag;done)
  rename_i v' hwr
  cases ag
  cases hx with
  |pa _ _ _ L' hL hm =>
   rcases h.live _ _ hb with ⟨rfl,hn⟩|⟨L,vs,hM,hR,hl⟩
   ·rw [hn] at hL;cases hL
   ·rw [hM.mu] at hL; cases hL
    have nD:=C4 (μ:=μ) (c1:=c1) (c2:=c2) (c3:=c3) (c4:=c4) (c5:=c5) (c6:=c6) hR (n:=m) (i:=0) (by omega)
    simp only [Nat.zero_mul,List.drop_zero] at nD
    exact ⟨rfl,fin hM.rangeAt (by rw [←nD.1];exact hlen) nD hM.one hwr⟩
 ·rename_i id o l dD
  rw [dD] at hx
  split at ag<;>try (cases ag;done)
  rename_i cs fz hb
  split at ag<;>try (cases ag;done)
  split at ag<;>try (cases ag;done)
  rename_i v1 hga
  split at ag<;>try (cases ag;done)
  rename_i v' hwr
  cases ag
  obtain ⟨L,vs,hM,hR⟩:=h.live _ _ hb
  cases hx with
  |sp _ _ _ L' hL hbn =>
   rw [hM.mu] at hL;cases hL
   have sK:cut (o+l7 l) 1 cs=some [v1]:=QT (C6 hga hbn)
   obtain ⟨r1,r2,r3⟩:=hR.qM sK
   exact ⟨rfl,fin (dR hM.rangeAt (o+l7 l) 1) (by rw [←r1.1];exact r2) r1 (fun u hu=>hM.one u (List.mem_of_mem_drop (List.mem_of_mem_take hu))) hwr⟩
theorem dS : ∀ (u v : eC) (bl : ai), bw (u ++ v) bl = bw v (bw u bl)
 |[],v,bl=>rfl
 |(id,none)::r,v,bl=>dS r v _
 |(id,some b)::r,v,bl=>dS r v _
theorem jk.aq : ∀ {u : eC} {bl : ai} {id : Nat} {t : Ty} {xs : List t.den} {fz : Bool}, jk bl u → aq id bl = some (.arr t xs fz) → ∃ Wt, aq id (bw u bl) = some (.arr t xs Wt)
 |[],bl,id,t,xs,fz,_,h=>⟨fz,h⟩
 |e::r,bl,id,t,xs,fz,hz,h=>by
  obtain ⟨UJ,t1,xs1,fz1,rfl,hb⟩:=hz e List.mem_cons_self
  have qf:jk ((UJ,.arr t1 xs1 true)::bn UJ bl) r:=fun e he=>by
   obtain ⟨yK,t2,Wr,fz2,rfl,eM⟩:=hz e (List.mem_cons_of_mem _ he)
   by_cases hid:yK=UJ
   ·subst hid
    rw [hb] at eM;cases eM
    exact ⟨yK,t1,xs1,true,rfl,by rw [aD,if_pos rfl]⟩
   ·exact ⟨yK,t2,Wr,fz2,rfl,by rw [aD,if_neg hid];exact eM⟩
  by_cases hid:id=UJ
  ·subst hid
   rw [hb] at h;cases h
   simp only [bw]
   exact jk.aq (fz:=true) qf (by rw [aD,if_pos rfl])
  ·simp only [bw]
   exact jk.aq qf (by rw [aD,if_neg hid];exact h)
theorem jk.mR : ∀ {u : eC} {bl : ai} {id : Nat}, jk bl u → (∀ e ∈ u, e.1 ≠ id) → AM.aq id (bw u bl) = AM.aq id bl
 |[],bl,id,_,_=>rfl
 |e::r,bl,id,hz,h=>by
  obtain ⟨UJ,t1,xs1,fz1,rfl,hb⟩:=hz e List.mem_cons_self
  have qf:jk ((UJ,.arr t1 xs1 true)::bn UJ bl) r:=fun e he=>by
   obtain ⟨yK,t2,Wr,fz2,rfl,eM⟩:=hz e (List.mem_cons_of_mem _ he)
   by_cases hid:yK=UJ
   ·subst hid
    rw [hb] at eM;cases eM
    exact ⟨yK,t1,xs1,true,rfl,by rw [aD,if_pos rfl]⟩
   ·exact ⟨yK,t2,Wr,fz2,rfl,by rw [aD,if_neg hid];exact eM⟩
  have:=jk.mR qf (fun e he=>h e (List.mem_cons_of_mem _ he))
  simp only [bw]
  rw [this,aD,if_neg (fun e=>h _ List.mem_cons_self e.symm)]
theorem zC (h:Inv P Y ι μ H w) {aC:Nat} (hn:μ aC=none) {cs:List V} {xs:List Value} (hr:aG ι μ cs xs) (h1:∀u∈xs,u.oneCell'=true) (e:TypeId) :
  ∃μ',μ.le μ'∧(∀id,id≠aC→μ' id=μ id)∧Inv P Y ι μ' ⟨max H.next (aC+1),(aC,.cells cs false)::bn aC H.bl⟩ (w.alloc (.cells xs.toArray e))∧Rel ι μ' (.ptr aC 0) (.pointer (some ⟨w.heap.size,0,none⟩)):=by
 let L:Loc:=⟨w.heap.size,0,xs.length,0⟩
 have hle:=Mu.fD (L:=L) hn
 have fH:μ.set aC L aC=some L:=by simp [Mu.set]
 have hfree:∀o,ι w.heap.size o=none:=fun o=>by
  cases vX:ι w.heap.size o with
  |none=>rfl
  |some y=>have:=World.block_lt_of_cell? _ _ (h.rd _ _ _ vX);simp at this
 refine ⟨_,hle,Mu.sJ,h.lay hn (L:=L) rfl ⟨L,xs,⟨fH,(.inl h.below.size),⟨xs.toArray,e,?_,by simp [L],fun j v hv=>by simpa [L] using hv⟩,by simp [L],h1,(fun e=>by cases e),fun _=>hfree⟩,hr.mono (aj.le_refl _) hle⟩,.ptr _ _ L fH⟩
 show (w.heap.push _)[w.heap.size]?=_
 simp
theorem uX (h:Inv P Y ι μ H w) {aC:Nat} (hn:μ aC=none) {t:Ty} {ys:List t.den} {xs rest:List Value} (hr:bp (af ι t) ys xs) (e:TypeId) (cap:Nat) (hc:ys.length≤cap) (hcap:cap * t.sz≤xs.length+rest.length) :
  ∃μ',μ.le μ'∧(∀id,id≠aC→μ' id=μ id)∧Inv P Y ι μ' ⟨max H.next (aC+1),(aC,.arr t ys false)::bn aC H.bl⟩ (w.alloc (.cells (xs++rest).toArray e)) ∧
   Rel ι μ' (.sl aC t 0 ys.length) (.slice (some ⟨w.heap.size,0,none⟩) ys.length cap):=by
 let L:Loc:=⟨w.heap.size,0,xs.length+rest.length,ys.length⟩
 have hle:=Mu.fD (L:=L) hn
 have fH:μ.set aC L aC=some L:=by simp [Mu.set]
 have hfree:∀o,ι w.heap.size o=none:=fun o=>by
  cases vX:ι w.heap.size o with
  |none=>rfl
  |some y=>have:=World.block_lt_of_cell? _ _ (h.rd _ _ _ vX);simp at this
 refine ⟨_,hle,Mu.sJ,h.lay hn (L:=L) rfl (.inr ⟨L,xs,⟨fH,(.inl h.below.size),⟨(xs++rest).toArray,e,?_,by simp [L],fun j v hv=>?_⟩,by simp [L],
  bp.one (fun _ _=>af.one) hr,(fun e=>by cases e),fun _=>hfree⟩,hr,rfl⟩),?_⟩
 ·show (w.heap.push _)[w.heap.size]? = _
  simp
 ·have := (List.getElem?_eq_some_iff.1 hv).1
  simp only [L,Nat.zero_add,List.getElem?_toArray]
  rw [List.getElem?_append_left this];exact hv
 ·have := Rel.sl (ι := ι) (μ := μ.set aC L) aC t 0 ys.length cap L fH hc (by simpa [L] using hcap) (by simp [L])
  simpa [L] using this
end
end Go.AM
end
section
namespace Go.AM
section
variable {P : Program} {Y : Ctx} {ι ι' : aj} {μ μ' : Mu} {H : aF} {w w' : World}
 {c1:Nat→List V→aF→(V→aF→Prop)→Prop} {c2:Nat→List V→V→Prop} {c3:C→St→(Ex→St→Prop)→Prop}
 {c4:Nat→List V→aF→(V→aF→Prop)→Prop} {c5:O→List Nat→C→C→St→(Ex→St→Prop)→Prop} {c6:C→St→(Ex→St→Prop)→Prop}
theorem splice {α:Type} (ws us:List α) (a o sz:Nat) (h:o+us.length≤sz) :
  ws.take a++(((ws.drop a).take sz).take o++us++((ws.drop a).take sz).drop (o+us.length))++ws.drop (a+sz)=ws.take (a+o)++us++ws.drop (a+o+us.length):=by
 have h1:ws.take a++((ws.drop a).take sz).take o=ws.take (a+o):=by
  rw [List.take_take,Nat.min_eq_left (by omega),List.take_add]
 have h2:((ws.drop a).take sz).drop (o+us.length)++ws.drop (a+sz)=ws.drop (a+o+us.length):=by
  rw [List.drop_take,List.drop_drop,show ws.drop (a+sz)=(ws.drop (a+(o+us.length))).drop (sz - (o+us.length)) by rw [List.drop_drop];congr 1;omega,
   List.take_append_drop]
  congr 1;omega
 simp only [List.append_assoc]
 rw [←List.append_assoc (ws.take a),h1,h2]
theorem qV {id : Nat} : ∀ {u : eC}, tS id u = true → ∀ e ∈ u, e.1 ≠ id
 |[],_,e,h=>by cases h
 |(s,b)::r,h,e,he=>by
  unfold tS at h
  split at h
  ·cases h
  ·rename_i hs
   rcases List.mem_cons.1 he with rfl|he
   ·intro e;simp only at e;subst e;rw [Nat.beq_refl] at hs;cases hs
   ·exact qV h e he
theorem C7 (h : Inv P Y ι μ H w) {env : List (Nat × V)} {t : TypeId} {k : Nat} {x a : O} {vx pa : Value} {ob : List Bool} {v : V} {u : eC} {aC : Nat} (hk : cW P t = some k)
  (hx:Rel ι μ (x.ev env) vx) (ha:Rel ι μ (a.ev env) pa) (ag:bX (aY c1 c2 c3 c4 c5 c6) (.store k a x) env H.bl aC=some (ob,v,u)) (cV:nV ob) :
  ∃ι' w',(Instr.storeAt t pa vx).run P w = .ok () w'∧ι.le ι'∧Inv P Y ι' μ ⟨H.next,bw u H.bl⟩ w'∧v = .any:=by
 simp only [bX] at ag
 split at ag<;>try (cases ag;done)
 rename_i vs hvs
 obtain ⟨hc,h1⟩:=hx.cells hvs
 split at ag<;>try (cases ag;done)
 rename_i hlen
 have hsz:vx.cells.size=k:=by have:=hc.1;simp at this;omega
 split at ag<;>try (cases ag;done)
 ·rename_i id off Wu
  rw [Wu] at ha
  split at ag<;>try (cases ag;done)
  rename_i cs hb
  split at ag<;>try (cases ag;done)
  rename_i cs' ew
  cases ag
  obtain ⟨L,ws,hM,hR⟩:=h.live _ _ hb
  cases ha with
  |ptr _ _ L' hL =>
   rw [hM.mu] at hL;cases hL
   obtain ⟨hle,gI⟩:=sI ew hR hc
   have hf:=hM.fits
   have hl:vx.cells.toList.length=k:=by simpa using hsz
   refine ⟨ι,_,iV hk (hM.there (by omega) (by omega)) hsz h1,aj.le_refl _,?_,rfl⟩
   exact h.store hb hM.mu (hM.pP rfl) ⟨L,_,hM.write hle h1,gI⟩
 ·rename_i id te i p Wu
  rw [Wu] at ha
  split at ag<;>try (cases ag;done)
  rename_i t' xs hb
  split at ag<;>try (cases ag;done)
  rename_i e;subst e
  split at ag<;>try (cases ag;done)
  rename_i y u0 ew
  split at ag<;>try (cases ag;done)
  rename_i hni
  cases ag
  have hi:i<xs.length:=by simpa using cV _ (List.mem_singleton.2 rfl)
  have hz:=oU ew
  obtain ⟨ι',hle,hI,hF⟩:=jS hz h
  have hb':aq id (bw u0 H.bl)=some (.arr te xs false):=by rw [hz.mR (qV hni)];exact hb
  rcases hI.live _ _ hb' with ⟨rfl,_⟩|⟨L,ws,hM,hR,hl⟩
  ·simp at hi
  ·cases ha with
   |ep _ _ _ _ L' hL =>
    rw [hM.mu] at hL;cases hL
    have FC:xs[i]?=some (xs.getD i te.zero):=by simp [List.getD,hi]
    have hcell:=hR.at (fun _ _=>af.length) FC
    obtain ⟨g1,g2⟩:=nU ew hc hle hF hcell
    have hwl:=hR.length (fun _ _=>af.length)
    have hf:=hM.fits
    have yL:vx.cells.toList.length=k:=by simpa using hsz
    have hmul:i * te.sz+te.sz≤xs.length * te.sz:=by
     have:=Nat.mul_le_mul_right te.sz (show i+1≤xs.length from hi)
     rwa [Nat.add_mul,Nat.one_mul] at this
    refine ⟨ι',_,iV hk (hM.there (by omega) (by omega)) hsz h1,hle,?_,rfl⟩
    rw [dS]
    have hw:=hM.write (d:=i * te.sz+te.bC p) (us:=vx.cells.toList) (by omega) h1
    rw [←Nat.add_assoc] at hw
    refine hI.store hb' hM.mu (hM.pP rfl) (.inr ⟨L,_,hw,?_,by simpa using hl⟩)
    have tW:=hR.set (fun _ _=>af.length) hi g2
    have hsp:=splice ws vx.cells.toList (i * te.sz) (te.bC p) te.sz g1
    rw [show (i+1) * te.sz=i * te.sz+te.sz by rw [Nat.add_mul,Nat.one_mul],hsp] at tW
    exact tW
 ·rename_i id te m Wu
  rw [Wu] at ha
  split at ag<;>try (cases ag;done)
  rename_i t' xs hb
  split at ag<;>try (cases ag;done)
  rename_i e;subst e
  split at ag<;>try (cases ag;done)
  rename_i ys u0 ew
  split at ag<;>try (cases ag;done)
  rename_i hni
  cases ag
  obtain ⟨hz,Wv,hvl,eD⟩:=vY ew hc
  obtain ⟨ι',hle,hI,hF⟩:=jS hz h
  have hb':aq id (bw u0 H.bl)=some (.arr te xs false):=by rw [hz.mR (qV hni)];exact hb
  cases ha with
  |pa _ _ _ L' hL hm =>
   rcases hI.live _ _ hb' with ⟨rfl,hn⟩|⟨L,ws,hM,hR,hl⟩
   ·rw [hn] at hL;cases hL
   ·rw [hM.mu] at hL; cases hL
    have hwl:=hR.length (fun _ _=>af.length)
    have hf:=hM.fits
    have yL:vx.cells.toList.length=k:=by simpa using hsz
    have hkk:k=xs.length * te.sz:=by rw [←hlen,hvl,hl,hm]
    refine ⟨ι',_,iV hk (hM.there (Nat.le_refl _) (by omega)) hsz h1,hle,?_,rfl⟩
    rw [dS]
    have hw:=hM.write (d:=0) (us:=vx.cells.toList) (by omega) h1
    rw [Nat.add_zero] at hw
    refine hI.store hb' hM.mu (hM.pP rfl) (.inr ⟨_,_,hw,?_,by omega⟩)
    have:ws.drop (0+vx.cells.toList.length)=[]:=List.drop_eq_nil_of_le (by omega)
    rw [this]
    simpa using eD ι' hle hF
theorem wg : ∀ {t t1 : Ty} {p q : List Bool}, t.qG p = some t1 → t.bC (p ++ q) = t.bC p + t1.bC q
 |t,t1,[],q,h=>by
  have:t=t1:=by cases t<;>(simp [Ty.qG] at h;exact h)
  subst this
  have:t.bC []=0:=by cases t<;>rfl
  rw [this];simp
 | .prod a b,t1,false::p,q,h=>by
  simp only [Ty.qG] at h
  simp only [List.cons_append,Ty.bC]
  exact wg h
 | .prod a b,t1,true::p,q,h=>by
  simp only [Ty.qG] at h
  simp only [List.cons_append,Ty.bC]
  rw [wg h];omega
 | .unit,t1,b::p,q,h=>by cases b<;>simp [Ty.qG] at h
 | .bool,t1,b::p,q,h=>by cases b<;>simp [Ty.qG] at h
 | .str,t1,b::p,q,h=>by cases b<;>simp [Ty.qG] at h
 | .int k,t1,b::p,q,h=>by cases b<;>simp [Ty.qG] at h
 | .list k,t1,b::p,q,h=>by cases b<;>simp [Ty.qG] at h
 | .cq _ _ _,t1,b::p,q,h=>by cases b<;>simp [Ty.qG] at h
theorem wh : ∀ {t : Ty} {vs : List V} {q : List Bool} {cs : List Value}, uA t vs = some q → aG ι μ vs cs → ∃ c, cs[t.bC q]? = some c ∧ Rel ι μ .bW c
 | .list s,[],q,cs,h,hr=>by simp [uA] at h
 | .list s,x::r,q,cs,h,hr=>by
  obtain ⟨y,ys,rfl,h1,h2⟩:=hr.bA
  cases x<;>simp [uA] at h
  subst h
  exact ⟨y,by simp [Ty.bC],h1⟩
 | .prod a b,vs,q,cs,h,hr=>by
  simp only [uA] at h
  split at h
  ·rename_i p h1
   cases h
   have:=wh (t:=a) h1 hr
   simpa only [Ty.bC] using this
  ·split at h <;> try (cases h; done)
   rename_i p h1
   cases h
   obtain ⟨c,e1,e2⟩:=wh h1 (hr.drop a.sz)
   rw [List.getElem?_drop] at e1
   exact ⟨c,e1,e2⟩
 | .unit,vs,q,cs,h,hr=>by simp [uA] at h
 | .bool,vs,q,cs,h,hr=>by simp [uA] at h
 | .str,vs,q,cs,h,hr=>by simp [uA] at h
 | .int k,vs,q,cs,h,hr=>by simp [uA] at h
 | .cq _ _ _,vs,q,cs,h,hr=>by simp [uA] at h
theorem QU (h:Inv P Y ι μ H w) {aC:Nat} (hn:μ aC=none) {t:Ty} {y:t.den} {xs:List Value} (hr:bp (af ι t) [y] xs) (e:TypeId) {p:List Bool} {c:Value} (hc:xs[t.bC p]?=some c) (hcr:Rel ι μ .bW c) :
  ∃μ',μ.le μ'∧(∀id,id≠aC→μ' id=μ id)∧Inv P Y ι μ' ⟨max H.next (aC+1),(aC,.mJ t [y] 0 p .bW)::bn aC H.bl⟩ (w.alloc (.cells (xs++[]).toArray e)) ∧
   Rel ι μ' (.sl aC t 0 1) (.slice (some ⟨w.heap.size,0,none⟩) 1 1):=by
 let L:Loc:=⟨w.heap.size,0,xs.length,1⟩
 have hle:=Mu.fD (L:=L) hn
 have fH:μ.set aC L aC=some L:=by simp [Mu.set]
 have hfree:∀o,ι w.heap.size o=none:=fun o=>by
  cases vX:ι w.heap.size o with
  |none=>rfl
  |some y=>have:=World.block_lt_of_cell? _ _ (h.rd _ _ _ vX);simp at this
 have hlt:=(List.getElem?_eq_some_iff.1 hc).1
 have ew:xs=xs.set (t.bC p) c:=by
  conv=>lhs;rw [←List.set_getElem_self (as:=xs) hlt]
  rw [(List.getElem?_eq_some_iff.1 hc).2]
 refine ⟨_,hle,Mu.sJ,h.lay hn (L:=L) rfl ⟨L,xs,xs,c,⟨fH,(.inl h.below.size),⟨(xs++[]).toArray,e,?_,by simp [L],fun j v hv=>?_⟩,by simp [L],
  bp.one (fun _ _=>af.one) hr,(fun e=>by cases e),fun _=>hfree⟩,hr,rfl,by simp,by simpa using hlt,by simpa using ew,hcr.mono (aj.le_refl _) hle⟩,?_⟩
 ·show (w.heap.push _)[w.heap.size]? = _
  simp
 ·simpa [L] using hv
 ·have hl := hr.length (fun _ _ => af.length)
  have:=Rel.sl (ι:=ι) (μ:=μ.set aC L) aC t 0 1 1 L fH (Nat.le_refl _) (by simp [L,hl]) (by simp [L])
  simpa [L] using this
theorem wj:∀{t:Ty} {vs:List V} {q:List Bool} {v:V} {vs':List V} {cs:List Value},lT t vs=some (q,v,vs')→aG ι μ vs cs →
  ∃c,cs[t.bC q]?=some c∧Rel ι μ v c∧aG ι μ vs' (cs.set (t.bC q) (.slice none 0 0))
 | .list s,[],q,v,vs',cs,h,hr=>by simp [lT] at h
 | .list s,x::r,q,v,vs',cs,h,hr=>by
  obtain ⟨y,ys,rfl,h1,h2⟩:=hr.bA
  cases x<;>simp [lT] at h
  obtain ⟨rfl,rfl,rfl⟩:=h
  refine ⟨y,by simp [Ty.bC],h1,?_⟩
  simp only [Ty.bC,List.set_cons_zero]
  exact .cons (.bW _) h2
 | .prod a b,vs,q,v,vs',cs,h,hr=>by
  simp only [lT] at h
  split at h
  ·rename_i p v1 vs1 h1
   cases h
   have:=wj (t:=a) h1 hr
   simpa only [Ty.bC] using this
  ·split at h <;> try (cases h; done)
   rename_i p v1 vs1 h1
   cases h
   obtain ⟨c,e1,e2,e3⟩:=wj h1 (hr.drop a.sz)
   rw [List.getElem?_drop] at e1
   have hlt:=(List.getElem?_eq_some_iff.1 e1).1
   refine ⟨c,e1,e2,?_⟩
   have:cs.set (a.sz+b.bC p) (.slice none 0 0)=cs.take a.sz++(cs.drop a.sz).set (b.bC p) (.slice none 0 0):=by
    conv=>lhs;rw [←List.take_append_drop a.sz cs]
    rw [List.set_append_right _ _ (by simp;omega)]
    congr 2
    simp;omega
   simp only [Ty.bC]
   rw [this]
   exact (hr.take a.sz).append e3
 | .unit,vs,q,v,vs',cs,h,hr=>by simp [lT] at h
 | .bool,vs,q,v,vs',cs,h,hr=>by simp [lT] at h
 | .str,vs,q,v,vs',cs,h,hr=>by simp [lT] at h
 | .int k,vs,q,v,vs',cs,h,hr=>by simp [lT] at h
 | .cq _ _ _,vs,q,v,vs',cs,h,hr=>by simp [lT] at h
theorem Mk {α:Type} {A cs B:List α} {j:Nat} {z c:α} (h:cs[j]?=some c):(A++cs.set j z++B).set (A.length+j) c=A++cs++B:=by
 obtain ⟨hj,rfl⟩:=List.getElem?_eq_some_iff.1 h
 rw [List.append_assoc,List.set_append_right _ _ (by omega),List.append_assoc]
 congr 1
 rw [show A.length+j - A.length=j by omega,List.set_append_left _ _ (by simpa using hj)]
 congr 1
 simp
theorem A8 (h : Inv P Y ι μ H w) {aC : Nat} {env : List (Nat × V)} {t : TypeId} {k : Nat} {x a : O} {vx pa : Value} {ob : List Bool} {v : V} {u : eC} (hk : cW P t = some k)
  (hx:Rel ι μ (x.ev env) vx) (ha:Rel ι μ (a.ev env) pa) (ag:yQ (aY c1 c2 c3 c4 c5 c6) (.store k a x) env H.bl aC=some (ob,v,u)) (cV:nV ob) :
  ∃w',(Instr.storeAt t pa vx).run P w = .ok () w'∧Inv P Y ι μ ⟨H.next,bw u H.bl⟩ w'∧v = .any:=by
 simp only [yQ] at ag
 split at ag<;>try (cases ag;done)
 rename_i vs hvs
 obtain ⟨hc,h1⟩:=hx.cells hvs
 split at ag<;>try (cases ag;done)
 rename_i hlen
 have hsz:vx.cells.size=k:=by have:=hc.1;simp at this;omega
 have yL:vx.cells.toList.length=k:=by simpa using hsz
 split at ag<;>try (cases ag;done)
 rename_i id te i p Wu
 rw [Wu] at ha
 split at ag<;>try (cases ag;done)
 ·rename_i t' xs hb
  split at ag<;>try (cases ag;done)
  rename_i e;subst e
  split at ag<;>try (cases ag;done)
  rename_i t1 hat
  split at ag<;>try (cases ag;done)
  rename_i q v1 vs1 hop
  split at ag<;>try (cases ag;done)
  rename_i y ew
  cases ag
  have hi:i<xs.length:=by simpa using cV _ (List.mem_singleton.2 rfl)
  obtain ⟨c,e1,e2,e3⟩:=wj hop hc
  rcases h.live _ _ hb with ⟨rfl,_⟩|⟨L,ws,hM,hR,hl⟩
  ·simp at hi
  ·cases ha with
   |ep _ _ _ _ L' hL =>
    rw [hM.mu] at hL;cases hL
    have FC:xs[i]?=some (xs.getD i te.zero):=by simp [List.getD,hi]
    have hcell:=hR.at (fun _ _=>af.length) FC
    obtain ⟨g1,g2⟩:=nU ew e3 (aj.le_refl _) (fun id t xs h=>by cases h) hcell
    rw [List.length_set] at g1
    have hwl:=hR.length (fun _ _=>af.length)
    have hf:=hM.fits
    have hj:=(List.getElem?_eq_some_iff.1 e1).1
    have hmul:i * te.sz+te.sz≤xs.length * te.sz:=by
     have:=Nat.mul_le_mul_right te.sz (show i+1≤xs.length from hi)
     rwa [Nat.add_mul,Nat.one_mul] at this
    refine ⟨_,iV hk (hM.there (by omega) (by omega)) hsz h1,?_,rfl⟩
    have hw:=hM.write (d:=i * te.sz+te.bC p) (us:=vx.cells.toList) (by omega) h1
    rw [←Nat.add_assoc] at hw
    have tW:=hR.set (fun _ _=>af.length) hi g2
    have hsp:=splice ws (vx.cells.toList.set (t1.bC q) (.slice none 0 0)) (i * te.sz) (te.bC p) te.sz (by simpa using g1)
    rw [show (i+1) * te.sz=i * te.sz+te.sz by rw [Nat.add_mul,Nat.one_mul],hsp,List.length_set] at tW
    have hA:(ws.take (i * te.sz+te.bC p)).length=i * te.sz+te.bC p:=by rw [List.length_take];omega
    have hoff:i * te.sz+te.bC (p++q)=(ws.take (i * te.sz+te.bC p)).length+t1.bC q:=by rw [hA,wg hat];omega
    refine h.store hb hM.mu (hM.pP rfl) ⟨L,_,_,c,hw,tW,by simpa using hl,by simpa using hi,?_,?_,e2⟩
    ·rw [hoff]
     simp only [List.length_append,List.length_set];omega
    ·rw [hoff,Mk e1]
 ·rename_i t' xs i' p' v' hb
  split at ag<;>try (cases ag;done)
  rename_i e;obtain ⟨rfl,rfl⟩:=e
  split at ag<;>try (cases ag;done)
  rename_i id' s lo n
  cases ag
  have hii:i=i':=by
   have:=cV _ (List.mem_singleton.2 rfl)
   simp [aY] at this;omega
  subst hii
  obtain ⟨L,us,ws,c,hM,hR,hl,h2,h3,h4,h5⟩:=h.live _ _ hb
  cases ha with
  |ep _ _ _ _ L' hL =>
   rw [hM.mu] at hL;cases hL
   obtain ⟨c',r,ecs,Mf,hr'⟩:=hc.bA
   have hr0:=hr'.of_nil;subst hr0
   have hwl:ws.length=us.length:=by rw [h4];simp
   have hf:=hM.fits
   have hk1:k=1:=by rw [←yL,ecs];rfl
   refine ⟨_,iV hk (hM.there (by omega) (by omega)) hsz h1,?_,rfl⟩
   have hw:=hM.write (d:=i * te.sz+te.bC p) (us:=vx.cells.toList) (by omega) h1
   rw [←Nat.add_assoc] at hw
   refine h.store hb hM.mu (hM.pP rfl) ⟨L,us,_,c',hw,hR,hl,h2,h3,?_,Mf⟩
   rw [ecs,h4]
   simp only [List.length_cons,List.length_nil]
   rw [List.set_eq_take_append_cons_drop,if_pos h3,List.set_eq_take_append_cons_drop,if_pos h3]
   have ht:(us.take (i * te.sz+te.bC p)).length=i * te.sz+te.bC p:=by rw [List.length_take];omega
   rw [List.take_append_of_le_length (by omega),List.take_of_length_le (by omega),List.drop_append,List.drop_eq_nil_of_le (by omega),ht]
   simp
theorem QV {bl:ai} {n:Nat} {id:Nat} {u:eC} (hu:clU (aY c1 c2 c3 c4 c5 c6) id bl=some u) (h:Inv P Y ι μ ⟨n,bl⟩ w):∃ι',ι.le ι'∧Inv P Y ι' μ ⟨n,bw u bl⟩ w:=by
 unfold clU at hu
 split at hu
 ·rename_i t xs i p v hb
  split at hu<;>try (cases hu;done)
  rename_i y u0 ew
  split at hu<;>try (cases hu;done)
  rename_i hni
  cases hu
  have hz:=oU ew
  obtain ⟨ι',hle,hI,hF⟩:=jS hz h
  have hb':aq id (bw u0 bl)=some (.mJ t xs i p v):=by rw [hz.mR (qV hni)];exact hb
  obtain ⟨L,us,ws,c,hM,hR,hl,h2,h3,h4,h5⟩:=h.live _ _ hb
  obtain ⟨L',us',ws',c',hM',_⟩:=hI.live _ _ hb'
  have hLL:L=L':=by have:=hM.mu.symm.trans hM'.mu;cases this;rfl
  subst hLL
  have gI:bp (af ι' t) xs us:=bp.mono (fun _ _=>af.mono hle) hR
  have FC:xs[i]?=some (xs.getD i t.zero):=by simp [List.getD,h2]
  have hcell:=gI.at (fun _ _=>af.length) FC
  obtain ⟨g1,g2⟩:=nU ew (aG.cons h5 aG.nil) hle hF hcell
  refine ⟨ι',hle,?_⟩
  rw [dS]
  refine hI.same hb' (.inr ⟨L,ws,⟨hM.mu,hM.old,hM.row,hM.fits,hM.one,fun e=>(by cases e),hM'.pP⟩,?_,by simpa using hl⟩)
  have tW:=gI.set (fun _ _=>af.length) h2 g2
  have hsp:=splice us [c] (i * t.sz) (t.bC p) t.sz g1
  rw [show (i+1) * t.sz=i * t.sz+t.sz by rw [Nat.add_mul,Nat.one_mul],hsp] at tW
  have:us.set (i * t.sz+t.bC p) c=us.take (i * t.sz+t.bC p)++[c]++us.drop (i * t.sz+t.bC p+[c].length):=by
   rw [List.set_eq_take_append_cons_drop,if_pos h3];simp
  rw [h4,this]
  exact tW
 ·cases hu
  exact ⟨ι,aj.le_refl _,h⟩
theorem HJ : ∀ {ids : List Nat} {ι : aj} {bl : ai} {n : Nat} {u : eC}, LB (aY c1 c2 c3 c4 c5 c6) ids bl = some u → Inv P Y ι μ ⟨n, bl⟩ w → ∃ ι', ι.le ι' ∧ Inv P Y ι' μ ⟨n, bw u bl⟩ w
 |[],ι,bl,n,u,hu,h=>by cases hu;exact ⟨ι,aj.le_refl _,h⟩
 |id::r,ι,bl,n,u,hu,h=>by
  simp only [LB] at hu
  split at hu<;>try (cases hu;done)
  rename_i u1 hu1
  split at hu<;>try (cases hu;done)
  rename_i u2 hu2
  cases hu
  obtain ⟨ι1,l1,Fc⟩:=QV hu1 h
  obtain ⟨ι2,l2,nT⟩:=HJ hu2 Fc
  exact ⟨ι2,aj.le_trans l1 l2,by rw [dS];exact nT⟩
theorem A9:∀(vs:List Value) (j:Nat) (off:Nat) (cells:Array Value),off+j+vs.length≤cells.size →
  ((vs.zipIdx j).foldl (fun cs (c,j)=>cs.setIfInBounds (off+j) c) cells).toList=cells.toList.take (off+j)++vs++cells.toList.drop (off+j+vs.length)
 |[],j,off,cells,h=>by simp
 |v::r,j,off,cells,h=>by
  simp only [List.zipIdx_cons,List.foldl_cons]
  rw [show ((r.zipIdx (j+1)).foldl (fun cs (c,j)=>cs.setIfInBounds (off+j) c) (cells.setIfInBounds (off+j) v)).toList=_ from A9 r (j+1) off _ (by simp at h ⊢;omega)]
  simp only [List.length_cons] at h
  simp only [Array.toList_setIfInBounds,List.length_cons]
  rw [List.take_set,List.drop_set_of_lt (by omega),show off+(j+1)=(off+j)+1 by omega,List.take_succ_eq_append_getElem (by simp;omega)]
  rw [List.set_append_right _ _ (by simp;omega),List.length_take,Nat.min_eq_left (by simp;omega)]
  simp
  congr 1;omega
theorem nW {place:Nat→Option (Nat×Nat)} {env:List (Nat×V)} {a:Act} (he:eu ι μ env a.tmps):∀{parts:List (Nat×Operand)} {ps:List (Nat×Nat×O)} {zs cs:List V} {cells:Array Value},
  partsOf place parts=some ps→tR ps env zs=some cs→aG ι μ zs cells.toList→(∀u∈cells.toList,u.oneCell'=true) →
  ∃out,Instr.fill place cells (parts.map fun (i,x)=>(i,a.eval x))=some out∧aG ι μ cs out.toList∧∀u∈out.toList,u.oneCell'=true
 |[],ps,zs,cs,cells,h,hf,hr,h1=>by
  cases h;cases hf
  exact ⟨cells,rfl,hr,h1⟩
 |(i,x)::r,ps,zs,cs,cells,h,hf,hr,h1=>by
  unfold partsOf at h
  split at h<;>try (cases h;done)
  rename_i off k y ys hp hx hys
  cases h
  unfold tR at hf
  split at hf<;>try (cases hf;done)
  rename_i vs hvs
  obtain ⟨hc,ho⟩:=(aB he hx).cells hvs
  split at hf<;>try (cases hf;done)
  rename_i hlen
  split at hf<;>try (cases hf;done)
  rename_i cs' ew
  obtain ⟨hle,hR⟩:=sI ew hr hc
  have hsz:(a.eval x).cells.size=k:=by have:=hc.1;simp at this;omega
  have C8:=A9 (a.eval x).cells.toList 0 off cells (by simpa using hle)
  simp only [List.map_cons,Instr.fill,hp]
  rw [if_neg (by simp [hsz];simp at hle;omega)]
  refine nW he hys hf ?_ ?_
  ·rw [←Array.foldl_toList,Array.toList_zipIdx,C8];simpa using hR
  ·rw [← Array.foldl_toList, Array.toList_zipIdx, C8]
   intro u hu
   simp only [Nat.add_zero,List.mem_append] at hu
   rcases hu with (hu|hu)|hu
   ·exact h1 u (List.mem_of_mem_take hu)
   ·exact ho u hu
   ·exact h1 u (List.mem_of_mem_drop hu)
theorem qg {k:Nat}:∀(vs:List Value) (n:Nat) (cells:Array Value),(∀v∈vs,v.cells.size=k)→cells.size=(n+vs.length) * k →
  ∃out,Instr.fill (fun i=>some (i * k,k)) cells ((vs.zipIdx n).map fun (v,i)=>(i,v))=some out∧out.toList=cells.toList.take (n * k)++vs.flatMap fun v=>v.cells.toList
 |[],n,cells,_,hs=>⟨cells,rfl,by
  simp at hs
  have:cells.toList.length≤n * k:=by simp;omega
  simp [List.take_of_length_le this]⟩
 |v::r,n,cells,hv,hs=>by
  have hk:=hv v List.mem_cons_self
  simp only [List.length_cons] at hs
  have hfit:n * k+k≤cells.size:=by
   rw [hs,show n+(r.length+1)=(n+1)+r.length by omega,Nat.add_mul,Nat.add_mul,Nat.one_mul];omega
  have C8:=A9 v.cells.toList 0 (n * k) cells (by simp [hk];exact hfit)
  have hsize:((v.cells.toList.zipIdx 0).foldl (fun cs (c,j)=>cs.setIfInBounds (n * k+j) c) cells).size=cells.size:=by
   have:=congrArg List.length C8
   rw [Array.length_toList] at this
   rw [this]
   simp [hk];omega
  obtain ⟨out, h1, h2⟩ := qg r (n + 1) ((v.cells.toList.zipIdx 0).foldl (fun cs (c, j) => cs.setIfInBounds (n * k + j) c) cells) (fun u hu => hv u (List.mem_cons_of_mem _ hu))
   (by rw [hsize,hs];congr 1;omega)
  refine ⟨out,?_,?_⟩
  ·simp only [List.zipIdx_cons, List.map_cons, Instr.fill]
   rw [if_neg (by simp [hk];omega),←Array.foldl_toList,Array.toList_zipIdx]
   exact h1
  ·rw [h2, C8]
   simp only [Nat.add_zero,List.flatMap_cons,Nat.add_mul,Nat.one_mul]
   rw [List.take_append_of_le_length (by simp [hk];omega),List.take_of_length_le (by simp [hk];omega)]
   simp
end
end Go.AM
end
section
namespace Go.AM
section
variable {P : Program} {Y : Ctx} {ι ι' : aj} {μ μ' : Mu} {H : aF} {w w' : World}
 {c1:Nat→List V→aF→(V→aF→Prop)→Prop} {c2:Nat→List V→V→Prop} {c3:C→St→(Ex→St→Prop)→Prop}
 {c4:Nat→List V→aF→(V→aF→Prop)→Prop} {c5:O→List Nat→C→C→St→(Ex→St→Prop)→Prop} {c6:C→St→(Ex→St→Prop)→Prop}
theorem Inv.HK (h:Inv P Y ι μ H w) {aC:Nat} (hn:μ aC=none) (t:Ty) (fz:Bool):Inv P Y ι μ ⟨max H.next (aC+1),(aC,.arr t [] fz)::bn aC H.bl⟩ w:=by
 refine ⟨h.below,h.i0,h.iB,h.rd,h.m0,fun id hid=>h.nx id (by simp only at hid;omega),fun id B hB=>?_,?_,?_,h.gl⟩
 ·rw [aD] at hB
  split at hB
  ·rename_i e;subst e;cases hB;exact .inl ⟨rfl,hn⟩
  ·exact h.live id B hB
 ·intro id id' B B' L1 L2 h1 h2 fK hm2 e
  rw [aD] at h1 h2
  by_cases e1:id=aC<;>by_cases e2:id'=aC
  ·rw [e1,e2]
  ·subst e1;rw [hn] at fK;cases fK
  ·subst e2;rw [hn] at hm2;cases hm2
  ·rw [if_neg e1] at h1; rw [if_neg e2] at h2
   exact h.inj id id' B B' L1 L2 h1 h2 fK hm2 e
 ·intro id B hB
  rw [aD] at hB
  split at hB
  ·rename_i e;subst e;simp only;omega
  ·have:=h.lt id B hB;simp only;omega
theorem Inv.move (h : Inv P Y ι μ H w) {aC : Nat} (hn : μ aC = none) {id : Nat} {b0 b : k8} (hb0 : aq id H.bl = some b0) {L L' : Loc} (hL : μ id = some L) (Ww : L'.b = L.b) (hfree : ∀ o, ι L.b o = none)
  (hos:w'.os=w.os) (Me:w'.tape=w.tape) (hout:w'.output=w.output) (hdr:w'.drawn=w.drawn) (hsz:w'.heap.size=w.heap.size) (hk:∀k,k≠L.b→w'.heap[k]?=w.heap[k]?)
  (Wo:jC w.heap[L.b]? w'.heap[L.b]?) (hb:dL P Y.own ι (μ.set aC L') aC w' b):Inv P Y ι (μ.set aC L') ⟨max H.next (aC+1),(aC,b)::bn aC (bn id H.bl)⟩ w':=by
 have hold:=((h.live id b0 hb0).loc hL).1
 have hle:=Mu.fD (L:=L') hn
 have hidn:id≠aC:=fun e=>by subst e;rw [hn] at hL;cases hL
 have HL:∀{j B},j≠aC→aq j ((aC,b)::bn aC (bn id H.bl))=some B→j≠id∧aq j H.bl=some B:=fun {j B} hj hB=>by
  rw [aD,if_neg hj,aW] at hB
  split at hB
  ·cases hB
  ·rename_i e;exact ⟨e,hB⟩
 refine ⟨⟨hos.trans h.below.os, Me.trans h.below.tape, hout.trans h.below.output, by rw [hsz]; exact h.below.size, fun k hk' hx => ?_, by rw [hdr]; exact h.below.dr, fun k hk' => (h.below.maps k hk').trans (by
   by_cases e:k=L.b
   ·subst e;exact Wo
   ·exact .eq (hk k e))⟩,h.i0,h.iB,fun b o x hx=>?_,Mu.le_trans h.m0 hle,fun i hid=>?_,fun i B hB=>?_,?_,?_,h.gl⟩
 ·rw [hk k (Ctx.lU hold hk' hx)];exact h.below.block k hk' hx
 ·have := h.rd b o x hx
  have hne:b≠L.b:=fun e=>by subst e;rw [hfree] at hx;cases hx
  unfold World.cell? at this ⊢
  simp only at this ⊢
  rw [hk b hne];exact this
 ·simp only at hid
  unfold Mu.set;rw [if_neg (by omega)];exact h.nx i (by omega)
 ·by_cases e : i = aC
  ·subst e;rw [aD,if_pos rfl] at hB;cases hB;exact hb
  ·obtain ⟨h1, h2⟩ := HL e hB
   refine (h.live i B h2).mono (aj.le_refl _) hle (fun hm=>by unfold Mu.set;rw [if_neg e];exact hm) (fun L1 Wx=>hk _ (fun e'=>h1 (h.inj i id B b0 L1 L h2 hb0 Wx hL e'))) (fun _ _ h=>h)
 ·intro i i' B B' L1 L2 h1 h2 fK hm2 e
  by_cases e1:i=aC<;>by_cases e2:i'=aC
  ·rw [e1,e2]
  ·obtain ⟨g1, g2⟩ := HL e2 h2
   unfold Mu.set at fK hm2
   rw [if_pos e1] at fK;rw [if_neg e2] at hm2;cases fK
   exact absurd (h.inj i' id B' b0 L2 L g2 hb0 hm2 hL (by omega)) g1
  ·obtain ⟨g1, g2⟩ := HL e1 h1
   unfold Mu.set at fK hm2
   rw [if_pos e2] at hm2;rw [if_neg e1] at fK;cases hm2
   exact absurd (h.inj i id B b0 L1 L g2 hb0 fK hL (by omega)) g1
  ·obtain ⟨g1, g2⟩ := HL e1 h1
   obtain ⟨g3,g4⟩:=HL e2 h2
   unfold Mu.set at fK hm2
   rw [if_neg e1] at fK;rw [if_neg e2] at hm2
   exact h.inj i i' B B' L1 L2 g2 g4 fK hm2 e
 ·intro i B hB
  by_cases e:i=aC
  ·subst e;simp only;omega
  ·obtain ⟨_, h2⟩ := HL e hB
   have:=h.lt i B h2;simp only;omega
theorem sL (h : Inv P Y ι μ H w) {t : Ty} {yv : V} {x : Value} {ys : List t.den} {tx e' : TypeId} (hk : P.underlying tx = some (.slice e')) (hy : elems (aY c1 c2 c3 c4 c5 c6) H.bl t yv = some ys)
  (hr:Rel ι μ yv x):∃news,Src P t.sz tx x ys.length news w∧bp (af ι t) ys news:=by
 have nil:∀a cap,Src P t.sz tx (.slice a 0 cap) 0 [] w:=fun a cap=>by
  cases a with
  |none=>exact Src.ofNil w hk cap
  |some a=>exact Src.ofSlice w hk a 0 cap [] (by simp) (fun j u h=>by simp at h) (fun u h=>by cases h)
 have ofR:∀{b o n cap:Nat} {us:List Value},w.rangeAt b o us→us.length=n * t.sz→(∀u∈us,u.oneCell'=true)→Src P t.sz tx (.slice (some ⟨b,o,none⟩) n cap) n us w:=fun hrg hl h1 =>
  Src.ofSlice w hk _ _ _ _ hl (fun j u hu=>by rw [Addr.add_mid];exact hrg j u hu) h1
 unfold elems at hy
 split at hy<;>try (cases hy;done)
 ·cases hy;cases hr;exact ⟨[],nil _ _,rfl⟩
 ·rename_i t' zs
  obtain ⟨e,hz⟩:=dV hy
  subst e;subst hz
  cases hr with
  |eL _ _ _ hd =>
   obtain ⟨a,cap,e,hle,hd⟩:=hd
   cases e
   rcases hd with rfl|⟨b,o,us,rfl,hrd,hc⟩
   ·exact ⟨[],nil a cap,rfl⟩
   ·exact ⟨us,ofR (hrd.rangeAt h.rd) (hc.length (fun _ _=>af.length)) (hc.one fun _ _=>af.one),hc⟩
 ·rename_i id t' lo n
  split at hy<;>try (cases hy;done)
  rename_i t'' zs fz hb
  split at hy<;>try (cases hy;done)
  rename_i e;subst e
  split at hy<;>try (cases hy;done)
  rename_i zs' hc
  cases hy
  obtain ⟨e,hz⟩:=dV hc
  subst e;subst hz
  cases hr with
  |cQ=>exact ⟨[],by simpa using nil _ _,by simp [bp]⟩
  |sl _ _ _ _ cap L hm h1 h2 h3 =>
   rcases h.live _ _ hb with ⟨_,hn⟩|⟨L',vs,hM,hR,hl⟩
   ·rw [hn] at hm;cases hm
   ·rw [hM.mu] at hm; cases hm
    have hlen:((zs'.drop lo).take n).length=n:=by simp;omega
    have eD:=(hR.drop (fun _ _=>af.length) lo).take (fun _ _=>af.length) n
    have Fe:=eD.length (fun _ _=>af.length)
    rw [hlen] at Fe
    refine ⟨_,?_,eD⟩
    show Src P _ tx _ ((zs'.drop lo).take n).length _ w
    rw [hlen]
    exact ofR (dR hM.rangeAt _ _) Fe (eD.one fun _ _=>af.one)
theorem eR {e:TypeId} {k:Nat} (h:jZ P e=some k):∃i z,P.info? e=some i∧i.zero=some z∧i.bytes≤l9∧z.cells.size=i.size∧i.size=k:=by
 unfold jZ at h
 split at h<;>try (cases h;done)
 rename_i i hi
 split at h<;>try (cases h;done)
 rename_i z hz
 split at h<;>try (cases h;done)
 rename_i hb
 cases h
 exact ⟨i,z,hi,hz,hb.1,hb.2,rfl⟩
theorem wk (h : Inv P Y ι μ H w) {aC : Nat} (hn : μ aC = none) {t : Ty} {tt tx ty e e' : TypeId} (ht : P.underlying tt = some (.slice e)) (htx : P.underlying tx = some (.slice e')) (he : jZ P e = some t.sz)
  {base:Option Addr} {n cap:Nat} {xs ys:List t.den} {olds news:List Value} (hxl:xs.length=n) (hxs:bp (af ι t) xs olds)
  (hold:(Builtin.firstCells t.sz n (.slice base n cap)).run P w.drew = .ok olds.toArray w.drew) {x:Value} (hs:Src P t.sz tx x ys.length news w) (hys:bp (af ι t) ys news)
  (hg:cap<n+ys.length) (lV:n+ys.length<cu) :
  ∃μ' v w',(Builtin.append_ #[tt,tx] ty #[.slice base n cap,x]).run P w = .ok v w'∧μ.le μ'∧(∀id,id≠aC→μ' id=μ id) ∧
   Inv P Y ι μ' ⟨max H.next (aC+1),(aC,.arr t (xs++ys) false)::bn aC H.bl⟩ w'∧Rel ι μ' (.sl aC t 0 (n+ys.length)) v:=by
 obtain ⟨i,z,hi,hz,hby,hzs,hsz⟩:=eR he
 have hfit:Builtin.nextslicecap (n+ys.length) cap * i.bytes≤281474976710656:=by
  refine growslice_fits hg (Nat.le_trans (Nat.mul_le_mul (Nat.le_of_lt lV) hby) ?_)
  unfold cu l9;decide
 have h63:((n+ys.length:Nat):Int)≤9223372036854775807:=by unfold cu at lV;omega
 rw [←hsz] at hold hs
 have hr:=run_append_grow_src w tt tx ty e i z ht hi hz base n cap olds hold x ys.length news hs hg h63 hfit
 have eD:bp (af ι t) (xs++ys) (olds++news):=hxs.append hys
 have hl:=eD.length (fun _ _=>af.length)
 have hge:=grownCap_ge w (n+ys.length) cap e
 obtain ⟨μ', m1, m0, m2, m3⟩ := uX (aC := aC) (rest := (Builtin.zeroCells z.cells (grownCap w (n + ys.length) cap e - (n + ys.length))).toList) h.drew hn eD e (grownCap w (n + ys.length) cap e)
  (by simp [hxl]; exact hge) (by
   have Wy:(Builtin.zeroCells z.cells (grownCap w (n+ys.length) cap e - (n+ys.length))).toList.length=(grownCap w (n+ys.length) cap e - (n+ys.length)) * t.sz:=by
    rw [Array.length_toList,size_zeroCells,hzs,hsz]
   rw [hl,Wy,List.length_append,hxl,←Nat.add_mul]
   exact Nat.mul_le_mul_right _ (by omega))
 refine ⟨μ',_,_,hr,m1,m0,?_,?_⟩
 ·have:(olds++news++(Builtin.zeroCells z.cells (grownCap w (n+ys.length) cap e - (n+ys.length))).toList).toArray =
    (olds++news).toArray++Builtin.zeroCells z.cells (grownCap w (n+ys.length) cap e - (n+ys.length)):=by
   apply Array.ext';simp
  rw [this] at m2;exact m2
 ·simpa [hxl] using m3
theorem Ba (h : Inv P Y ι μ H w) {aC : Nat} (hn : μ aC = none) {env : List (Nat × V)} {tt tx ty e e' : TypeId} {k : Nat} {sO xO : O} {s x : Value} {ob : List Bool} {v : V} {u : eC}
  (ht:P.underlying tt=some (.slice e)) (htx:P.underlying tx=some (.slice e')) (he:jZ P e=some k)
  (hs:Rel ι μ (sO.ev env) s) (hx:Rel ι μ (xO.ev env) x) (ag:bX (aY c1 c2 c3 c4 c5 c6) (.append k sO xO) env H.bl aC=some (ob,v,u)) (cV:nV ob) :
  ∃μ' y w',(Builtin.append_ #[tt,tx] ty #[s,x]).run P w = .ok y w'∧μ.le μ'∧(∀id,id≠aC→μ' id=μ id)∧Inv P Y ι μ' ⟨max H.next (aC+1),bw u H.bl⟩ w'∧Rel ι μ' v y:=by
 -- a slice with no element and no room
 have empty:∀{t:Ty} {ys:List t.den} (a:Option Addr) (bl:ai),(∀id B,aq id bl=some B→aq id H.bl=some B)→t.sz=k→elems (aY c1 c2 c3 c4 c5 c6) H.bl t (xO.ev env)=some ys→ys.length<cu →
   ∃μ' y w',(Builtin.append_ #[tt,tx] ty #[.slice a 0 0,x]).run P w = .ok y w'∧μ.le μ'∧(∀id,id≠aC→μ' id=μ id)∧Inv P Y ι μ' ⟨max H.next (aC+1),(aC,.arr t ys false)::bn aC bl⟩ w'∧Rel ι μ' (.sl aC t 0 ys.length) y:=by
  intro t ys a bl qH hk hy lV
  subst hk
  obtain ⟨news,hsrc,eD⟩:=sL h htx hy hx
  have hI:Inv P Y ι μ ⟨H.next,bl⟩ w:=h.sub qH
  by_cases hm:ys.length=0
  ·have : ys = [] := List.length_eq_zero_iff.1 hm
   subst this
   have hn:news=[]:=eD
   subst hn
   obtain ⟨i,z,hi,hz,hby,hzs,hsz⟩:=eR he
   refine ⟨μ,.slice a 0 0,w,?_,Mu.le_refl _,fun _ _=>rfl,hI.HK hn t false,.cQ _ _ _ a⟩
   rw [←hsz] at hsrc
   have hlen:=hsrc.len w
   have hcells:=hsrc.cells
   simp only [List.length_nil] at hcells hlen
   cases a<;>simp [Builtin.append_,run_underlying ht,run_underlying htx,sizeOf,typeInfo,hi,hlen,hcells,storeCells]
  ·have hf:(Builtin.firstCells t.sz 0 (.slice a 0 0)).run P w.drew = .ok ([]:List Value).toArray w.drew:=by
    cases a with
    |none=>exact run_firstCells_none _ _ _ _ _
    |some a=>exact run_firstCells_some _ _ _ _ _ _ [] (by simp) (fun j u h=>by simp at h)
   obtain ⟨μ',y,w',r1,r2,r0,r3,r4⟩:=wk (ty:=ty) hI hn ht htx he (n:=0) (xs:=[]) (ys:=ys) rfl rfl hf hsrc eD (by omega) (by omega)
   exact ⟨μ',y,w',r1,r2,r0,r3,by simpa using r4⟩
 simp only [bX] at ag
 split at ag<;>try (cases ag;done)
 ·rename_i hse
  rw [hse] at hs
  split at ag<;>try (cases ag;done)
  rename_i t C9
  split at ag<;>try (cases ag;done)
  rename_i hk
  split at ag<;>try (cases ag;done)
  rename_i ys hy
  cases ag
  cases hs with
  |bW a =>
   have lV:ys.length<cu:=by simpa using cV _ (List.mem_singleton.2 rfl)
   exact empty a H.bl (fun _ _ h=>h) hk hy lV
 ·rename_i id t lo n hse
  rw [hse] at hs
  split at ag<;>try (cases ag;done)
  rename_i hk
  split at ag<;>try (cases ag;done)
  rename_i t' xs hb
  split at ag<;>try (cases ag;done)
  rename_i e1;subst e1
  split at ag<;>try (cases ag;done)
  rename_i xs' hc
  split at ag<;>try (cases ag;done)
  rename_i ys hy
  cases ag
  obtain ⟨e1,hz⟩:=dV hc
  subst hz
  have lV:n+ys.length<cu:=by simpa using cV _ (List.mem_singleton.2 rfl)
  have hdel:∀i B,aq i (bn id H.bl)=some B→aq i H.bl=some B:=fun i B hB=>by rw [aW] at hB;split at hB<;>simp_all
  simp only [bw]
  cases hs with
  |cQ _ _ _ a =>
   have:=empty a _ hdel hk hy (by omega)
   simpa using this
  |sl _ _ _ _ cap L hm h1 h2 h3 =>
   rcases h.live _ _ hb with ⟨_,hn⟩|⟨L',vs,hM,hR,hl⟩
   ·rw [hn] at hm;cases hm
   ·rw [hM.mu] at hm; cases hm
    subst hk
    obtain ⟨news,hsrc,eD⟩:=sL h htx hy hx
    have hlen:((xs'.drop lo).take n).length=n:=by simp;omega
    have holds:=(hR.drop (fun _ _=>af.length) lo).take (fun _ _=>af.length) n
    have Fe:=holds.length (fun _ _=>af.length)
    rw [hlen] at Fe
    have hrg:w.rangeAt L.b (L.ba+lo * t'.sz) ((vs.drop (lo * t'.sz)).take (n * t'.sz)):=dR hM.rangeAt _ _
    by_cases hroom:n+ys.length≤cap
    ·obtain ⟨i, z, hi, hz, hby, hzs, hsz⟩ := eR he
     have yM:=eD.length (fun _ _=>af.length)
     have hone:=eD.one (fun _ _=>af.one)
     have aaS:L.ba+lo * t'.sz+n * t'.sz+news.length≤L.tot:=by
      rw [yM]
      have:lo * t'.sz+n * t'.sz+ys.length * t'.sz≤(lo+cap) * t'.sz:=by
       rw [←Nat.add_mul,←Nat.add_mul];exact Nat.mul_le_mul_right _ (by omega)
      omega
     have Wq:w.there L.b (L.ba+lo * t'.sz+n * t'.sz) news.length:=hM.there (by omega) aaS
     rw [←hsz] at hsrc
     have hr := run_append_room_src w tt tx ty e i ht hi L.b (L.ba + lo * t'.sz) n cap x ys.length news hsrc hroom
      (fun j hj=>by rw [hsz];exact (Wq j hj).1) (fun j hj=>by rw [hsz];exact (Wq j hj).2)
     rw [hsz] at hr
     let L2:Loc:=⟨L.b,L.ba+lo * t'.sz,L.tot,n+ys.length⟩
     have hle:=Mu.fD (L:=L2) hn
     have fH:μ.set aC L2 aC=some L2:=by simp [Mu.set]
     refine ⟨_, _, _, hr, hle, Mu.sJ, h.move hn (L' := L2) hb hM.mu rfl (hM.pP rfl) (di _ _ _ _).1 (di _ _ _ _).2.1 (di _ _ _ _).2.2.1 (di _ _ _ _).2.2.2 (size_setCells _ _ _ _)
      (fun k hk=>iC _ _ _ _ _ hk) (j7 _ _ _ _ _) (.inr ⟨L2,(vs.drop (lo * t'.sz)).take (n * t'.sz)++news,?_,?_,?_⟩),?_⟩
     ·-- the memory: the old cells from 'lo' on, the new ones behind them
      obtain ⟨c,ec,hc1,UK,hc3⟩:=hM.row
      have ew:=fun (j:Nat) (hj:j<news.length)=>World.cell?_setCells_in L.b news (L.ba+lo * t'.sz+n * t'.sz) w (fun j hj=>(Wq j hj).1) j hj
      have hout:=fun (a:Addr) h=>World.cell?_setCells_out L.b news (L.ba+lo * t'.sz+n * t'.sz) w a h
      have hrow:∃c':Array Value,(w.setCells L.b (L.ba+lo * t'.sz+n * t'.sz) news).heap[L.b]?=some (.cells c' ec (0,0))∧c'.size=c.size:=by
       have key:∀(us:List Value) (o:Nat) (w:World) (c:Array Value),w.heap[L.b]?=some (.cells c ec (0,0))→∃c':Array Value,(w.setCells L.b o us).heap[L.b]?=some (.cells c' ec (0,0))∧c'.size=c.size:=by
        intro us
        induction us with
        |nil=>intro o w c hc;exact ⟨c,hc,rfl⟩
        |cons u us ih =>
         intro o w c hc
         obtain ⟨c',e1,e2⟩:=ih (o+1) (w.setCell ⟨L.b,o,none⟩ u) (c.setIfInBounds o u) (by simp [World.setCell,Array.getElem?_modify,hc])
         exact ⟨c',e1,by simpa using e2⟩
       exact key _ _ _ _ hc1
      obtain ⟨c',hc4,hc5⟩:=hrow
      refine ⟨fH,hM.old,⟨c',ec,hc4,by rw [hc5];exact UK,fun j v hv=>?_⟩,by simp only [L2,List.length_append,Fe];omega,?_,(fun e=>by cases e),fun _=>hM.pP rfl⟩
      ·have hcell:(w.setCells L.b (L.ba+lo * t'.sz+n * t'.sz) news).cell? ⟨L.b,L.ba+lo * t'.sz+j,none⟩=some v:=by
        by_cases hj:j<n * t'.sz
        ·rw [List.getElem?_append_left (by omega)] at hv
         rw [hout _ (fun _ _=>.inl (by show L.ba+lo * t'.sz+j<_;omega))]
         exact hrg j v hv
        ·rw [List.getElem?_append_right (by omega), Fe] at hv
         have hj2:=(List.getElem?_eq_some_iff.1 hv).1
         have:=ew (j - n * t'.sz) hj2
         rw [show L.ba+lo * t'.sz+n * t'.sz+(j - n * t'.sz)=L.ba+lo * t'.sz+j by omega] at this
         rw [this,←hv,List.getElem?_eq_getElem hj2]
       simp [World.cell?,hc4] at hcell
       exact hcell
      ·intro v hv
       rcases List.mem_append.1 hv with hv|hv
       ·exact hM.one v (List.mem_of_mem_drop (List.mem_of_mem_take hv))
       ·exact hone v hv
     ·exact holds.append eD
     ·simp only [L2,List.length_append,hlen]
     ·have := Rel.sl (ι := ι) (μ := μ.set aC L2) aC t' 0 (n + ys.length) cap L2 fH hroom (by simp only [L2, Nat.zero_add]; have : (lo + cap) * t'.sz = lo * t'.sz + cap * t'.sz := Nat.add_mul _ _ _; omega) (by simp [L2])
      simpa [L2] using this
    ·have hf:(Builtin.firstCells t'.sz n (.slice (some ⟨L.b,L.ba+lo * t'.sz,none⟩) n cap)).run P w.drew = .ok ((vs.drop (lo * t'.sz)).take (n * t'.sz)).toArray w.drew :=
      run_firstCells_some _ _ _ _ _ _ _ Fe (fun j u hu=>by rw [Addr.add_mid,World.cell?_drew];exact hrg j u hu)
     exact wk (ty:=ty) (h.sub hdel) hn ht htx he hlen holds hf hsrc eD (by omega) lV
end
end Go.AM
end
section
namespace Go.AM
section
variable {P : Program} {Y : Ctx} {ι ι' : aj} {μ μ' : Mu} {H : aF} {w w' : World}
 {c1:Nat→List V→aF→(V→aF→Prop)→Prop} {c2:Nat→List V→V→Prop} {c3:C→St→(Ex→St→Prop)→Prop}
 {c4:Nat→List V→aF→(V→aF→Prop)→Prop} {c5:O→List Nat→C→C→St→(Ex→St→Prop)→Prop} {c6:C→St→(Ex→St→Prop)→Prop}
theorem lz {v:V} {b:Bool} {x:Value} (h:JM v=some b) (hr:Rel ι μ v x):x = .bool b:=by
 cases v<;>simp [JM] at h<;>(subst h;cases hr;rfl)
theorem cG (op:BinOp) (t:TypeId) (x y:Operand) {a b:Value} (h:a ≠ .nilIface) (ha:∀cs,a ≠ .agg cs):(eqGuard op t x y a b).run P w = .ok () w:=by
 cases op<;>try rfl
 all_goals cases a<;>first|rfl|exact absurd rfl h|exact absurd rfl (ha _)
theorem QW (a b:ByteArray):uz (eY a++eY b)=a++b:=by
 have key:∀l:List UInt8,(l.map fun b=>(b.toNat:Int)).map (fun z=>UInt8.ofNat z.toNat)=l:=by
  intro l
  rw [List.map_map]
  conv=>rhs;rw [←List.map_id l]
  exact List.map_congr_left fun b _=>by simp
 apply ByteArray.ext
 simp only [uz,eY,List.map_append,key,ByteArray.data_append]
 rw [←List.append_toArray]
theorem zD {op : BinOp} {bo : yN} (hb : vP op = some bo) {t : TypeId} {xo yo : Operand} {v1 v2 : V} {a b : Value} (h1 : Rel ι μ v1 a) (h2 : Rel ι μ v2 b) {x y : O} {env : List (Nat × V)}
  (hx:x.ev env=v1) (hy:y.ev env=v2) {bl:ai} {n:Nat} {ob:List Bool} {v:V} {u:eC} (ag:bX (aY c1 c2 c3 c4 c5 c6) (.bin bo x y) env bl n=some (ob,v,u)) (cV:nV ob) :
  u=[]∧∃z,(do eqGuard op t xo yo a b;binOp op t a b:Sem Value).run P w = .ok z w∧Rel ι μ v z:=by
 simp only [bX,hx,hy] at ag
 split at ag
 ·rename_i k m k' m' 
  cases h1;cases h2
  have hg:=cG (P:=P) (w:=w) op t xo yo (a:=.int k m) (b:=.int k' m') (by simp) (by simp)
  split at ag
  ·cases op <;> simp [vP] at hb
   simp only [zu] at ag
   cases ag
   have e1:=cV _ (List.mem_cons_self)
   have e2:=cV _ (List.mem_cons_of_mem _ (List.mem_cons_self))
   simp at e1
   refine ⟨rfl,.int k (m * 2 ^ m'.toNat),?_,.int _ _⟩
   have hw:=j5 e2
   simp [hg,binOp,Op.shift,show ¬m'<0 by omega,Nat.min_eq_left (show m'.toNat≤k.bits by omega),hw]
  ·cases op <;> simp [vP] at hb
   simp only [zu] at ag
   cases ag
   have e1:=cV _ (List.mem_cons_self)
   simp at e1
   refine ⟨rfl,.int k (m.fdiv (2 ^ m'.toNat)),?_,.int _ _⟩
   simp [hg,binOp,Op.shift,show ¬m'<0 by omega,Nat.min_eq_left (show m'.toNat≤k.bits by omega)]
  ·split at ag <;> try (cases ag; done)
   rename_i hk;subst hk
   cases op<;>cases hb<;>simp only [Ft] at ag<;>first|(cases ag;done)|skip
   all_goals first|cases ag|(split at ag<;>cases ag)
   all_goals
    refine ⟨rfl,?_⟩
    first
     |(refine ⟨_,?_,.bool _⟩;simp [hg,binOp,Op.intCmp];done)
     |(refine ⟨_,?_,.bool _⟩;simp [hg,binOp,Op.intCmp,bne];done)
     |(refine ⟨_,?_,.int _ _⟩;simp [hg,binOp,Op.intBits];done)
     |(refine ⟨_,?_,.int _ _⟩;simp [hg,binOp,Op.intArith];done)
     |(refine ⟨_,?_,.int _ _⟩;have e1:=j5 (cV _ (List.mem_singleton.2 rfl));simp [hg,binOp,Op.intArith,e1];done)
     |(refine ⟨_,?_,.int _ _⟩;have e1:=cV _ (List.mem_cons_self);have e2:=j5 (cV _ (List.mem_cons_of_mem _ (List.mem_cons_self)));simp at e1;simp [hg,binOp,Op.intDiv,e1,e2];done)
     |(refine ⟨_,?_,.int _ _⟩;have e1:=cV _ (List.mem_cons_self);simp at e1;simp [hg,binOp,Op.intDiv,e1];done)
 ·rename_i s1 s2
  cases h1;cases h2
  have hg:=cG (P:=P) (w:=w) op t xo yo (a:=.string s1) (b:=.string s2) (by simp) (by simp)
  cases op<;>cases hb<;>simp only [Fu] at ag<;>first|(cases ag;done)|skip
  all_goals
   cases ag
   refine ⟨rfl,?_⟩
  case h_2.str.str.add.refl.refl =>
   refine ⟨_,?_,.str _⟩
   show _=Result.ok (Value.string (uz (eY s1++eY s2))) w
   have hz:=cV _ (List.mem_singleton.2 rfl)
   have h2:((s1.size:Int)+(s2.size:Int))≤9223372036854775807:=by
    have e2:IntKind.i64.max=9223372036854775807:=by decide
    have qf:(IntKind.i64.min≤((s1.size:Int)+(s2.size:Int))∧((s1.size:Int)+(s2.size:Int))≤IntKind.i64.max):=by simpa [aY] using hz
    rw [e2] at qf;exact qf.2
   rw [QW]
   simp [hg,binOp,Op.stringOp]
   exact h2
  all_goals
   have hor:(if Op.bytesLess s1.toList s2.toList=true then true else s1.toList==s2.toList)=(Op.bytesLess s1.toList s2.toList||s1.toList==s2.toList):=by
    cases Op.bytesLess s1.toList s2.toList<;>simp
   try rw [hor]
   refine ⟨_,?_,.bool _⟩
   simp [hg,binOp,Op.stringOp]
 ·cases ag
theorem dm {k:Kd} {ks:List Kd} {as bs:List V} {c:Bool} (h:aH (aY c1 c2 c3 c4 c5 c6) (k::ks) as bs=some c):∃a as' b bs',as=a::as'∧bs=b::bs':=by
 cases as with
 |nil=>cases k<;>simp [aH] at h
 |cons a as =>
  cases bs with
  |nil=>cases k<;>cases a<;>simp [aH] at h
  |cons b bs=>exact ⟨a,as,b,bs,rfl,rfl⟩
theorem iW {d:Nat} {xs ys:Array Value}:∀{fs:List Field} {n:Nat} {ks:List Kd} {as bs:List V} {c:Bool},tV P n fs=some ks→aG ι μ as (xs.toList.drop n)→aG ι μ bs (ys.toList.drop n) →
  aH (aY c1 c2 c3 c4 c5 c6) ks as bs=some c→(Op.eqFields (d+1) xs ys fs).run P w = .ok c w
 |[],n,ks,as,bs,c,hf,ha,hb,h=>by
  cases hf
  cases as<;>cases bs<;>simp [aH] at h
  subst h;rfl
 |f::r,n,ks,as,bs,c,hf,ha,hb,h=>by
  unfold tV at hf
  split at hf<;>try (cases hf;done)
  rename_i hn
  obtain ⟨hname,hoff⟩:=hn
  have step:∀{x y:Value} {xs' ys':List Value} {b rest:Bool} {QX:TypeDesc},P.underlying f.type=some QX→(match QX with | .struct _=>false | .array _ _=>false|_=>true)=true→xs.toList.drop n=x::xs'→ys.toList.drop n=y::ys' →
    (Op.equalIn (d+1) f.type x y).run P w = .ok b w→(Op.eqFields (d+1) xs ys r).run P w = .ok rest w→(Op.eqFields (d+1) xs ys (f::r)).run P w = .ok (b&&rest) w:=by
   intro x y xs' ys' b rest QX hu hd hx hy he hr
   have hagg:(isAgg f.type).run P w = .ok false w:=by
    unfold isAgg
    rw [Sem.run_bind,run_underlying hu w]
    cases QX<;>simp_all
   have hx0:xs[n]?=some x:=by
    have:(xs.toList.drop n)[0]?=some x:=by rw [hx];rfl
    simpa using this
   have hy0:ys[n]?=some y:=by
    have:(ys.toList.drop n)[0]?=some y:=by rw [hy];rfl
    simpa using this
   have p1:(part f.type xs f.offset).run P w = .ok x w:=by simp [part,hagg,hoff,hx0]
   have p2:(part f.type ys f.offset).run P w = .ok y w:=by simp [part,hagg,hoff,hy0]
   simp only [Op.eqFields,if_pos hname,Sem.run_bind,p1,p2,Result.andThen_ok,he]
   cases b<;>simp [hr]
  split at hf<;>try (cases hf;done)
  all_goals
   rename_i ks' hu hks
   cases hf
   obtain ⟨a,as',b,bs',e1,e2⟩:=dm h
   subst e1;subst e2
   obtain ⟨x,xs',hx,ha1,ha2⟩:=ha.bA
   obtain ⟨y,ys',hy,iX,eM⟩:=hb.bA
   have Ml:aG ι μ as' (xs.toList.drop (n+1)):=by rw [←List.drop_drop (i:=1),hx];exact ha2
   have CG:aG ι μ bs' (ys.toList.drop (n+1)):=by rw [←List.drop_drop (i:=1),hy];exact eM
  ·simp only [aH] at h
   split at h<;>try (cases h;done)
   rename_i p q hp hq
   split at h<;>try (cases h;done)
   rename_i rest ir
   cases h
   rw [lz hp ha1] at hx
   rw [lz hq iX] at hy
   exact step hu rfl hx hy (run_equalIn_bool' w d f.type p q hu) (iW hks Ml CG ir)
  ·cases a <;> cases b <;> simp only [aH] at h <;> try (cases h; done)
   split at h<;>try (cases h;done)
   rename_i hkk;subst hkk
   split at h<;>try (cases h;done)
   rename_i rest ir
   cases h
   cases ha1;cases iX
   exact step hu rfl hx hy (run_equalIn_int w d f.type _ _ _ _ hu) (iW hks Ml CG ir)
  ·cases a <;> cases b <;> simp only [aH] at h <;> try (cases h; done)
   split at h<;>try (cases h;done)
   rename_i rest ir
   cases h
   cases ha1;cases iX
   exact step hu rfl hx hy (run_equalIn_string w d f.type _ _ hu) (iW hks Ml CG ir)
theorem eS:∀{ks ls:List Kd} {as bs:List V} {c:Bool},aH (aY c1 c2 c3 c4 c5 c6) (ks++ls) as bs=some c →
  ∃a b,aH (aY c1 c2 c3 c4 c5 c6) ks (as.take ks.length) (bs.take ks.length)=some a∧aH (aY c1 c2 c3 c4 c5 c6) ls (as.drop ks.length) (bs.drop ks.length)=some b∧c=(a&&b)
 |[],ls,as,bs,c,h=>⟨true,c,by simp [aH],by simpa using h,rfl⟩
 |k::ks,ls,as,bs,c,h=>by
  obtain ⟨a,as',b,bs',rfl,rfl⟩:=dm h
  rw [List.cons_append] at h
  simp only [List.length_cons,List.take_succ_cons,List.drop_succ_cons]
  cases k
  ·simp only [aH] at h
   split at h<;>try (cases h;done)
   rename_i p q hp hq
   split at h<;>try (cases h;done)
   rename_i rest hr
   cases h
   obtain ⟨x,y,h1,h2,h3⟩:=eS hr
   refine ⟨_,y,by simp only [aH,hp,hq,h1];rfl,h2,?_⟩
   subst h3;simp [aY,Bool.and_assoc]
  ·cases a <;> cases b <;> simp only [aH] at h <;> try (cases h; done)
   split at h<;>try (cases h;done)
   rename_i hk
   split at h<;>try (cases h;done)
   rename_i rest hr
   cases h
   obtain ⟨x,y,h1,h2,h3⟩:=eS hr
   refine ⟨_,y,by simp only [aH,if_pos hk,h1];rfl,h2,?_⟩
   subst h3;simp [aY,Bool.and_assoc]
  ·cases a <;> cases b <;> simp only [aH] at h <;> try (cases h; done)
   split at h<;>try (cases h;done)
   rename_i rest hr
   cases h
   obtain ⟨x,y,h1,h2,h3⟩:=eS hr
   refine ⟨_,y,by simp only [aH,h1];rfl,h2,?_⟩
   subst h3;simp [aY,Bool.and_assoc]
theorem nX : ∀ {ks : List Kd} {as bs : List V} {c : Bool}, aH (aY c1 c2 c3 c4 c5 c6) ks as bs = some c → as.length = ks.length ∧ bs.length = ks.length
 |[],as,bs,c,h=>by cases as<;>cases bs<;>simp [aH] at h ⊢
 |k::ks,as,bs,c,h=>by
  obtain ⟨a,as',b,bs',rfl,rfl⟩:=dm h
  have:∃d,aH (aY c1 c2 c3 c4 c5 c6) ks as' bs'=some d:=by
   cases k
   all_goals
    cases a<;>cases b<;>simp only [aH] at h<;>repeat (first|(cases h;done)|(split at h))
   all_goals (first|(exact ⟨_,by assumption⟩)|(cases h;done))
  obtain ⟨d,hd⟩:=this
  have:=nX hd
  simp [this.1,this.2]
theorem qW {d:Nat} {k':IntKind} {e:TypeId} {xs ys:Array Value} (he:P.underlying e=some (.int k')):∀{m n:Nat} {as bs:List V} {c:Bool},aG ι μ as (xs.toList.drop n)→aG ι μ bs (ys.toList.drop n) →
  aH (aY c1 c2 c3 c4 c5 c6) (List.replicate m .i) as bs=some c→(Op.eqItems (d+1) e 1 xs ys (List.range' n m)).run P w = .ok c w
 |0,n,as,bs,c,ha,hb,h=>by
  cases as<;>cases bs<;>simp [aH] at h
  subst h;rfl
 |m+1,n,as,bs,c,ha,hb,h=>by
  rw [List.replicate_succ] at h
  obtain ⟨a,as',b,bs',e1,e2⟩:=dm h
  subst e1;subst e2
  obtain ⟨x,xs',hx,ha1,ha2⟩:=ha.bA
  obtain ⟨y,ys',hy,iX,eM⟩:=hb.bA
  have Ml:aG ι μ as' (xs.toList.drop (n+1)):=by rw [←List.drop_drop (i:=1),hx];exact ha2
  have CG:aG ι μ bs' (ys.toList.drop (n+1)):=by rw [←List.drop_drop (i:=1),hy];exact eM
  cases a<;>cases b<;>simp only [aH] at h<;>try (cases h;done)
  split at h<;>try (cases h;done)
  rename_i hk
  split at h<;>try (cases h;done)
  rename_i rest ir
  cases h
  cases ha1;cases iX
  have hagg:(isAgg e).run P w = .ok false w:=by
   unfold isAgg
   rw [Sem.run_bind,run_underlying he w]
   rfl
  have hx0:∀{zs:Array Value} {z:Value} {zs':List Value},zs.toList.drop n=z::zs'→zs[n]?=some z:=fun {zs z zs'} h=>by
   have:(zs.toList.drop n)[0]?=some z:=by rw [h];rfl
   simpa using this
  have p1:∀{zs:Array Value} {z:Value} {zs':List Value},zs.toList.drop n=z::zs'→(part e zs (n * 1)).run P w = .ok z w:=fun {zs z zs'} h=>by
   simp [part,hagg,hx0 h]
  rw [List.range'_succ]
  subst hk
  rename_i z1 z2 _
  have ih:=qW (d:=d) he Ml CG ir
  simp only [Op.eqItems,Sem.run_bind,p1 hx,p1 hy,Result.andThen_ok,run_equalIn_int w d e _ _ _ _ he]
  show _=Result.ok (z1==z2&&rest) w
  cases hz:(z1==z2)
  ·simp
  ·simpa using ih
theorem UL {d : Nat} {t : TypeId} {xs ys : Array Value} {ks : List Kd} {as bs : List V} {c : Bool} (ht : QK P t = some ks) (ha : aG ι μ as xs.toList) (hb : aG ι μ bs ys.toList)
  (h:aH (aY c1 c2 c3 c4 c5 c6) ks as bs=some c):(Op.equalIn (d+2) t (.agg xs) (.agg ys)).run P w = .ok c w∧∃m e i,P.underlying t=some (.array m e)∧ks=List.replicate m .i∧P.info? t=some i∧P.cellsOf t=m:=by
 unfold QK at ht
 split at ht<;>try (cases ht;done)
 rename_i m e hu
 split at ht<;>try (cases ht;done)
 rename_i k' he
 split at ht<;>try (cases ht;done)
 rename_i hc
 cases ht
 obtain ⟨h1,h2,h3,h4⟩:=hc
 obtain ⟨i,hi⟩:=Option.isSome_iff_exists.1 h2
 obtain ⟨i',hi'⟩:=Option.isSome_iff_exists.1 h3
 refine ⟨?_,m,e,i',hu,rfl,hi',h4⟩
 rw [run_equalIn_array w (d+1) xs ys hu hi,h1,List.range_eq_range']
 exact qW (d:=d) he (by simpa using ha) (by simpa using hb) h
theorem eZ {d:Nat} {xs ys:Array Value}:∀{fs:List Field} {n:Nat} {ks:List Kd} {as bs:List V} {c:Bool},iA P n fs=some ks→aG ι μ as (xs.toList.drop n)→aG ι μ bs (ys.toList.drop n) →
  aH (aY c1 c2 c3 c4 c5 c6) ks as bs=some c→(Op.eqFields (d+2) xs ys fs).run P w = .ok c w
 |[],n,ks,as,bs,c,hf,ha,hb,h=>by
  cases hf
  cases as<;>cases bs<;>simp [aH] at h
  subst h;rfl
 |f::r,n,ks,as,bs,c,hf,ha,hb,h=>by
  unfold iA at hf
  split at hf<;>try (cases hf;done)
  rename_i hn
  obtain ⟨hname,hoff⟩:=hn
  have step:∀{x y:Value} {xs' ys':List Value} {b rest:Bool} {QX:TypeDesc},P.underlying f.type=some QX→(match QX with | .struct _=>false | .array _ _=>false|_=>true)=true→xs.toList.drop n=x::xs'→ys.toList.drop n=y::ys' →
    (Op.equalIn (d+2) f.type x y).run P w = .ok b w→(Op.eqFields (d+2) xs ys r).run P w = .ok rest w→(Op.eqFields (d+2) xs ys (f::r)).run P w = .ok (b&&rest) w:=by
   intro x y xs' ys' b rest QX hu hd hx hy he hr
   have hagg:(isAgg f.type).run P w = .ok false w:=by
    unfold isAgg
    rw [Sem.run_bind,run_underlying hu w]
    cases QX<;>simp_all
   have hx0:xs[n]?=some x:=by
    have:(xs.toList.drop n)[0]?=some x:=by rw [hx];rfl
    simpa using this
   have hy0:ys[n]?=some y:=by
    have:(ys.toList.drop n)[0]?=some y:=by rw [hy];rfl
    simpa using this
   have p1:(part f.type xs f.offset).run P w = .ok x w:=by simp [part,hagg,hoff,hx0]
   have p2:(part f.type ys f.offset).run P w = .ok y w:=by simp [part,hagg,hoff,hy0]
   simp only [Op.eqFields,if_pos hname,Sem.run_bind,p1,p2,Result.andThen_ok,he]
   cases b<;>simp [hr]
  split at hf<;>try (cases hf;done)
  ·rename_i hu
   cases hks:iA P (n+1) r<;>rw [hks] at hf<;>simp only [Option.map_none,Option.map_some,Option.some.injEq] at hf
   ·cases hf
   rename_i ks'
   subst hf
   obtain ⟨a,as',b,bs',e1,e2⟩:=dm h
   subst e1;subst e2
   obtain ⟨x,xs',hx,ha1,ha2⟩:=ha.bA
   obtain ⟨y,ys',hy,iX,eM⟩:=hb.bA
   have Ml:aG ι μ as' (xs.toList.drop (n+1)):=by rw [←List.drop_drop (i:=1),hx];exact ha2
   have CG:aG ι μ bs' (ys.toList.drop (n+1)):=by rw [←List.drop_drop (i:=1),hy];exact eM
   simp only [aH] at h
   split at h<;>try (cases h;done)
   rename_i p q hp hq
   split at h<;>try (cases h;done)
   rename_i rest ir
   cases h
   rw [lz hp ha1] at hx
   rw [lz hq iX] at hy
   exact step hu rfl hx hy (run_equalIn_bool' w (d+1) f.type p q hu) (eZ hks Ml CG ir)
  ·rename_i hu
   cases hks:iA P (n+1) r<;>rw [hks] at hf<;>simp only [Option.map_none,Option.map_some,Option.some.injEq] at hf
   ·cases hf
   rename_i ks'
   subst hf
   obtain ⟨a,as',b,bs',e1,e2⟩:=dm h
   subst e1;subst e2
   obtain ⟨x,xs',hx,ha1,ha2⟩:=ha.bA
   obtain ⟨y,ys',hy,iX,eM⟩:=hb.bA
   have Ml:aG ι μ as' (xs.toList.drop (n+1)):=by rw [←List.drop_drop (i:=1),hx];exact ha2
   have CG:aG ι μ bs' (ys.toList.drop (n+1)):=by rw [←List.drop_drop (i:=1),hy];exact eM
   cases a<;>cases b<;>simp only [aH] at h<;>try (cases h;done)
   split at h<;>try (cases h;done)
   rename_i hkk;subst hkk
   split at h<;>try (cases h;done)
   rename_i rest ir
   cases h
   cases ha1;cases iX
   exact step hu rfl hx hy (run_equalIn_int w (d+1) f.type _ _ _ _ hu) (eZ hks Ml CG ir)
  ·rename_i hu
   cases hks:iA P (n+1) r<;>rw [hks] at hf<;>simp only [Option.map_none,Option.map_some,Option.some.injEq] at hf
   ·cases hf
   rename_i ks'
   subst hf
   obtain ⟨a,as',b,bs',e1,e2⟩:=dm h
   subst e1;subst e2
   obtain ⟨x,xs',hx,ha1,ha2⟩:=ha.bA
   obtain ⟨y,ys',hy,iX,eM⟩:=hb.bA
   have Ml:aG ι μ as' (xs.toList.drop (n+1)):=by rw [←List.drop_drop (i:=1),hx];exact ha2
   have CG:aG ι μ bs' (ys.toList.drop (n+1)):=by rw [←List.drop_drop (i:=1),hy];exact eM
   cases a<;>cases b<;>simp only [aH] at h<;>try (cases h;done)
   split at h<;>try (cases h;done)
   rename_i rest ir
   cases h
   cases ha1;cases iX
   exact step hu rfl hx hy (run_equalIn_string w (d+1) f.type _ _ hu) (eZ hks Ml CG ir)
  ·rename_i gs hu
   split at hf<;>try (cases hf;done)
   rename_i ls hls
   cases hks:iA P (n+ls.length) r<;>rw [hks] at hf<;>simp only [Option.map_none,Option.map_some,Option.some.injEq] at hf
   ·cases hf
   rename_i ks'
   subst hf
   obtain ⟨c1',c2',h1,h2,h3⟩:=eS h
   have hlen:=nX h1
   unfold LY at hls
   rw [hu] at hls
   dsimp only at hls
   split at hls<;>try (cases hls;done)
   rename_i jD
   split at hls<;>try (cases hls;done)
   rename_i ls' hfl
   split at hls<;>try (cases hls;done)
   rename_i hsz
   cases hls
   obtain ⟨i,hi⟩:=Option.isSome_iff_exists.1 jD.2
   have hagg:(isAgg f.type).run P w = .ok true w:=by
    unfold isAgg
    rw [Sem.run_bind,run_underlying hu w]
    simp
   have hsize:(sizeOf f.type).run P w = .ok ls.length w:=by rw [←hsz];exact run_sizeOf w hi
   have p1:(part f.type xs f.offset).run P w = .ok (.agg (xs.extract n (n+ls.length))) w:=by
    simp only [part,Sem.run_bind,hagg,Result.andThen_ok,if_true,hsize,hoff];rfl
   have p2:(part f.type ys f.offset).run P w = .ok (.agg (ys.extract n (n+ls.length))) w:=by
    simp only [part,Sem.run_bind,hagg,Result.andThen_ok,if_true,hsize,hoff];rfl
   have hfo:P.fieldsOf f.type=gs:=by simp [Program.fieldsOf,hu]
   have ex:∀zs:Array Value,(zs.extract n (n+ls.length)).toList.drop 0=(zs.toList.drop n).take ls.length:=fun zs=>by
    rw [List.drop_zero,Array.toList_extract,List.extract_eq_take_drop];congr 1;omega
   have e0:=run_equalIn_struct (P:=P) w (d+1) f.type (xs.extract n (n+ls.length)) (ys.extract n (n+ls.length)) (by rw [hfo];exact hu) jD.1
   rw [hfo] at e0
   have e1:(Op.eqFields (d+1) (xs.extract n (n+ls.length)) (ys.extract n (n+ls.length)) gs.toList).run P w = .ok c1' w:=iW (d:=d) (xs:=xs.extract n (n+ls.length)) (ys:=ys.extract n (n+ls.length)) hfl (by rw [ex];exact ha.take _) (by rw [ex];exact hb.take _) h1
   have e2:(Op.eqFields (d+2) xs ys r).run P w = .ok c2' w:=eZ (d:=d) (xs:=xs) (ys:=ys) hks (by rw [←List.drop_drop];exact ha.drop _) (by rw [←List.drop_drop];exact hb.drop _) h2
   have e3:=e0.trans e1
   subst h3
   simp only [Op.eqFields,if_pos hname,Sem.run_bind,p1,p2,Result.andThen_ok,e3]
   cases c1'<;>simp [e2]
  ·rename_i hu
   split at hf<;>try (cases hf;done)
   rename_i ls hls
   cases hks:iA P (n+ls.length) r<;>rw [hks] at hf<;>simp only [Option.map_none,Option.map_some,Option.some.injEq] at hf
   ·cases hf
   rename_i ks'
   subst hf
   obtain ⟨c1',c2',h1,h2,h3⟩:=eS h
   have hlen:=nX h1
   have hagg:(isAgg f.type).run P w = .ok true w:=by
    unfold isAgg
    rw [Sem.run_bind,run_underlying hu w]
    simp
   have ex:∀zs:Array Value,(zs.extract n (n+ls.length)).toList=(zs.toList.drop n).take ls.length:=fun zs=>by
    rw [Array.toList_extract,List.extract_eq_take_drop];congr 1;omega
   obtain ⟨e1,m,e,i,-,hm,hi,hsz⟩:=UL (d:=d) (w:=w) (xs:=xs.extract n (n+ls.length)) (ys:=ys.extract n (n+ls.length)) hls (by rw [ex];exact ha.take _) (by rw [ex];exact hb.take _) h1
   have hsl:P.cellsOf f.type=ls.length:=by rw [hm,List.length_replicate];exact hsz
   have hsize:(sizeOf f.type).run P w = .ok ls.length w:=by rw [←hsl];exact run_sizeOf w hi
   have p1:(part f.type xs f.offset).run P w = .ok (.agg (xs.extract n (n+ls.length))) w:=by
    simp only [part,Sem.run_bind,hagg,Result.andThen_ok,if_true,hsize,hoff];rfl
   have p2:(part f.type ys f.offset).run P w = .ok (.agg (ys.extract n (n+ls.length))) w:=by
    simp only [part,Sem.run_bind,hagg,Result.andThen_ok,if_true,hsize,hoff];rfl
   have e2:(Op.eqFields (d+2) xs ys r).run P w = .ok c2' w:=eZ (d:=d) (xs:=xs) (ys:=ys) hks (by rw [←List.drop_drop];exact ha.drop _) (by rw [←List.drop_drop];exact hb.drop _) h2
   subst h3
   simp only [Op.eqFields,if_pos hname,Sem.run_bind,p1,p2,Result.andThen_ok,e1]
   cases c1'<;>simp [e2]
end
end Go.AM
end
section
namespace Go.AM
section
variable {P : Program} {Y : Ctx} {ι ι' : aj} {μ μ' : Mu} {H : aF} {w w' : World}
 {c1:Nat→List V→aF→(V→aF→Prop)→Prop} {c2:Nat→List V→V→Prop} {c3:C→St→(Ex→St→Prop)→Prop}
 {c4:Nat→List V→aF→(V→aF→Prop)→Prop} {c5:O→List Nat→C→C→St→(Ex→St→Prop)→Prop} {c6:C→St→(Ex→St→Prop)→Prop}
theorem nY : ∀ {t t1 : Ty} {p : List Bool} (q : List Bool), t.qG p = some t1 → t.bC (p ++ q) = t.bC p + t1.bC q
 |t,t1,[],q,h=>by
  have:t=t1:=by cases t<;>(simp [Ty.qG] at h;exact h)
  subst this
  have h0:t.bC []=0:=by cases t<;>rfl
  simp [h0]
 | .prod a b,t1,false::p,q,h=>by simp only [Ty.qG] at h;simp only [List.cons_append,Ty.bC];exact nY q h
 | .prod a b,t1,true::p,q,h=>by simp only [Ty.qG] at h;simp only [List.cons_append,Ty.bC];rw [nY q h];omega
 | .unit,t1,b::p,q,h=>by cases b<;>simp [Ty.qG] at h
 | .bool,t1,b::p,q,h=>by cases b<;>simp [Ty.qG] at h
 | .str,t1,b::p,q,h=>by cases b<;>simp [Ty.qG] at h
 | .int k,t1,b::p,q,h=>by cases b<;>simp [Ty.qG] at h
 | .list k,t1,b::p,q,h=>by cases b<;>simp [Ty.qG] at h
 | .cq _ _ _,t1,b::p,q,h=>by cases b<;>simp [Ty.qG] at h
theorem zF {off : Nat} {path : List Bool} {x : O} {env : List (Nat × V)} {bl : ai} {n : Nat} {ob : List Bool} {v : V} {u : eC} {px : Value} (hx : Rel ι μ (x.ev env) px)
  (ag:bX (aY c1 c2 c3 c4 c5 c6) (.mL off path x) env bl n=some (ob,v,u)) (cV:nV ob):u=[]∧∃b o,px = .pointer (some ⟨b,o,none⟩)∧Rel ι μ v (.pointer (some ⟨b,o+off,none⟩)):=by
 simp only [bX] at ag
 split at ag<;>try (cases ag;done)
 ·rename_i id o dD
  rw [dD] at hx
  cases ag
  cases hx with
  |ptr _ _ L hL=>exact ⟨rfl,_,_,rfl,by rw [Nat.add_assoc];exact .ptr id (o+off) L hL⟩
 ·rename_i cs dD
  rw [dD] at hx
  split at ag<;>try (cases ag;done)
  rename_i hle
  cases ag
  cases hx with
  |ff _ b o g h1 h2 h3 =>
   refine ⟨rfl,_,_,rfl,.ff _ b (o+off) (fun i=>g (off+i)) (fun i hi=>?_) (fun i v hv=>?_) (fun i=>h3 _)⟩
   ·rw [Nat.add_assoc];exact h1 _ (by simp at hi;omega)
   ·exact h2 _ v (by simpa using hv)
 ·rename_i id t i p dD
  rw [dD] at hx
  split at ag<;>try (cases ag;done)
  rename_i t1 hat
  split at ag<;>try (cases ag;done)
  rename_i hoff
  split at ag<;>try (cases ag;done)
  cases ag
  cases hx with
  |ep _ _ _ _ L hL =>
   refine ⟨rfl,_,_,rfl,?_⟩
   have:=Rel.ep (ι:=ι) id t i (p++path) L hL
   rw [nY path hat,hoff,←Nat.add_assoc] at this
   exact this
 ·rename_i t y dD
  rw [dD] at hx
  split at ag<;>try (cases ag;done)
  rename_i hoff
  split at ag<;>try (cases ag;done)
  rename_i t2 z mQ
  cases ag
  cases hx with
  |ip _ _ b o us h1 h2 =>
   obtain ⟨g1,g2,_⟩:=qU mQ h2
   rw [hoff] at g1
   exact ⟨rfl,_,_,rfl,.ip t2 z b (o+off) _ (h1.sub off t2.sz) g1⟩
 ·rename_i id t m dD
  rw [dD] at hx
  split at ag<;>try (cases ag;done)
  rename_i hoff
  cases ag
  cases hx with
  |pa _ _ _ L hL hm =>
   refine ⟨rfl,_,_,rfl,?_⟩
   have:=Rel.ep (ι:=ι) id t (off / t.sz) [] L hL
   have h0:t.bC []=0:=by cases t<;>rfl
   rw [h0,Nat.add_zero,hoff.1] at this
   exact this
 ·rename_i t xs dD
  rw [dD] at hx
  split at ag<;>try (cases ag;done)
  rename_i hoff
  cases ag
  have hi:off / t.sz<xs.length:=by simpa using cV _ (List.mem_singleton.2 rfl)
  cases hx with
  |lg _ _ b o us h1 h2 =>
   have FC:xs[off / t.sz]?=some (xs.getD (off / t.sz) t.zero):=by simp [List.getD,hi]
   have hc:=h2.at (fun _ _=>af.length) FC
   rw [hoff] at hc
   exact ⟨rfl,_,_,rfl,.ip t _ b (o+off) _ (h1.sub off t.sz) hc⟩
 ·rename_i id o l dD
  rw [dD] at hx
  cases ag
  cases hx with
  |sp _ _ _ L hL hb =>
   refine ⟨rfl,_,_,rfl,?_⟩
   have:=Rel.sp (ι:=ι) id (o+off) l L hL hb
   have e:L.ba+(o+off+l7 l)=L.ba+(o+l7 l)+off:=by omega
   rwa [e] at this
theorem JP {eF : Nat} {x i : O} {env : List (Nat × V)} {bl : ai} {n : Nat} {ob : List Bool} {v : V} {u : eC} {px iv : Value} (hx : Rel ι μ (x.ev env) px) (hi : Rel ι μ (i.ev env) iv)
  (ag:bX (aY c1 c2 c3 c4 c5 c6) (.idx eF x i) env bl n=some (ob,v,u)) (cV:nV ob) :
  u=[]∧∃k m b o len cap,iv = .int k m∧px = .slice (some ⟨b,o,none⟩) len cap∧0≤m∧m<len∧Rel ι μ v (.pointer (some ⟨b,o+m.toNat * eF,none⟩)):=by
 simp only [bX] at ag
 split at ag<;>try (cases ag;done)
 rename_i k m hie
 rw [hie] at hi
 cases hi
 split at ag<;>try (cases ag;done)
 ·rename_i id t lo len dD
  rw [dD] at hx
  split at ag<;>try (cases ag;done)
  rename_i hsz
  cases ag
  have hb:=cV _ (List.mem_singleton.2 rfl)
  simp only [decide_eq_true_eq] at hb
  have iX:m<(len:Int):=hb.2
  cases hx with
  |cQ=>omega
  |sl _ _ _ _ cap L hL h1 h2 h3 =>
   refine ⟨rfl,k,m,_,_,_,_,rfl,rfl,hb.1,iX,?_⟩
   have:=Rel.ep (ι:=ι) id t (lo+m.toNat) [] L hL
   have h0:t.bC []=0:=by cases t<;>rfl
   rw [h0,Nat.add_mul,Nat.add_zero,←Nat.add_assoc,hsz] at this
   rw [hsz];exact this
 ·rename_i t xs dD
  rw [dD] at hx
  split at ag<;>try (cases ag;done)
  rename_i hsz
  cases ag
  have hb:=cV _ (List.mem_singleton.2 rfl)
  simp only [decide_eq_true_eq] at hb
  have iX:m<(xs.length:Int):=hb.2
  cases hx with
  |eL _ _ _ hd =>
   obtain ⟨a,cap,e,hle,hd⟩:=hd
   cases e
   rcases hd with rfl|⟨b,o,us,rfl,hrd,hc⟩
   ·simp at iX;omega
   ·have FC : xs[m.toNat]? = some (xs.getD m.toNat t.zero) := by simp [List.getD, show m.toNat < xs.length by omega]
    have hcell:=hc.at (fun _ _=>af.length) FC
    refine ⟨rfl,k,m,_,_,_,_,rfl,rfl,hb.1,iX,?_⟩
    rw [←hsz]
    exact .ip t _ b _ _ (hrd.sub (m.toNat * t.sz) t.sz) hcell
theorem wm {k : IntKind} : ∀ {a z : Int} {vs : List V} {xs : List Value}, iN (aY c1 c2 c3 c4 c5 c6) true k a vs = some z → aG ι μ vs xs → (xs.foldlM Builtin.max2 (.int k a)).run P w = .ok (.int k z) w
 |a,z,[],xs,h,hr=>by cases h;rw [hr.of_nil];rfl
 |a,z,v::r,xs,h,hr=>by
  obtain ⟨x,xs',rfl,h1,h2⟩:=hr.bA
  cases v<;>simp only [iN] at h<;>try (cases h;done)
  split at h<;>try (cases h;done)
  rename_i hk;subst hk
  cases h1
  simp only [List.foldlM_cons,Builtin.max2,Sem.run_bind,Sem.run_pure,Result.andThen_ok]
  exact wm h h2
theorem wo {k : IntKind} : ∀ {a z : Int} {vs : List V} {xs : List Value}, iN (aY c1 c2 c3 c4 c5 c6) false k a vs = some z → aG ι μ vs xs → (xs.foldlM Builtin.min2 (.int k a)).run P w = .ok (.int k z) w
 |a,z,[],xs,h,hr=>by cases h;rw [hr.of_nil];rfl
 |a,z,v::r,xs,h,hr=>by
  obtain ⟨x,xs',rfl,h1,h2⟩:=hr.bA
  cases v<;>simp only [iN] at h<;>try (cases h;done)
  split at h<;>try (cases h;done)
  rename_i hk;subst hk
  cases h1
  simp only [List.foldlM_cons,Builtin.min2,Sem.run_bind,Sem.run_pure,Result.andThen_ok]
  exact wo h h2
theorem oV {t:Ty} {v:Value} (h:tU t v=true):af ι t t.zero [v]:=by
 unfold tU at h
 split at h<;>try (cases h;done)
 ·simp at h;subst h;rfl
 ·rename_i s
  have:s=ByteArray.empty:=ByteArray.size_eq_zero_iff.1 (by simpa using h)
  subst this;rfl
 ·simp at h;obtain ⟨rfl,rfl⟩:=h;rfl
 ·exact ⟨none,0,rfl,Nat.le_refl _,.inl rfl⟩
theorem gh : ∀ {t : Ty} {vs r : List Value}, dW t vs = some r → ∃ us, vs = us ++ r ∧ af ι t t.zero us
 | .unit,vs,r,h=>by cases h;exact ⟨[],rfl,rfl⟩
 | .bool,vs,r,h=>by
  cases vs<;>simp [dW] at h
  obtain ⟨h,rfl⟩:=h;exact ⟨[_],rfl,oV h⟩
 | .str,vs,r,h=>by
  cases vs<;>simp [dW] at h
  obtain ⟨h,rfl⟩:=h;exact ⟨[_],rfl,oV h⟩
 | .int k,vs,r,h=>by
  cases vs<;>simp [dW] at h
  obtain ⟨h,rfl⟩:=h;exact ⟨[_],rfl,oV h⟩
 | .list t,vs,r,h=>by
  cases vs<;>simp [dW] at h
  obtain ⟨h,rfl⟩:=h;exact ⟨[_],rfl,oV h⟩
 | .prod a b,vs,r,h=>by
  simp only [dW] at h
  split at h<;>try (cases h;done)
  rename_i r1 h1
  obtain ⟨us,rfl,hu⟩:=gh h1
  obtain ⟨ws,rfl,hw⟩:=gh h
  exact ⟨us++ws,by simp,us,ws,rfl,hu,hw⟩
 | .cq _ _ _,vs,r,h=>by cases vs<;>simp [dW] at h
end
end Go.AM
end
