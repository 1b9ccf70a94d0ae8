/- A small typed machine: its data, its values, its heap, its operations. Nothing here speaks of the model's runs. How the small machine's values and heap stand for the model's. The model's code, read as the small machine's. The small machine's code: what must hold for it to end well. The small machine's heap in the model's world. What is read and written, small machine and model. Data out of cells and into them. Each operation of the small machine is the model's: loads, stores, new blocks. Each operation of the small machine is the model's: literals, stores, append, make. Each operation of the small machine is the model's: append, make, slices. Each operation of the small machine is the model's: the plain ones; all of them. Each operation of the small machine is the model's: all of them. -/
import Derived.Deep.MidRow
import Derived.Deep.AppendSrc
import Derived.RangeFuncNested
import Derived.RangeFuncLeaves
import Derived.KernelRfl
import Derived.Laws.StructEq
import Derived.ChangeKeysEq
set_option linter.unusedSectionVars false
set_option linter.unusedVariables false
set_option linter.unusedSimpArgs false
section
namespace Go.AM
inductive Ty where
 |unit|bool|str|int (k:IntKind)|list (t:Ty)|prod (a b:Ty)|bU (d:Nat) (g:Bool) (a:Ty)
 deriving DecidableEq
@[reducible] def Ty.den : Ty → Type
 | .unit=>Unit
 | .bool=>Bool
 | .str=>ByteArray
 | .int _=>Int
 | .list t=>List t.den
 | .prod a b=>a.den×b.den
 | .bU _ _ a=>a.den
def Ty.sz : Ty → Nat
 | .unit=>0
 | .prod a b=>a.sz+b.sz
 | .bool=>1
 | .str=>1
 | .int _=>1
 | .list _=>1
 | .bU _ _ _=>1
def Ty.zero : (t : Ty) → t.den
 | .unit=>()
 | .bool=>false
 | .str=>ByteArray.empty
 | .int _=>(0:Int)
 | .list _=>[]
 | .prod a b=>(a.zero,b.zero)
 | .bU _ _ a=>a.zero
inductive V where
 |any
 |tf (b:Bool)
 |bool (b:Bool)
 |int (k:IntKind) (n:Int)
 |str (s:ByteArray)
 |eJ
 |cu
 |cK
 |eG (t:Ty) (xs:List t.den)
 |kO (t:Ty) (xs:List t.den)
 |bA
 |sl (id:Nat) (t:Ty) (lo n:Nat)
 |ptr (id off:Nat)
 |av (cells:List V)
 |ep (id:Nat) (t:Ty) (i:Nat) (p:List Bool)
 |ip (t:Ty) (x:t.den)
 |fn (f:Nat) (first captured:List V)
 |yl (id:Nat)
 |agg (cs:List V)
 |cG (vs:List V)
 |bU (t:TypeId) (v:V)
 |cb (c:Bool)
 |mp (id:Nat)
 |dZ
 |pa (id:Nat) (t:Ty) (n:Nat)
 |jP (t:Ty) (xs:List t.den)
 |sp (id o:Nat) (l:List (Nat×Nat×Int))
instance:Inhabited V:=⟨.any⟩
def V.cells? : V → Option (List V)
 | .agg cs=>some cs
 | .any=>none
 | .cG _=>none
 | .cb _=>none
 |v=>some [v]
def get (t : Nat) : List (Nat × V) → V
 |[]=>.any
 |(s,v)::r=>match Nat.beq s t with
  |true=>v
  |false=>get t r
inductive O where
 |t (n:Nat)
 |c (v:V)
 |m (n:Nat) (c8:List (Nat×Nat))
def Nm (c8 : List (Nat × Nat)) : V → V
 | .bU t v=>match c8.lookup t with
  |some f=>.fn f [v] []
  |none=>.any
 |_=>.any
def O.ev (x:O) (env:List (Nat×V)):V :=
 match x with
 | .t n=>get n env
 | .c v=>v
 | .m n c8=>Nm c8 (get n env)
inductive fD where
 |add|sub|mul|quo|rem|and|or|xor|andNot|shl|shr|eql|neq|lss|leq|gtr|geq
 deriving DecidableEq
inductive kQ where
 |vS
 |Nn (len eZ:Nat) (g:Bool)
 |bytes
 |text
 |clear (t:Ty)
 |Np (neg:Bool)
 |E3 (neg:Bool)
 |E4 (neg:Bool)
 |CJ
 |Nq (kt:Ty) (kg:Bool) (vt:Ty) (vg:Bool)
 |E5 (kt:Ty) (kg:Bool) (vt:Ty) (vg ok:Bool)
 |fM (kt:Ty) (kg:Bool) (vt:Ty) (vg:Bool)
 |Sy
 |Sz (n:Nat)
 |mkif (t:TypeId)
 |gy (t:Ty) (n:Nat)
 |SA (t:Ty) (n:Nat)
 |capn
 |X3 (t:Ty)
 deriving DecidableEq
inductive Kd where
 |b|i|s
 deriving DecidableEq
inductive I where
 |mv (x:O)
 |pick (c a b:O)
 |alloc (z:List V)
 |box (x:O)
 |build (z:List V) (parts:List (Nat×Nat×O))
 |bI (t:Ty) (xs:List O)
 |load (agg:Bool) (k:Nat) (x:O)
 |store (k:Nat) (a x:O)
 |bin (op:fD) (x y:O)
 |SB (neg:Bool) (x y:O)
 |eqs (neg:Bool) (ks:List Kd) (x y:O)
 |neg (x:O)
 |not (x:O)
 |conv (k:IntKind) (x:O)
 |qc (off:Nat) (path:List Bool) (x:O)
 |field (agg:Bool) (off k:Nat) (x:O)
 |idx (eZ:Nat) (x i:O)
 |yO (len eZ:Nat) (x i:O)
 |ext (k:Nat) (x:O)
 |len (x:O)
 |lens (x:O)
 |yP (n:Nat)
 |append (eZ:Nat) (x y:O)
 |je (t:Ty) (n:O)
 |AL (f:Nat) (first captured:List O)
 |slice (eZ:Nat) (x:O) (lo hi mx:Option O)
 |lF (mx:Bool) (x:O) (ys:List O)
 |ex (e:kQ) (xs:List O)
inductive dD where
 |op (dst:Option Nat) (g:Option (Nat×Bool)) (i:I)
 |call (dst:Option Nat) (g:Option (Nat×Bool)) (f:O) (args:List O) (tys:List (Option Ty))
inductive C where
 |skip
 |cF (items:List dD)
 |draw (cU:List (List Nat)) (items:List dD)
 |seq (a b:C)
 |cond (c:O) (a b:C)
 |block (id:Nat) (c:C)
 |loop (c:C)
 |exit (id:Nat)
 |ret
 |c9 (f:O) (params:List Nat) (assign body:C)
 |gk (pre:List dD) (m:O) (it:Nat) (cl:List Nat) (e:Option Nat) (kt:Ty) (kg:Bool) (vt:Ty) (vg:Bool) (pJ:Nat) (body:C)
inductive Ex where
 |normal
 |exit (id:Nat)
 |ret
inductive qd where
 |ready|busy|done|exhausted
 deriving DecidableEq
inductive jE where
 |cells (cs:List V) (fz:Bool)
 |arr (t:Ty) (xs:List t.den) (fz:Bool)
 |loop (st:qd) (jump:Option Ex) (d:Nat) (env:List (Nat×V)) (params:List Nat) (assign body:C) (N:Nat)
 |fC
 |map (kt:Ty) (kg:Bool) (vt:Ty) (vg:Bool) (es:List (kt.den×vt.den))
 |j8 (t:Ty) (xs:List t.den) (i:Nat) (p:List Bool) (v:V)
abbrev ai:=List (Nat×jE)
def aq (id : Nat) : ai → Option jE
 |[]=>none
 |(s,b)::r=>match Nat.beq s id with
  |true=>some b
  |false=>aq id r
def cB (id : Nat) : ai → ai
 |[]=>[]
 |(s,b)::r=>match Nat.beq s id with
  |true=>cB id r
  |false=>(s,b)::cB id r
structure aO where
 next:Nat
 bl:ai
abbrev dU:=List (Nat×Option jE)
def bV : dU → ai → ai
 |[],bl=>bl
 |(id,none)::r,bl=>bV r (cB id bl)
 |(id,some b)::r,bl=>bV r ((id,b)::cB id bl)
structure St where
 env:List (Nat×V)
 H:aO
 ms:List Nat
abbrev GC:=Nat->List V->ai->Nat->V->dU->Prop
structure Ar where
 add:Int->Int->Int
 sub:Int->Int->Int
 mul:Int->Int->Int
 quo:Int->Int->Int
 rem:Int->Int->Int
 bits:fD->IntKind->Int->Int->Int
 shr:Int->Int->Int
 shl:Int->Int->Int
 X4:Int->Int->Int
 imax:Int->Int->Int
 eq:Int->Int->Bool
 lt:Int->Int->Bool
 le:Int->Int->Bool
 beq:Bool->Bool->Bool
 seq:ByteArray->ByteArray->Bool
 slt:ByteArray->ByteArray->Bool
 Km:ByteArray->Int
 SC:Bool->Bool->Bool
 sV:Bool->Bool
 Kn:Bool->Bool->Bool->Bool
 cP:IntKind->Int->Bool
 gz:Int->Int->Bool
 EW:Nat->Nat->Bool
 len:{α:Type}->List α->Nat
 get:{α:Type}->α->List α->Nat->α
 set:{α:Type}->List α->Nat->α->List α
 sub':{α:Type}->List α->Nat->Nat->List α
 app:{α:Type}->List α->List α->List α
 rep:{α:Type}->Nat->α->List α
 AN:Nat->Nat->Nat
 Nr:Nat->Nat->Nat
 sW:Int->Nat
 sat:ByteArray->Nat->Int
 bys:ByteArray->List Int
 txt:List Int->ByteArray
 wr:IntKind->Int->Int
 clr:{α:Type}->α->List α->Nat->Nat->List α
 mhas:(t:Ty)->{β:Type}->List (t.den×β)->t.den->Bool
 E5:(t:Ty)->{β:Type}->β->List (t.den×β)->t.den->β
 fM:(t:Ty)->{β:Type}->List (t.den×β)->t.den->β->List (t.den×β)
 call:Nat->List V->aO->(V->aO->Prop)->Prop
 dy:Nat->List V->V->Prop
 loop:C->St->(Ex->St->Prop)->Prop
 round:Nat->List V->aO->(V->aO->Prop)->Prop
 c9:O->List Nat->C->C->St->(Ex->St->Prop)->Prop
 gk:C->St->(Ex->St->Prop)->Prop
 CK:GC
def jK (t t':Ty) (xs:List t.den):Option (List t'.den):=if h:t=t' then some (h▸xs) else none
def fO : (t : Ty) → t.den → t.den → Bool
 | .unit,_,_=>true
 | .bool,a,b=>a==b
 | .str,a,b=>a.data.toList==b.data.toList
 | .int _,a,b=>a==b
 | .list _,_,_=>false
 | .prod a b,x,y=>fO a x.1 y.1&&fO b x.2 y.2
 | .bU _ _ a,x,y=>fO a x y
def bT (t:Ty) {β:Type} (es:List (t.den×β)) (k:t.den):Bool:=es.any fun e=>fO t k e.1
def aN (t : Ty) {β : Type} (d : β) : List (t.den × β) → t.den → β
 |[],_=>d
 |e::r,k=>if fO t k e.1=true then e.2 else aN t d r k
def dlt : (t : Ty) → t.den → t.den → Bool
 | .unit,_,_=>false
 | .bool,a,b => !a&&b
 | .str,a,b=>Op.bytesLess a.toList b.toList
 | .int _,a,b=>decide (a<b)
 | .list _,_,_=>false
 | .prod a b,x,y=>dlt a x.1 y.1||(fO a x.1 y.1&&dlt b x.2 y.2)
 | .bU _ _ a,x,y=>dlt a x y
def Hj (t : Ty) {β : Type} : List (t.den × β) → t.den → β → List (t.den × β)
 |[],k,v=>[(k,v)]
 |e::r,k,v=>if dlt t k e.1=true then (k,v)::e::r else e::Hj t r k v
def bh (t:Ty) {β:Type} (es:List (t.den×β)) (k:t.den) (v:β):List (t.den×β) :=
 if bT t es k=true then es.map (fun e=>if fO t k e.1=true then (k,v) else e) else Hj t es k v
def KD (t:Ty) {β:Type} (es:List (t.den×β)):Prop:=es.Pairwise fun a b=>fO t a.1 b.1=false
def nM (s:ByteArray):List Int:=s.data.toList.map fun b=>(b.toNat:Int)
def E6 (s:ByteArray) (n:Nat):Int:=(nM s).getD n 0
def CL (ys:List Int):ByteArray:=⟨(ys.map fun z=>UInt8.ofNat z.toNat).toArray⟩
def Ns {α:Type} (z:α) (xs:List α) (lo n:Nat):List α:=xs.take lo++List.replicate n z++xs.drop (lo+n)
def dL : (t : Ty) → t.den → List V
 | .unit,_=>[]
 | .bool,b=>[.bool b]
 | .str,s=>[.str s]
 | .int k,n=>[.int k n]
 | .list t,xs=>[.eG t xs]
 | .prod a b,x=>dL a x.1++dL b x.2
 | .bU d g t,x=>[.bU d (jl g (dL t x))]
where jl (g:Bool) (vs:List V):V:=match g with
 |true=>.agg vs
 |false=>match vs with
  |[v]=>v
  |_=>.any
def AO : Bool → V → Option (List V)
 |true,.agg cs=>some cs
 |true,_=>none
 |false,.agg _=>none
 |false,v=>v.cells?
def bQ (ar : Ar) (bl : ai) : (t : Ty) → List V → Option (t.den × dU × List V)
 | .unit,vs=>some ((),[],vs)
 | .bool,.bool b::r=>some (b,[],r)
 | .bool,.tf b::r=>some (b,[],r)
 | .str,.str s::r=>some (s,[],r)
 | .int k,.int k' n::r=>if k=k' then some (n,[],r) else none
 | .list t,.eG t' xs::r=>match jK t' t xs with
  |some ys=>some (ys,[],r)
  |none=>none
 | .list _,.bA::r=>some ([],[],r)
 | .list t,.sl id t' lo n::r=>match aq id bl with
  |some (.arr t'' xs _) =>
   if t'=t'' then
    match jK t'' t xs with
    |some ys=>some (ar.sub' ys lo n,[(id,some (.arr t'' xs true))],r)
    |none=>none
   else none
  |_=>none
 | .prod a b,vs=>match bQ ar bl a vs with
  |some (x,u,r)=>match bQ ar bl b r with
   |some (y,u',r')=>some ((x,y),u++u',r')
   |none=>none
  |none=>none
 | .bU d g t,.bU d' v::r=>if d=d' then
   (match AO g v with
   |some cs=>match bQ ar [] t cs with
    |some (x,[],[])=>some (x,[],r)
    |_=>none
   |none=>none) else none
 |_,_=>none
def pK : (t : Ty) → t.den → List Bool → Option (Σ t' : Ty, t'.den)
 |t,x,[]=>some ⟨t,x⟩
 | .prod a _,x,false::p=>pK a x.1 p
 | .prod _ b,x,true::p=>pK b x.2 p
 |_,_,_=>none
def Ty.qZ : Ty → List Bool → Option Ty
 |t,[]=>some t
 | .prod a _,false::p=>a.qZ p
 | .prod _ b,true::p=>b.qZ p
 |_,_=>none
def Ty.b7 : Ty → List Bool → Nat
 | .prod a _,false::p=>a.b7 p
 | .prod a b,true::p=>a.sz+b.b7 p
 |_,_=>0
def dz (ar : Ar) (bl : ai) : (t : Ty) → t.den → List Bool → List V → Option (t.den × dU)
 |t,_,[],vs=>match bQ ar bl t vs with
  |some (y,u,[])=>some (y,u)
  |_=>none
 | .prod a _,x,false::p,vs=>match dz ar bl a x.1 p vs with
  |some (y,u)=>some ((y,x.2),u)
  |none=>none
 | .prod _ b,x,true::p,vs=>match dz ar bl b x.2 p vs with
  |some (y,u)=>some ((x.1,y),u)
  |none=>none
 |_,_,_,_=>none
def sX (ar : Ar) (bl : ai) (t : Ty) : List V → Option (List t.den × dU)
 |[]=>some ([],[])
 |v::r=>match v.cells? with
  |some vs=>match bQ ar bl t vs with
   |some (x,u,[])=>match sX ar bl t r with
    |some (xs,u')=>some (x::xs,u++u')
    |none=>none
   |_=>none
  |none=>none
def cut (off k:Nat) (cs:List V):Option (List V) :=
 if off+k<=cs.length then some ((cs.drop off).take k) else none
def fQ (agg:Bool) (cs:List V):Option V :=
 match agg,cs with
 |true,cs=>some (.agg cs)
 |false,[c]=>some c
 |false,_=>none
def ke : List (Nat × Nat × Int) → Nat
 |[]=>0
 |(eZ,_,j)::r=>j.toNat * eZ+ke r
def nP : Nat → List V → List V → Option (List V)
 |0,vs,cs=>if vs.length<=cs.length then some (vs++cs.drop vs.length) else none
 |off+1,vs,c::cs=>match nP off vs cs with
  |some r=>some (c::r)
  |none=>none
 |_+1,_,[]=>none
def uF : List (Nat × Nat × O) → List (Nat × V) → List V → Option (List V)
 |[],_,cs=>some cs
 |(off,k,x)::r,env,cs =>
  match (x.ev env).cells? with
  |some vs=>if vs.length=k then (match nP off vs cs with
   |some cs'=>uF r env cs'
   |none=>none) else none
  |none=>none
def rq (id : Nat) : dU → Bool
 |[]=>true
 |(s,_)::r=>match Nat.beq s id with
  |true=>false
  |false=>rq id r
abbrev Out:=Option (List Bool×V×dU)
def E7 (ar:Ar) (op:fD) (k:IntKind) (a b:Int):Out :=
 match op with
 | .add=>match ar.add a b with|z=>some ([ar.cP k z],.int k z,[])
 | .sub=>match ar.sub a b with|z=>some ([ar.cP k z],.int k z,[])
 | .mul=>match k.signed with
  |true=>match ar.mul a b with|z=>some ([ar.cP k z],.int k z,[])
  |false=>some ([],.int k (ar.wr k (ar.mul a b)),[])
 | .quo=>match ar.quo a b with|z=>some ([ar.sV (ar.eq b 0),ar.cP k z],.int k z,[])
 | .rem=>some ([ar.sV (ar.eq b 0)],.int k (ar.rem a b),[])
 | .and=>some ([],.int k (ar.bits .and k a b),[])
 | .or=>some ([],.int k (ar.bits .or k a b),[])
 | .xor=>some ([],.int k (ar.bits .xor k a b),[])
 | .andNot=>some ([],.int k (ar.bits .andNot k a b),[])
 | .shl=>none
 | .shr=>none
 | .eql=>some ([],.bool (ar.eq a b),[])
 | .neq=>some ([],.bool (ar.sV (ar.eq a b)),[])
 | .lss=>some ([],.bool (ar.lt a b),[])
 | .leq=>some ([],.bool (ar.le a b),[])
 | .gtr=>some ([],.bool (ar.lt b a),[])
 | .geq=>some ([],.bool (ar.le b a),[])
def E8 (ar:Ar) (op:fD) (a b:ByteArray):Out :=
 match op with
 | .add=>match ar.add (ar.Km a) (ar.Km b) with|z=>some ([ar.cP .i64 z],.str (ar.txt (ar.app (ar.bys a) (ar.bys b))),[])
 | .eql=>some ([],.bool (ar.seq a b),[])
 | .neq=>some ([],.bool (ar.sV (ar.seq a b)),[])
 | .lss=>some ([],.bool (ar.slt a b),[])
 | .leq=>some ([],.bool (ar.Kn (ar.slt a b) true (ar.seq a b)),[])
 | .gtr=>some ([],.bool (ar.sV (ar.Kn (ar.slt a b) true (ar.seq a b))),[])
 | .geq=>some ([],.bool (ar.sV (ar.slt a b)),[])
 |_=>none
def zu (ar:Ar) (op:fD) (k:IntKind) (a b:Int):Out :=
 match op with
 | .shl=>match ar.shl a b with|z=>some ([ar.gz b k.bits,ar.cP k z],.int k z,[])
 | .shr=>some ([ar.gz b k.bits],.int k (ar.shr a b),[])
 |_=>none
def Ko : V → Option Bool
 | .bool b=>some b
 | .tf b=>some b
 |_=>none
def bf (ar : Ar) : List Kd → List V → List V → Option Bool
 |[],[],[]=>some true
 | .i::ks,.int k a::r,.int k' b::s=>if k=k' then (match bf ar ks r s with
  |some c=>some (ar.SC (ar.eq a b) c)
  |none=>none) else none
 | .s::ks,.str a::r,.str b::s=>match bf ar ks r s with
  |some c=>some (ar.SC (ar.seq a b) c)
  |none=>none
 | .b::ks,x::r,y::s=>match Ko x,Ko y with
  |some a,some b=>match bf ar ks r s with
   |some c=>some (ar.SC (ar.beq a b) c)
   |none=>none
  |_,_=>none
 |_,_,_=>none
def jf (ar : Ar) (mx : Bool) (k : IntKind) : Int → List V → Option Int
 |a,[]=>some a
 |a,.int k' b::r=>if k=k' then jf ar mx k (match mx with|true=>ar.imax a b|false=>ar.X4 a b) r else none
 |_,_=>none
def qe : V → Option Int
 | .int _ n=>some n
 |_=>none
def cV (env : List (Nat × V)) (d : Int) : Option O → Option Int
 |none=>some d
 |some x=>qe (x.ev env)
def elems (ar : Ar) (bl : ai) (t : Ty) : V → Option (List t.den)
 | .bA=>some []
 | .eG t' xs=>jK t' t xs
 | .sl id t' lo n=>match aq id bl with
  |some (.arr t'' xs _)=>if t'=t'' then (match jK t'' t xs with
   |some ys=>some (ar.sub' ys lo n)
   |none=>none) else none
  |_=>none
 |_=>none
def Nt : V → Option Ty
 | .eG t _=>some t
 | .sl _ t _ _=>some t
 |_=>none
def cz:Nat:=2 ^ 30
def lY (ar : Ar) (bl : ai) (t : Ty) : Nat → List V → Option (List t.den × dU)
 |0,[]=>some ([],[])
 |0,_=>none
 |n+1,vs=>match bQ ar bl t vs with
  |some (x,u,r)=>match lY ar bl t n r with
   |some (xs,u')=>some (x::xs,u++u')
   |none=>none
  |none=>none
def CM (ar : Ar) (t : Ty) (xs : List t.den) : Nat → Nat → List V
 |0,_=>[]
 |n+1,i=>dL t (ar.get t.zero xs i)++CM ar t xs n (i+1)
def Hl (k : IntKind) : List V → Option (List Int)
 |[]=>some []
 | .int k' z::r=>if k=k' then (match Hl k r with
  |some zs=>some (z::zs)
  |none=>none) else none
 |_=>none
def colZ (len eZ:Nat) (zs:List Int) (m:Nat):List Int:=(List.range len).map fun j=>zs.getD (j * eZ+m) 0
def SD (ar:Ar) (k:IntKind) (len eZ:Nat) (zs:List Int) (i:Nat):List V:=(List.range eZ).map fun m=>.int k (ar.get 0 (colZ len eZ zs m) i)
def Ho (kt vt M1 M3:Ty) (es:List (kt.den×vt.den)):Option (List (M1.den×M3.den)):=if h:kt=M1/\vt=M3 then some (h.1▸h.2▸es) else none
def jm (bl:ai) (kt:Ty) (kg:Bool) (vt:Ty) (vg:Bool) (id:Nat):Option (List (kt.den×vt.den)):=match aq id bl with
 |some (.map M1 WR M3 SE es)=>if kg=WR/\vg=SE then Ho M1 M3 kt vt es else none
 |_=>none
def keyOf (ar:Ar) (kt:Ty) (kg:Bool) (k:V):Option kt.den:=match AO kg k with
 |some cs=>match bQ ar [] kt cs with
  |some (x,[],[])=>some x
  |_=>none
 |none=>none
def kV (ar:Ar) (e:kQ) (vs:List V) (bl:ai) (aM:Nat):Out :=
 match e with
 | .vS=>match vs with
  |[.str s,.int _ n]=>some ([ar.gz n (ar.Km s)],.int .u8 (ar.sat s (ar.sW n)),[])
  |_=>none
 | .Nn len eZ g=>match vs with
  |[.agg cs,.int _ i]=>match Nat.beq cs.length (len * eZ) with
   |false=>none
   |true=>match cs with
    | .int k z::r=>match Hl k (.int k z::r) with
     |some zs=>match fQ g (SD ar k len eZ zs (ar.sW i)) with
      |some v=>some ([ar.gz i (Int.ofNat len)],v,[])
      |none=>none
     |none=>none
    |cs=>match i with
     | .ofNat n=>if n<len then (match cut (n * eZ) eZ cs with
      |some vs=>match fQ g vs with
       |some v=>some ([],v,[])
       |none=>none
      |none=>none) else none
     |_=>none
  |_=>none
 | .bytes=>match vs with
  |[.str s]=>some ([],.eG (.int .u8) (ar.bys s),[])
  |_=>none
 | .text=>match vs with
  |[v]=>match elems ar bl (.int .u8) v with
   |some ys=>some ([],.str (ar.txt ys),[])
   |none=>none
  |_=>none
 | .clear t=>match vs with
  |[.sl id t' lo n]=>if t'=t then (match aq id bl with
   |some (.arr t'' xs false)=>if t'=t'' then some ([],.cG [],[(id,some (.arr t'' (ar.clr t''.zero xs lo n) false))]) else none
   |_=>none) else none
  |_=>none
 | .Np neg=>match vs with
  |[.bA]=>some ([],.tf (!neg),[])
  |[.sl _ _ _ n]=>match neg with
   |false=>some ([],.cb (ar.eq (Int.ofNat n) 0),[])
   |true=>none
  |[.eG _ xs]=>match neg with
   |false=>some ([],.cb (ar.eq (Int.ofNat (ar.len xs)) 0),[])
   |true=>none
  |_=>none
 | .E3 neg=>match vs with
  |[.mp _]=>some ([],.tf neg,[])
  |[.dZ]=>some ([],.tf (!neg),[])
  |_=>none
 | .E4 neg=>match vs with
  |[.ptr _ _]=>some ([],.tf neg,[])
  |[.eJ]=>some ([],.tf (!neg),[])
  |_=>none
 | .CJ=>match vs with
  |[.bU t v]=>some ([],.bU t v,[])
  |[.ptr id o]=>some ([],.ptr id o,[])
  |[.av cs]=>some ([],.av cs,[])
  |_=>none
 | .Nq kt kg vt vg=>some ([],.mp aM,[(aM,some (.map kt kg vt vg []))])
 | .E5 kt kg vt vg ok=>match vs with
  |[m,k]=>match keyOf ar kt kg k with
   |some x=>match (match m with
    | .mp id=>jm bl kt kg vt vg id
    | .dZ=>some []
    |_=>none) with
    |some es=>match dL.jl vg (dL vt (ar.E5 kt vt.zero es x)) with
     |v=>match ok with
      |true=>some ([],.cG [v,.bool (ar.mhas kt es x)],[])
      |false=>some ([],v,[])
    |none=>none
   |none=>none
  |_=>none
 | .fM kt kg vt vg=>match vs with
  |[.mp id,k,v]=>match keyOf ar kt kg k with
   |some x=>match keyOf ar vt vg v with
    |some y=>match jm bl kt kg vt vg id with
     |some es=>some ([],.any,[(id,some (.map kt kg vt vg (ar.fM kt es x y)))])
     |none=>none
    |none=>none
   |none=>none
  |_=>none
 | .Sy=>match vs with
  |[.mp id]=>match aq id bl with
   |some (.map _ _ _ _ es)=>some ([],.int .i64 (Int.ofNat (ar.len es)),[])
   |_=>none
  |[.dZ]=>some ([],.int .i64 0,[])
  |_=>none
 | .Sz n=>match vs with
  |[.pa id t m]=>match aq id bl with
   |some (.arr t' _ _)=>if t=t'/\m=n then some ([],.sl id t 0 n,[]) else none
   |_=>none
  |_=>none
 | .mkif t=>match vs with
  |[v]=>some ([],.bU t v,[])
  |_=>none
 | .gy t n=>some ([],.pa aM t n,[(aM,some (.arr t (ar.rep n t.zero) false))])
 | .SA t n=>match vs with
  |[.agg cs]=>match lY ar bl t n cs with
   |some (xs,u)=>some ([],.pa aM t n,u++[(aM,some (.arr t xs false))])
   |none=>none
  |_=>none
 | .capn=>match vs with
  |[.bA]=>some ([],.int .i64 0,[])
  |_=>none
 | .X3 t=>match vs with
  |[.bA,.int _ z]=>match ar.sW z with
   |m=>some ([ar.gz z (Int.ofNat cz)],.sl aM t 0 m,[(aM,some (.arr t (ar.rep m t.zero) false))])
  |_=>none
def kQ.lays : kQ → Bool
 | .Nq _ _ _ _=>true
 | .gy _ _=>true
 | .SA _ _=>true
 | .X3 _=>true
 |_=>false
def upTo : Nat → List Nat → List Nat
 |0,r=>r
 |n+1,r=>upTo n (n::r)
def AP (f : Nat → Option V) : List Nat → Option (List V)
 |[]=>some []
 |n::r=>match f n with
  |some v=>match AP f r with
   |some vs=>some (v::vs)
   |none=>none
  |none=>none
def asI (k : IntKind) : List V → Option (List Int)
 |[]=>some []
 |v::r=>match v with
  | .int k' n=>if k=k' then (match asI k r with
   |some ns=>some (n::ns)
   |none=>none) else none
  |_=>none
def Nu (ar:Ar) (vs:List V) (j:Int):Option V:=match vs with
 | .int k n::r=>match asI k r with
  |some ns=>some (.int k (ar.get 0 (n::ns) (ar.sW j)))
  |none=>none
 |_=>none
def CN (ar : Ar) (cs : List V) : List (Nat × Nat × Int) → Nat → Option V
 |[],o=>cs[o]?
 |(eZ,len,j)::r,o=>match AP (fun n=>CN ar cs r (o+n * eZ)) (upTo len []) with
  |some vs=>Nu ar vs j
  |none=>none
def de (ar:Ar) (i:I) (env:List (Nat×V)) (bl:ai) (aM:Nat):Out :=
 match i with
 | .mv x=>some ([],x.ev env,[])
 | .pick c a b =>
  match c.ev env with
  | .tf true=>some ([],a.ev env,[])
  | .tf false=>some ([],b.ev env,[])
  | .bool c=>match Ko (a.ev env),Ko (b.ev env) with
   |some x,some y=>some ([],.bool (ar.Kn c x y),[])
   |_,_=>none
  |_=>none
 | .alloc z=>some ([],.ptr aM 0,[(aM,some (.cells z false))])
 | .box x=>match (x.ev env).cells? with
  |some cs=>some ([],.ptr aM 0,[(aM,some (.cells cs false))])
  |none=>none
 | .build z parts=>match uF parts env z with
  |some cs=>some ([],.agg cs,[])
  |none=>none
 | .bI t xs=>match sX ar bl t (xs.map (·.ev env)) with
  |some (ys,u)=>some ([],.sl aM t 0 xs.length,u++[(aM,some (.arr t ys false))])
  |none=>none
 | .load agg k x =>
  match x.ev env with
  | .ptr id off=>match aq id bl with
   |some (.cells cs _)=>match cut off k cs with
    |some vs=>match fQ agg vs with
     |some v=>some ([],v,[])
     |none=>none
    |none=>none
   |_=>none
  | .av cs=>match cut 0 k cs with
   |some vs=>match fQ agg vs with
    |some v=>some ([],v,[])
    |none=>none
   |none=>none
  | .ep id t i p=>match aq id bl with
   |some (.arr t' xs _)=>if t=t' then
     match pK t' (ar.get t'.zero xs i) p with
     |some ⟨t2,y⟩=>match dL t2 y with
      |vs=>if vs.length=k then (match fQ agg vs with
       |some v=>some ([ar.EW i (ar.len xs)],v,[])
       |none=>none) else none
     |none=>none
    else none
   |some (.j8 t' xs i' p' v)=>if t=t'/\p=p'/\k=1 then (match agg with
    |false=>some ([ar.eq (Int.ofNat i) (Int.ofNat i')],v,[])
    |true=>none) else none
   |_=>none
  | .ip t y=>match dL t y with
   |vs=>if vs.length=k then (match fQ agg vs with
    |some v=>some ([],v,[])
    |none=>none) else none
  | .pa id t m=>match aq id bl with
   |some (.arr t' xs _)=>if t=t' then (match CM ar t' xs m 0 with
    |vs=>if vs.length=k then (match fQ agg vs with
     |some v=>some ([],v,[])
     |none=>none) else none) else none
   |_=>none
  | .sp id o l=>match aq id bl with
   |some (.cells cs _)=>match k with
    |1=>match CN ar cs l o with
     |some v=>match fQ agg [v] with
      |some v=>some ([],v,[])
      |none=>none
     |none=>none
    |_=>none
   |_=>none
  |_=>none
 | .store k a x =>
  match (x.ev env).cells? with
  |none=>none
  |some vs=>if vs.length=k then
   (match a.ev env with
   | .ptr id off=>match aq id bl with
    |some (.cells cs false)=>match nP off vs cs with
     |some cs'=>some ([],.any,[(id,some (.cells cs' false))])
     |none=>none
    |_=>none
   | .ep id t i p=>match aq id bl with
    |some (.arr t' xs false)=>if t=t' then
      match dz ar bl t' (ar.get t'.zero xs i) p vs with
      |some (y,u)=>match rq id u with
       |true=>some ([ar.EW i (ar.len xs)],.any,u++[(id,some (.arr t' (ar.set xs i y) false))])
       |false=>none
      |none=>none
     else none
    |_=>none
   | .pa id t m=>match aq id bl with
    |some (.arr t' xs false)=>if t=t' then
      match lY ar bl t' m vs with
      |some (ys,u)=>match rq id u with
       |true=>some ([],.any,u++[(id,some (.arr t' ys false))])
       |false=>none
      |none=>none
     else none
    |_=>none
   | .sp id o l=>match aq id bl with
    |some (.cells cs false)=>match nP (o+ke l) vs cs with
     |some cs'=>some ([],.any,[(id,some (.cells cs' false))])
     |none=>none
    |_=>none
   |_=>none) else none
 | .bin op x y =>
  match x.ev env,y.ev env with
  | .int k a,.int k' b=>match op with
   | .shl=>zu ar .shl k a b
   | .shr=>zu ar .shr k a b
   |_=>if k=k' then E7 ar op k a b else none
  | .str a,.str b=>E8 ar op a b
  |_,_=>none
 | .SB neg x y=>match Ko (x.ev env),Ko (y.ev env) with
  |some a,some b=>some ([],.bool (match neg with|true=>ar.sV (ar.beq a b)|false=>ar.beq a b),[])
  |_,_=>none
 | .eqs neg ks x y =>
  match x.ev env,y.ev env with
  | .agg xs,.agg ys=>match bf ar ks xs ys with
   |some c=>some ([],.bool (match neg with|true=>ar.sV c|false=>c),[])
   |none=>none
  |_,_=>none
 | .neg x=>match x.ev env with
  | .int k a=>match k.signed with
   |true=>match ar.sub 0 a with|z=>some ([ar.cP k z],.int k z,[])
   |false=>some ([],.int k (ar.wr k (ar.sub 0 a)),[])
  |_=>none
 | .not x=>match x.ev env with
  | .tf b=>some ([],.tf (!b),[])
  | .bool b=>some ([],.bool (ar.sV b),[])
  |_=>none
 | .conv k x=>match x.ev env with
  | .int _ n=>some ([ar.cP k n],.int k n,[])
  |_=>none
 | .qc off path x=>match x.ev env with
  | .ptr id o=>some ([],.ptr id (o+off),[])
  | .av cs=>if off<=cs.length then some ([],.av (cs.drop off),[]) else none
  | .ep id t i p=>match t.qZ p with
   |some t1=>if t1.b7 path=off then (match t1.qZ path with
    |some _=>some ([],.ep id t i (p++path),[])
    |none=>none) else none
   |none=>none
  | .ip t y=>if t.b7 path=off then (match pK t y path with
   |some ⟨t2,z⟩=>some ([],.ip t2 z,[])
   |none=>none) else none
  | .pa id t m=>if (off / t.sz) * t.sz=off/\off / t.sz<m then some ([],.ep id t (off / t.sz) [],[]) else none
  | .jP t xs=>if (off / t.sz) * t.sz=off then some ([ar.EW (off / t.sz) (ar.len xs)],.ip t (ar.get t.zero xs (off / t.sz)),[]) else none
  | .sp id o l=>some ([],.sp id (o+off) l,[])
  |_=>none
 | .field agg off k x=>match x.ev env with
  | .agg cs=>match cut off k cs with
   |some vs=>match fQ agg vs with
    |some v=>some ([],v,[])
    |none=>none
   |none=>none
  |_=>none
 | .idx eZ x i =>
  match i.ev env with
  | .int _ n=>match x.ev env with
   | .sl id t lo m=>if t.sz=eZ then some ([ar.gz n (Int.ofNat m)],.ep id t (ar.AN lo (ar.sW n)) [],[]) else none
   | .eG t xs=>if t.sz=eZ then some ([ar.gz n (Int.ofNat (ar.len xs))],.ip t (ar.get t.zero xs (ar.sW n)),[]) else none
   |_=>none
  |_=>none
 | .yO len eZ x i =>
  match x.ev env with
  | .pa id t m=>match i.ev env with
   | .int _ j=>if t.sz=eZ/\m=len then some ([ar.gz j (Int.ofNat len)],.ep id t (ar.sW j) [],[]) else none
   |_=>none
  | .jP t xs=>match i.ev env with
   | .int _ j=>if t.sz=eZ then some ([ar.gz j (Int.ofNat len),ar.gz j (Int.ofNat (ar.len xs))],.ip t (ar.get t.zero xs (ar.sW j)),[]) else none
   |_=>none
  | .ptr id o=>match i.ev env with
   | .int _ j=>some ([ar.gz j (Int.ofNat len)],.sp id o [(eZ,len,j)],[])
   |_=>none
  | .sp id o l=>match i.ev env with
   | .int _ j=>some ([ar.gz j (Int.ofNat len)],.sp id o ((eZ,len,j)::l),[])
   |_=>none
  | .av cs=>match i.ev env with
   | .int _ (.ofNat n)=>if n<len then (if n * eZ<=cs.length then some ([],.av (cs.drop (n * eZ)),[]) else none) else none
   |_=>none
  |_=>none
 | .ext k x=>match x.ev env with
  | .cG vs=>match vs[k]? with
   |some v=>some ([],v,[])
   |none=>none
  |_=>none
 | .len x=>match x.ev env with
  | .sl _ _ _ n=>some ([],.int .i64 (Int.ofNat n),[])
  | .eG _ xs=>some ([],.int .i64 (Int.ofNat (ar.len xs)),[])
  | .bA=>some ([],.int .i64 0,[])
  |_=>none
 | .lens x=>match x.ev env with
  | .str s=>some ([],.int .i64 (ar.Km s),[])
  |_=>none
 | .yP n=>some ([],.int .i64 (Int.ofNat n),[])
 | .append eZ x y =>
  match x.ev env with
  | .bA=>match Nt (y.ev env) with
   |some t=>if t.sz=eZ then
     (match elems ar bl t (y.ev env) with
     |some ys=>match ar.len ys with
      |m=>some ([ar.EW m cz],.sl aM t 0 m,[(aM,some (.arr t ys false))])
     |none=>none) else none
   |none=>none
  | .sl id t lo n=>if t.sz=eZ then
   (match aq id bl with
   |some (.arr t' xs false)=>if t'=t then
    (match jK t' t xs with
    |some xs'=>match elems ar bl t (y.ev env) with
     |some ys=>match ar.AN n (ar.len ys) with
      |m=>some ([ar.EW m cz],.sl aM t 0 m,[(id,none),(aM,some (.arr t (ar.app (ar.sub' xs' lo n) ys) false))])
     |none=>none
    |none=>none) else none
   |_=>none) else none
  | .kO t xs=>if t.sz=eZ then
   (match elems ar bl t (y.ev env) with
   |some ys=>match ar.AN (ar.len xs) (ar.len ys) with
    |m=>some ([ar.EW 0 (ar.len ys),ar.EW m cz],.sl aM t 0 m,[(aM,some (.arr t (ar.app xs ys) false))])
   |none=>none) else none
  |_=>none
 | .je t n=>match n.ev env with
  | .int _ z=>match ar.sW z with
   |m=>some ([ar.gz z (Int.ofNat cz)],.sl aM t 0 m,[(aM,some (.arr t (ar.rep m t.zero) false))])
  |_=>none
 | .AL f a b=>some ([],.fn f (a.map (·.ev env)) (b.map (·.ev env)),[])
 | .slice eZ x lo hi mx =>
  match mx with
  |some m=>match hi with
   |some h=>match qe (m.ev env),qe (h.ev env),cV env 0 lo with
    |some a,some b,some c=>match x.ev env with
     | .eG t xs=>some ([ar.eq c 0,ar.eq a b,ar.eq a (Int.ofNat (ar.len xs))],.kO t xs,[])
     | .bA=>some ([ar.eq a 0,ar.eq b 0,ar.eq c 0],.bA,[])
     |_=>none
    |_,_,_=>none
   |none=>none
  |none =>
   match x.ev env with
   | .sl id t l n=>if t.sz=eZ then
    (match cV env 0 lo,cV env (Int.ofNat n) hi with
    |some a,some b=>some ([ar.le 0 a,ar.le a b,ar.le b (Int.ofNat n)],.sl id t (ar.AN l (ar.sW a)) (ar.Nr (ar.sW b) (ar.sW a)),[])
    |_,_=>none) else none
   | .eG t xs=>if t.sz=eZ then
    (match cV env 0 lo,cV env (Int.ofNat (ar.len xs)) hi with
    |some a,some b=>some ([ar.le 0 a,ar.le a b,ar.le b (Int.ofNat (ar.len xs))],.eG t (ar.sub' xs (ar.sW a) (ar.Nr (ar.sW b) (ar.sW a))),[])
    |_,_=>none) else none
   | .bA=>(match cV env 0 lo,cV env 0 hi with
    |some a,some b=>some ([ar.eq a 0,ar.eq b 0],.bA,[])
    |_,_=>none)
   |_=>none
 | .ex e xs=>kV ar e (xs.map (·.ev env)) bl aM
 | .lF mx x ys=>match x.ev env with
  | .int k a=>match jf ar mx k a (ys.map (·.ev env)) with
   |some z=>some ([],.int k z,[])
   |none=>none
  |_=>none
def lG : Ty → List V → Option (List Bool × V × List V)
 | .list _,.sl id t lo n::r=>some ([],.sl id t lo n,.bA::r)
 | .prod a b,vs=>match lG a vs with
  |some (p,v,vs')=>some (false::p,v,vs')
  |none=>match lG b (vs.drop a.sz) with
   |some (p,v,vs')=>some (true::p,v,vs.take a.sz++vs')
   |none=>none
 |_,_=>none
def uY : Ty → List V → Option (List Bool)
 | .list _,.bA::_=>some []
 | .prod a b,vs=>match uY a vs with
  |some p=>some (false::p)
  |none=>match uY b (vs.drop a.sz) with
   |some p=>some (true::p)
   |none=>none
 |_,_=>none
def vk (ar:Ar) (i:I) (env:List (Nat×V)) (bl:ai) (aM:Nat):Out:=match i with
 | .bI t xs=>match xs with
  |[x]=>match (x.ev env).cells? with
   |some vs=>match uY t vs with
    |some p=>match bQ ar bl t vs with
     |some (y,[],[])=>some ([],.sl aM t 0 1,[(aM,some (.j8 t [y] 0 p .bA))])
     |_=>none
    |none=>none
   |none=>none
  |_=>none
 | .store k a x=>match (x.ev env).cells? with
  |none=>none
  |some vs=>if vs.length=k then (match a.ev env with
   | .ep id t i p=>match aq id bl with
    |some (.arr t' xs false)=>if t=t' then (match t'.qZ p with
     |some t1=>match lG t1 vs with
      |some (q,v,vs')=>match dz ar bl t' (ar.get t'.zero xs i) p vs' with
       |some (y,[])=>some ([ar.EW i (ar.len xs)],.any,[(id,some (.j8 t' (ar.set xs i y) i (p++q) v))])
       |_=>none
      |none=>none
     |none=>none) else none
    |some (.j8 t' xs i' p' _)=>if t=t'/\p=p' then (match vs with
     |[.sl id' s lo n]=>some ([ar.eq (Int.ofNat i) (Int.ofNat i')],.any,[(id,some (.j8 t' xs i' p' (.sl id' s lo n)))])
     |_=>none) else none
    |_=>none
   |_=>none) else none
 |_=>none
def Nv : ai → List Nat
 |[]=>[]
 |(id,.j8 _ _ _ _ _)::r=>id::Nv r
 |_::r=>Nv r
def AQ : ai → List Nat
 |[]=>[]
 |(id,.j8 _ _ _ _ v)::r=>match v with
  | .bA=>AQ r
  |_=>id::AQ r
 |_::r=>AQ r
def E9 (ar : Ar) (bl : ai) : List V → Option (List V × dU)
 |[]=>some ([],[])
 |v::r=>match E9 ar bl r with
  |some (r',u)=>match v with
   | .sl id t lo n=>match bQ ar bl (.list t) [.sl id t lo n] with
    |some (xs,u0,[])=>some (.eG t xs::r',u0++u)
    |_=>none
   |v=>some (v::r',u)
  |none=>none
def WU : List V → Bool
 |[]=>false
 | .sl _ _ _ _::_=>true
 |_::r=>WU r
def Hp : ai → List Nat
 |[]=>[]
 |(id,.cells cs false)::r=>match WU cs with
  |true=>id::Hp r
  |false=>Hp r
 |_::r=>Hp r
def clU (ar:Ar) (id:Nat) (bl:ai):Option dU:=match aq id bl with
 |some (.j8 t xs i p v)=>match dz ar bl t (ar.get t.zero xs i) p [v] with
  |some (y,u)=>match rq id u with
   |true=>some (u++[(id,some (.arr t (ar.set xs i y) false))])
   |false=>none
  |none=>none
 |some (.cells cs fz)=>match E9 ar bl cs with
  |some (cs',u)=>match rq id u with
   |true=>some (u++[(id,some (.cells cs' fz))])
   |false=>none
  |none=>none
 |_=>some []
def Kq (ar : Ar) : List Nat → ai → Option dU
 |[],_=>some []
 |id::r,bl=>match clU ar id bl with
  |some u=>match Kq ar r (bV u bl) with
   |some u'=>some (u++u')
   |none=>none
  |none=>none
def Kr (ar:Ar) (S:St) (k:St->Prop):Prop:=k S\/∃ids u,Kq ar ids S.H.bl=some u/\k ⟨S.env,⟨S.H.next,bV u S.H.bl⟩,S.ms⟩
def I.lays : I → Bool
 | .alloc _ | .box _ | .bI _ _ | .append _ _ _ | .je _ _=>true
 | .ex e _=>e.lays
 |_=>false
def CA (l:Bool) (n:Nat):Nat:=match l with
 |true=>n+1
 |false=>n
def AR (t:Nat) (v:V) (r:List (Nat×V)):List (Nat×V):=(t,v)::r
def put (d:Option Nat) (v:V) (env:List (Nat×V)):List (Nat×V) :=
 match d with
 |some t=>AR t v env
 |none=>env
def qf : List Bool → Prop
 |[]=>True
 |[b]=>b=true
 |b::r=>b=true/\qf r
def Br (c:Bool) (t e:Unit->Prop):Prop:=(c=true->t ())/\(c=false->e ())
def Sg (s:Nat) (b:Bool) (S:St):St:={ S with env:=AR s (.tf b) S.env }
def ru (o:Out) (l:Bool) (dst:Option Nat) (S:St) (K:St->Prop):Prop :=
 match o with
 |some ([],v,u)=>K ⟨put dst v S.env,⟨CA l S.H.next,bV u S.H.bl⟩,S.ms⟩
 |some (ob,v,u)=>qf ob/\K ⟨put dst v S.env,⟨CA l S.H.next,bV u S.H.bl⟩,S.ms⟩
 |none=>False
def wpOp (ar:Ar) (dst:Option Nat) (i:I) (S:St) (K:St->Prop):Prop :=
 ru (de ar i S.env S.H.bl S.H.next) i.lays dst S K\/ru (vk ar i S.env S.H.bl S.H.next) i.lays dst S K \/
  ∃ids u,Kq ar ids S.H.bl=some u/\ru (de ar i S.env (bV u S.H.bl) S.H.next) i.lays dst ⟨S.env,⟨S.H.next,bV u S.H.bl⟩,S.ms⟩ K
def Hq : Ty → V → V
 | .list t,.bA=>.eG t []
 | .bool,.tf b=>.bool b
 |_,v=>v
def vl : Ty → List Ty
 | .unit=>[]
 | .prod a b=>vl a++vl b
 |t=>[t]
def AU : List Ty → List V → List V
 |t::ts,c::cs=>Hq t c::AU ts cs
 |_,cs=>cs
def Nw (ty:Option Ty) (v:V):V:=match ty with
 |none=>v
 |some t=>match v with
  | .agg cs=>.agg (AU (vl t) cs)
  |v=>Hq t v
def hT : Ty → Ty
 | .list _=>.str
 | .prod a b=>.prod (hT a) (hT b)
 |t=>t
def hTs (ts:List (Option Ty)):List (Option Ty):=ts.map (·.map hT)
def cw : List (Option Ty) → List V → List V
 |t::ts,v::vs=>Nw t v::cw ts vs
 |_,vs=>vs
def mS (ar:Ar) (dst:Option Nat) (f:O) (args:List O) (tys:List (Option Ty)) (S:St) (K:St->Prop):Prop :=
 match f.ev S.env with
 | .fn f first cap=>ar.call f (first++cw tys (args.map (·.ev S.env))++cap) S.H fun v H=>K ⟨put dst v S.env,H,S.ms⟩
 | .yl id=>ar.round id (cw tys (args.map (·.ev S.env))) S.H fun v H=>K ⟨put dst v S.env,H,S.ms⟩
 |_=>False
def AV (ar:Ar) (dst:Option Nat) (f:O) (args:List O) (tys:List (Option Ty)) (S:St) (K:St->Prop):Prop:=Kr ar S fun S=>mS ar dst f args tys S K
def jg (g:Option (Nat×Bool)) (dst:Option Nat) (S:St) (K:St->Prop) (run:St->Prop):Prop :=
 match g with
 |none=>run S
 |some (s,b)=>match get s S.env with
  | .tf c=>match c,b with
   |true,true=>run S
   |false,false=>run S
   |true,false=>K ⟨put dst (.cG []) S.env,S.H,S.ms⟩
   |false,true=>K ⟨put dst (.cG []) S.env,S.H,S.ms⟩
  | .bool c => Br c
   (fun _=>match b with
    |true=>run (Sg s true S)
    |false=>K ⟨put dst (.cG []) (Sg s true S).env,S.H,S.ms⟩)
   (fun _=>match b with
    |false=>run (Sg s false S)
    |true=>K ⟨put dst (.cG []) (Sg s false S).env,S.H,S.ms⟩)
  | .cG _=>K ⟨put dst (.cG []) S.env,S.H,S.ms⟩
  |_=>False
def dF (ar : Ar) : List dD → St → (St → Prop) → Prop
 |[],S,K=>K S
 | .op d g i::r,S,K=>jg g d S (fun S=>dF ar r S K) (fun S=>wpOp ar d i S (fun S=>dF ar r S K))
 | .call d g f a tys::r,S,K=>jg g d S (fun S=>dF ar r S K) (fun S=>AV ar d f a tys S (fun S=>dF ar r S K))
end Go.AM
end
section
namespace Go.AM
abbrev aB:=Nat->Nat->Option Value
structure Loc where
 b:Nat
 ba:Nat
 tot:Nat
 len:Nat
abbrev Mu:=Nat->Option Loc
def aB.le (i j:aB):Prop:=∀b o x,i b o=some x->j b o=some x
def Mu.le (m n:Mu):Prop:=∀id L,m id=some L->n id=some L
theorem aB.le_refl (i:aB):i.le i:=fun _ _ _ h=>h
theorem Mu.le_refl (i:Mu):i.le i:=fun _ _ h=>h
theorem aB.le_trans {i j k:aB} (h:i.le j) (h':j.le k):i.le k:=fun _ _ _ hx=>h' _ _ _ (h _ _ _ hx)
theorem Mu.le_trans {i j k:Mu} (h:i.le j) (h':j.le k):i.le k:=fun _ _ hx=>h' _ _ (h _ _ hx)
def Reads (ι:aB) (b o:Nat) (vs:List Value):Prop:=∀j v,vs[j]?=some v->ι b (o+j)=some v
def bS {α : Type} (D : α → List Value → Prop) : List α → List Value → Prop
 |[],vs=>vs=[]
 |x::xs,vs=>∃us ws,vs=us++ws/\D x us/\bS D xs ws
def iJ : Bool → List Value → Option Value
 |true,xs=>some (.agg xs.toArray)
 |false,[x]=>some x
 |false,_=>none
def ak (ι : aB) : (t : Ty) → t.den → List Value → Prop
 | .unit,_,vs=>vs=[]
 | .bool,b,vs=>vs=[.bool b]
 | .str,s,vs=>vs=[.string s]
 | .int k,n,vs=>vs=[.int k n]
 | .list t,xs,vs=>∃a cap,vs=[.slice a xs.length cap]/\xs.length<=cap /\
   (xs=[]\/∃b o us,a=some ⟨b,o,none⟩/\Reads ι b o us/\bS (ak ι t) xs us)
 | .prod a b,x,vs=>∃us ws,vs=us++ws/\ak ι a x.1 us/\ak ι b x.2 ws
 | .bU d g t,x,vs=>∃xs v,ak ι t x xs/\iJ g xs=some v/\vs=[.iface d v]
def gG (ι:aB) (g:Bool) (t:Ty) (x:t.den) (v:Value):Prop:=∃xs,ak ι t x xs/\iJ g xs=some v
theorem Reads.mono {ι ι':aB} (h:ι.le ι') {b o:Nat} {vs:List Value} (hr:Reads ι b o vs):Reads ι' b o vs :=
 fun j v hj=>h _ _ _ (hr j v hj)
theorem bS.mono {α : Type} {D E : α → List Value → Prop} (h : ∀ x us, D x us → E x us) : ∀ {xs : List α} {vs : List Value}, bS D xs vs → bS E xs vs
 |[],_,hc=>hc
 |_::_,_,⟨us,ws,e,h1,h2⟩=>⟨us,ws,e,h _ _ h1,bS.mono h h2⟩
theorem ak.mono {ι ι' : aB} (h : ι.le ι') : ∀ {t : Ty} {x : t.den} {vs : List Value}, ak ι t x vs → ak ι' t x vs
 | .unit,_,_,hc=>hc
 | .bool,_,_,hc=>hc
 | .str,_,_,hc=>hc
 | .int _,_,_,hc=>hc
 | .list t,xs,vs,⟨a,cap,e,hl,hx⟩=>⟨a,cap,e,hl,hx.imp id fun ⟨b,o,us,ha,hr,hc⟩ =>
   ⟨b,o,us,ha,hr.mono h,bS.mono (fun x us hd=>ak.mono (t:=t) h hd) hc⟩⟩
 | .prod _ _,_,_,⟨us,ws,e,h1,h2⟩=>⟨us,ws,e,ak.mono h h1,ak.mono h h2⟩
 | .bU _ _ _,_,_,⟨xs,v,h1,h2,h3⟩=>⟨xs,v,ak.mono h h1,h2,h3⟩
theorem ak.length {ι : aB} : ∀ {t : Ty} {x : t.den} {vs : List Value}, ak ι t x vs → vs.length = t.sz
 | .unit,_,_,hc=>by simp [ak] at hc;subst hc;rfl
 | .bool,_,_,hc=>by simp [ak] at hc;subst hc;rfl
 | .str,_,_,hc=>by simp [ak] at hc;subst hc;rfl
 | .int _,_,_,hc=>by simp [ak] at hc;subst hc;rfl
 | .list _,_,_,⟨_,_,e,_,_⟩=>by subst e;rfl
 | .prod _ _,_,_,⟨us,ws,e,h1,h2⟩=>by subst e;simp [Ty.sz,ak.length h1,ak.length h2]
 | .bU _ _ _,_,_,⟨xs,v,h1,h2,h3⟩=>by subst h3;rfl
theorem ak.one {ι : aB} : ∀ {t : Ty} {x : t.den} {vs : List Value}, ak ι t x vs → ∀ v ∈ vs, v.oneCell' = true
 | .unit,_,_,hc=>by simp [ak] at hc;subst hc;simp
 | .bool,_,_,hc=>by simp [ak] at hc;subst hc;simp [Value.oneCell']
 | .str,_,_,hc=>by simp [ak] at hc;subst hc;simp [Value.oneCell']
 | .int _,_,_,hc=>by simp [ak] at hc;subst hc;simp [Value.oneCell']
 | .list _,_,_,⟨_,_,e,_,_⟩=>by subst e;simp [Value.oneCell']
 | .prod _ _,_,_,⟨us,ws,e,h1,h2⟩=>by
  subst e;intro v hv;rcases List.mem_append.1 hv with h|h
  ·exact ak.one h1 v h
  ·exact ak.one h2 v h
 | .bU _ _ _,_,_,⟨xs,v,h1,h2,h3⟩=>by subst h3;simp [Value.oneCell']
theorem gG.mono {ι ι':aB} (h:ι.le ι') {g:Bool} {t:Ty} {x:t.den} {v:Value} (hv:gG ι g t x v):gG ι' g t x v:=by
 obtain ⟨xs,h1,h2⟩:=hv
 exact ⟨xs,h1.mono h,h2⟩
def gB (ι : aB) (kt : Ty) (kg : Bool) (vt : Ty) (vg : Bool) : List (kt.den × vt.den) → List MapEntry → Prop
 |[],ms=>ms=[]
 |e::es,ms=>∃m r,ms=m::r/\gG ι kg kt e.1 m.key/\gG ι vg vt e.2 m.val/\gB ι kt kg vt vg es r
theorem gB.mono {ι ι' : aB} (h : ι.le ι') {kt vt : Ty} {kg vg : Bool} : ∀ {es : List (kt.den × vt.den)} {ms : List MapEntry}, gB ι kt kg vt vg es ms → gB ι' kt kg vt vg es ms
 |[],_,he=>he
 |_::_,_,⟨m,r,e,h1,h2,h3⟩=>⟨m,r,e,h1.mono h,h2.mono h,gB.mono h h3⟩
theorem gB.length {ι : aB} {kt vt : Ty} {kg vg : Bool} : ∀ {es : List (kt.den × vt.den)} {ms : List MapEntry}, gB ι kt kg vt vg es ms → ms.length = es.length
 |[],_,he=>by simp [gB] at he;subst he;rfl
 |_::_,_,⟨m,r,e,h1,h2,h3⟩=>by subst e;simp [gB.length h3]
section cat
variable {α:Type} {D:α->List Value->Prop} {n:Nat}
theorem bS.length (hD : ∀ x us, D x us → us.length = n) : ∀ {xs : List α} {vs : List Value}, bS D xs vs → vs.length = xs.length * n
 |[],_,hc=>by simp [bS] at hc;subst hc;simp
 |x::xs,_,⟨us,ws,e,h1,h2⟩=>by
  subst e;simp [hD _ _ h1,bS.length hD h2,Nat.add_mul];omega
theorem bS.one (hD : ∀ x us, D x us → ∀ v ∈ us, Value.oneCell' v = true) : ∀ {xs : List α} {vs : List Value}, bS D xs vs → ∀ v ∈ vs, Value.oneCell' v = true
 |[],_,hc=>by simp [bS] at hc;subst hc;simp
 |x::xs,_,⟨us,ws,e,h1,h2⟩=>by
  subst e;intro v hv;rcases List.mem_append.1 hv with h|h
  ·exact hD _ _ h1 v h
  ·exact bS.one hD h2 v h
theorem bS.append : ∀ {xs ys : List α} {vs ws : List Value}, bS D xs vs → bS D ys ws → bS D (xs ++ ys) (vs ++ ws)
 |[],_,_,_,hc,h=>by simp [bS] at hc;subst hc;simpa using h
 |x::xs,_,_,_,⟨us,ws,e,h1,h2⟩,h=>by subst e;exact ⟨us,_,List.append_assoc ..,h1,h2.append h⟩
theorem bS.drop (hD : ∀ x us, D x us → us.length = n) : ∀ (k : Nat) {xs : List α} {vs : List Value}, bS D xs vs → bS D (xs.drop k) (vs.drop (k * n))
 |0,xs,vs,h=>by simpa using h
 |k+1,[],vs,h=>by simp [bS] at h;subst h;simp [bS]
 |k+1,x::xs,vs,⟨us,ws,e,h1,h2⟩=>by
  subst e
  have hl:=hD _ _ h1
  have:(us++ws).drop ((k+1) * n)=ws.drop (k * n):=by
   rw [List.drop_append,List.drop_eq_nil_of_le (by rw [hl,Nat.add_mul];omega),hl]
   simp [Nat.add_mul]
  rw [this]
  exact bS.drop hD k h2
theorem bS.take (hD : ∀ x us, D x us → us.length = n) : ∀ (k : Nat) {xs : List α} {vs : List Value}, bS D xs vs → bS D (xs.take k) (vs.take (k * n))
 |0,xs,vs,h=>by simp [bS]
 |k+1,[],vs,h=>by simp [bS] at h;subst h;simp [bS]
 |k+1,x::xs,vs,⟨us,ws,e,h1,h2⟩=>by
  subst e
  have hl:=hD _ _ h1
  refine ⟨us,ws.take (k * n),?_,h1,bS.take hD k h2⟩
  rw [List.take_append,List.take_of_length_le (by rw [hl,Nat.add_mul];omega),hl]
  simp [Nat.add_mul]
theorem bS.at (hD:∀x us,D x us->us.length=n) {xs:List α} {vs:List Value} (h:bS D xs vs) {i:Nat} {x:α} (hx:xs[i]?=some x) :
  D x ((vs.drop (i * n)).take n):=by
 have h1:=h.drop hD i
 obtain ⟨hi,rfl⟩:=List.getElem?_eq_some_iff.1 hx
 rw [List.drop_eq_getElem_cons hi] at h1
 obtain ⟨us,ws,e,hd,_⟩:=h1
 rw [e,List.take_append,List.take_of_length_le (by rw [hD _ _ hd];exact Nat.le_refl _),hD _ _ hd]
 simpa using hd
theorem bS.set (hD:∀x us,D x us->us.length=n) {xs:List α} {vs:List Value} (h:bS D xs vs) {i:Nat} (hi:i<xs.length) {y:α} {us:List Value} (hy:D y us) :
  bS D (xs.set i y) (vs.take (i * n)++us++vs.drop ((i+1) * n)):=by
 have h1:=h.take hD i
 have h2:=h.drop hD (i+1)
 rw [List.set_eq_take_append_cons_drop,if_pos hi,List.append_assoc]
 exact h1.append ⟨us,_,rfl,hy,h2⟩
theorem bS.rep {y : α} {us : List Value} (hy : D y us) : ∀ k : Nat, bS D (List.replicate k y) (List.flatten (List.replicate k us))
 |0=>rfl
 |k+1=>⟨us,_,by simp [List.replicate_succ],hy,bS.rep hy k⟩
end cat
inductive Rel (ι : aB) (μ : Mu) : V → Value → Prop
 |any (x):Rel ι μ .any x
 |tf (b):Rel ι μ (.tf b) (.bool b)
 |bool (b):Rel ι μ (.bool b) (.bool b)
 |int (k n):Rel ι μ (.int k n) (.int k n)
 |str (s):Rel ι μ (.str s) (.string s)
 |eJ:Rel ι μ .eJ (.pointer none)
 |cu:Rel ι μ .cu .nilFunc
 |cK:Rel ι μ .cK .nilIface
 |eG (t xs x) (h:ak ι (.list t) xs [x]):Rel ι μ (.eG t xs) x
 |kO (t) (xs:List t.den) (a) (h:xs=[]\/∃b o us,a=some ⟨b,o,none⟩/\Reads ι b o us/\bS (ak ι t) xs us):Rel ι μ (.kO t xs) (.slice a xs.length xs.length)
 |bA:Rel ι μ .bA (.slice none 0 0)
 |sl (id t lo n cap L) (h:μ id=some L) (h1:n<=cap) (h2:L.ba+(lo+cap) * t.sz<=L.tot) (h3:lo+n<=L.len) :
   Rel ι μ (.sl id t lo n) (.slice (some ⟨L.b,L.ba+lo * t.sz,none⟩) n cap)
 |cg (id t lo a):Rel ι μ (.sl id t lo 0) (.slice a 0 0)
 |ptr (id off L) (h:μ id=some L):Rel ι μ (.ptr id off) (.pointer (some ⟨L.b,L.ba+off,none⟩))
 |av (cs b o) (g:Nat->Value) (h1:∀i,i<cs.length->ι b (o+i)=some (g i)) (h2:∀i v,cs[i]?=some v->Rel ι μ v (g i)) (h3:∀i,(g i).oneCell'=true) :
   Rel ι μ (.av cs) (.pointer (some ⟨b,o,none⟩))
 |ep (id t i p L) (h:μ id=some L):Rel ι μ (.ep id t i p) (.pointer (some ⟨L.b,L.ba+i * t.sz+t.b7 p,none⟩))
 |ip (t x b o us) (h1:Reads ι b o us) (h2:ak ι t x us):Rel ι μ (.ip t x) (.pointer (some ⟨b,o,none⟩))
 | fn (f fs cs) (xs ys : Array Value) (h1 : fs.length = xs.size) (h2 : ∀ (i : Nat) v x, fs[i]? = some v → xs[i]? = some x → Rel ι μ v x)
   (h3:cs.length=ys.size) (h4:∀(i:Nat) v x,cs[i]?=some v->ys[i]?=some x->Rel ι μ v x):Rel ι μ (.fn f fs cs) (.func (.func f) xs ys)
 |yl (id L) (h:μ id=some L):Rel ι μ (.yl id) (.func (.yield L.b) #[] #[])
 |agg (cs) (xs:Array Value) (h1:cs.length=xs.size) (h2:∀(i:Nat) v x,cs[i]?=some v->xs[i]?=some x->Rel ι μ v x) (h3:∀x∈xs.toList,x.oneCell'=true):Rel ι μ (.agg cs) (.agg xs)
 |cG (cs) (xs:Array Value) (h1:cs.length=xs.size) (h2:∀(i:Nat) v x,cs[i]?=some v->xs[i]?=some x->Rel ι μ v x):Rel ι μ (.cG cs) (.tuple xs)
 |bU (t v x) (h:Rel ι μ v x):Rel ι μ (.bU t v) (.iface t x)
 |cb (c b) (h:b=true->c=true):Rel ι μ (.cb c) (.bool b)
 |mp (id L) (h:μ id=some L):Rel ι μ (.mp id) (.map (some L.b))
 |dZ:Rel ι μ .dZ (.map none)
 |pa (id t n L) (h:μ id=some L) (hn:L.len=n):Rel ι μ (.pa id t n) (.pointer (some ⟨L.b,L.ba,none⟩))
 |jP (t xs b o us) (h1:Reads ι b o us) (h2:bS (ak ι t) xs us):Rel ι μ (.jP t xs) (.pointer (some ⟨b,o,none⟩))
 |sp (id o l L) (h:μ id=some L) (hb:∀x∈l,0<=x.2.2/\x.2.2<(x.2.1:Int)):Rel ι μ (.sp id o l) (.pointer (some ⟨L.b,L.ba+(o+ke l),none⟩))
theorem Rel.mono {ι ι':aB} {μ μ':Mu} (hi:ι.le ι') (hm:μ.le μ') {v:V} {x:Value} (h:Rel ι μ v x):Rel ι' μ' v x:=by
 induction h with
 |any x=>exact .any x
 |tf b=>exact .tf b
 |bool b=>exact .bool b
 |int k n=>exact .int k n
 |str s=>exact .str s
 |eJ=>exact .eJ
 |cu=>exact .cu
 |cK=>exact .cK
 |eG t xs x h=>exact .eG t xs x (ak.mono (t:=.list t) hi h)
 |kO t xs a h=>exact .kO t xs a (h.imp id fun ⟨b,o,us,ha,hr,hc⟩=>⟨b,o,us,ha,hr.mono hi,bS.mono (fun _ _=>ak.mono hi) hc⟩)
 |bA=>exact .bA
 |sl id t lo n cap L h h1 h2 h3=>exact .sl id t lo n cap L (hm _ _ h) h1 h2 h3
 |cg id t lo a=>exact .cg id t lo a
 |ptr id off L h=>exact .ptr id off L (hm _ _ h)
 |av cs b o g h1 h2 h3 ih=>exact .av cs b o g (fun i h=>hi _ _ _ (h1 i h)) ih h3
 |ep id t i p L h=>exact .ep id t i p L (hm _ _ h)
 |ip t x b o us h1 h2=>exact .ip t x b o us (h1.mono hi) (ak.mono hi h2)
 |fn f fs cs xs ys h1 h2 h3 h4 ih1 ih2=>exact .fn f fs cs xs ys h1 ih1 h3 ih2
 |yl id L h=>exact .yl id L (hm _ _ h)
 |agg cs xs h1 h2 h3 ih=>exact .agg cs xs h1 ih h3
 |cG cs xs h1 h2 ih=>exact .cG cs xs h1 ih
 |bU t v x h ih=>exact .bU t v x ih
 |cb c b h=>exact .cb c b h
 |mp id L h=>exact .mp id L (hm _ _ h)
 |dZ=>exact .dZ
 |pa id t n L h hn=>exact .pa id t n L (hm _ _ h) hn
 |jP t xs b o us h1 h2=>exact .jP t xs b o us (h1.mono hi) (bS.mono (fun _ _=>ak.mono hi) h2)
 |sp id o l L h hb=>exact .sp id o l L (hm _ _ h) hb
def aR (ι:aB) (μ:Mu) (cs:List V) (xs:List Value):Prop :=
 cs.length=xs.length/\∀(i:Nat) v x,cs[i]?=some v->xs[i]?=some x->Rel ι μ v x
section rell
variable {ι ι':aB} {μ μ':Mu}
theorem aR.nil:aR ι μ [] []:=⟨rfl,fun i v x h=>by simp at h⟩
theorem aR.cons {v:V} {x:Value} {cs:List V} {xs:List Value} (h:Rel ι μ v x) (hl:aR ι μ cs xs):aR ι μ (v::cs) (x::xs) :=
 ⟨by simp [hl.1],fun i w y hw hy=>by
  cases i with
  |zero=>simp at hw hy;subst hw;subst hy;exact h
  |succ i=>exact hl.2 i w y (by simpa using hw) (by simpa using hy)⟩
theorem aR.cA {v:V} {cs:List V} {xs:List Value} (h:aR ι μ (v::cs) xs):∃x r,xs=x::r/\Rel ι μ v x/\aR ι μ cs r:=by
 cases xs with
 |nil=>exact absurd h.1 (by simp)
 |cons x r=>exact ⟨x,r,rfl,h.2 0 v x rfl rfl,by have:=h.1;simpa using this,fun i w y hw hy=>h.2 (i+1) w y (by simpa using hw) (by simpa using hy)⟩
theorem aR.of_nil {xs:List Value} (h:aR ι μ [] xs):xs=[]:=by have:=h.1;cases xs<;>simp_all
theorem aR.mono (hi:ι.le ι') (hm:μ.le μ') {cs:List V} {xs:List Value} (h:aR ι μ cs xs):aR ι' μ' cs xs :=
 ⟨h.1,fun i v x hv hx=>(h.2 i v x hv hx).mono hi hm⟩
theorem aR.append {cs ds:List V} {xs ys:List Value} (h:aR ι μ cs xs) (h':aR ι μ ds ys):aR ι μ (cs++ds) (xs++ys):=by
 induction cs generalizing xs with
 |nil=>rw [h.of_nil];simpa using h'
 |cons c cs ih=>obtain ⟨x,r,rfl,h1,h2⟩:=h.cA;exact .cons h1 (ih h2)
theorem aR.drop {cs:List V} {xs:List Value} (h:aR ι μ cs xs) (k:Nat):aR ι μ (cs.drop k) (xs.drop k) :=
 ⟨by simp [h.1],fun i v x hv hx=>h.2 (k+i) v x (by simpa using hv) (by simpa using hx)⟩
theorem aR.take {cs:List V} {xs:List Value} (h:aR ι μ cs xs) (k:Nat):aR ι μ (cs.take k) (xs.take k) :=
 ⟨by simp [h.1],fun i v x hv hx=>by
  rw [List.getElem?_take] at hv hx
  split at hv
  ·rename_i hk;rw [if_pos hk] at hx;exact h.2 i v x hv hx
  ·simp at hv⟩
theorem aR.at {cs:List V} {xs:List Value} (h:aR ι μ cs xs) {i:Nat} {v:V} (hv:cs[i]?=some v):∃x,xs[i]?=some x/\Rel ι μ v x:=by
 have hi:=(List.getElem?_eq_some_iff.1 hv).1
 exact ⟨xs[i]'(by rw [<-h.1];exact hi),by simp,h.2 i v _ hv (by simp)⟩
theorem aR.rz {cs vs:List V} {off k:Nat} {xs:List Value} (h:aR ι μ cs xs) (hc:cut off k cs=some vs):aR ι μ vs ((xs.drop off).take k)/\vs.length=k/\off+k<=xs.length:=by
 unfold cut at hc
 split at hc
 ·rename_i hk
  cases hc
  exact ⟨(h.drop off).take k,by simp;omega,by rw [<-h.1];exact hk⟩
 ·cases hc
end rell
theorem Rel.cells {ι:aB} {μ:Mu} {v:V} {x:Value} (h:Rel ι μ v x) {cs:List V} (hv:v.cells?=some cs):aR ι μ cs x.cells.toList/\∀u∈x.cells.toList,u.oneCell'=true:=by
 cases h
 case any=>cases hv
 case cG=>cases hv
 case cb=>cases hv
 case agg cs xs h1 h2 h3 =>
  cases hv
  exact ⟨⟨by simpa [Value.cells] using h1,fun i v x hv hx=>h2 i v x hv (by simpa [Value.cells] using hx)⟩,h3⟩
 case eG t xs h =>
  obtain ⟨a,cap,e,hl,hx⟩:=h
  cases e
  cases hv
  exact ⟨.cons (.eG t xs _ ⟨a,cap,rfl,hl,hx⟩) .nil,by simp [Value.cells,Value.oneCell']⟩
 case av cs b o g h1 h2 h3=>cases hv;exact ⟨.cons (.av cs b o g h1 h2 h3) .nil,by simp [Value.cells,Value.oneCell']⟩
 case fn f fs cs xs ys h1 h2 h3 h4=>cases hv;exact ⟨.cons (.fn f fs cs xs ys h1 h2 h3 h4) .nil,by simp [Value.cells,Value.oneCell']⟩
 all_goals
  cases hv
  refine ⟨.cons ?_ .nil,by simp [Value.cells,Value.oneCell']⟩
  first
   |(constructor;done)
   |(constructor<;>assumption)
theorem zw {ι:aB} {μ:Mu} {g:Bool} {cs:List V} {xs:List Value} {v:Value} (h:iJ g xs=some v) (hr:aR ι μ cs xs) (h1:∀u∈xs,u.oneCell'=true):Rel ι μ (dL.jl g cs) v:=by
 cases g with
 |true =>
  cases h
  exact .agg _ _ (by simpa using hr.1) (fun i v x hv hx=>hr.2 i v x hv (by simpa using hx)) (by simpa using h1)
 |false =>
  match xs,h with
  |[c],h =>
   cases h
   match cs,hr with
   |[v'],hr=>exact hr.2 0 v' _ rfl rfl
   |[],hr=>exact absurd hr.1 (by simp)
   |_::_::_,hr=>exact absurd hr.1 (by simp)
theorem fE {ι : aB} {μ : Mu} : ∀ {t : Ty} {x : t.den} {vs : List Value}, ak ι t x vs → aR ι μ (dL t x) vs
 | .unit,_,_,h=>by simp [ak] at h;subst h;exact .nil
 | .bool,_,_,h=>by simp [ak] at h;subst h;exact .cons (.bool _) .nil
 | .str,_,_,h=>by simp [ak] at h;subst h;exact .cons (.str _) .nil
 | .int _,_,_,h=>by simp [ak] at h;subst h;exact .cons (.int _ _) .nil
 | .list t,xs,_,h=>by
  obtain ⟨a,cap,e,hl,hx⟩:=h
  subst e
  exact .cons (.eG t xs _ ⟨a,cap,rfl,hl,hx⟩) .nil
 | .prod _ _,_,_,⟨us,ws,e,h1,h2⟩=>by subst e;exact (fE h1).append (fE h2)
 | .bU d g t,x,_,⟨xs,v,h1,h2,h3⟩=>by
  subst h3
  exact .cons (.bU d _ v (zw h2 (fE h1) (ak.one h1))) .nil
def iM (ι:aB) (μ:Mu) (id:Nat) (t:Ty) (xs:List t.den):Prop :=
 (xs=[]/\μ id=none)\/∃L vs,μ id=some L/\Reads ι L.b L.ba vs/\bS (ak ι t) xs vs/\xs.length=L.len
def qg:List Int:=[0,1,56,2,57,49,28,3,61,58,42,50,38,29,17,4,62,47,59,36,45,43,51,22,53,39,33,30,24,18,12,5,63,55,48,27,60,41,37,16,46,35,44,21,52,32,23,11,54,26,40,15,34,20,31,10,25,14,19,9,13,8,7,6]
def jh (P:Program) (g:Nat):Option (List Int):=match P.globals[g]? with
 |some gl=>if gl.name == "math/bits.deBruijn64tab" then some qg else none
 |none=>none
def iy (P:Program) (ι:aB):Prop:=∀g c8,jh P g=some c8->Reads ι g 0 (c8.map fun z=>Value.int .u8 z)
theorem iy.mono {P:Program} {ι ι':aB} (h:iy P ι) (hi:ι.le ι'):iy P ι':=fun g c8 hg=>(h g c8 hg).mono hi
theorem iy.rel {P:Program} {ι:aB} (h:iy P ι) (μ:Mu) {g:Nat} {c8:List Int} (hg:jh P g=some c8):Rel ι μ (.jP (.int .u8) c8) (.pointer (some ⟨g,0,none⟩)):=by
 refine .jP (.int .u8) c8 g 0 (c8.map fun z=>Value.int .u8 z) (h g c8 hg) ?_
 clear hg
 induction c8 with
 |nil=>rfl
 |cons z r ih=>exact ⟨[.int .u8 z],_,rfl,rfl,ih⟩
theorem iy.none {P:Program} (h:(List.range P.globals.size).all (fun g=>(jh P g).isNone)=true) (ι:aB):iy P ι:=fun g c8 hg=>by
 have hs:g<P.globals.size:=by
  unfold jh at hg
  split at hg
  ·rename_i gl h';exact (Array.getElem?_eq_some_iff.1 h').1
  ·cases hg
 have:=List.all_eq_true.1 h g (List.mem_range.2 hs)
 rw [hg] at this;cases this
theorem dn {t t':Ty} {xs:List t.den} {ys:List t'.den} (h:jK t t' xs=some ys):∃e:t=t',ys=e▸xs:=by
 unfold jK at h
 split at h
 ·rename_i e;cases h;exact ⟨e,rfl⟩
 ·cases h
theorem zx {ι:aB} {μ:Mu} {t:Ty} {v:V} {x:Value} (h:Rel ι μ v x):Rel ι μ (Hq t v) x:=by
 unfold Hq
 split
 ·cases h;exact .eG _ _ _ ⟨_,0,rfl,Nat.le_refl _,.inl rfl⟩
 ·cases h;exact .bool _
 ·exact h
theorem uG {ι : aB} {μ : Mu} : ∀ {ts : List Ty} {cs : List V} {xs : List Value}, aR ι μ cs xs → aR ι μ (AU ts cs) xs
 |[],cs,xs,h=>by cases cs<;>exact h
 |t::ts,[],xs,h=>h
 |t::ts,c::cs,xs,h=>by
  obtain ⟨x,r,rfl,h1,h2⟩:=h.cA
  exact .cons (zx h1) (uG h2)
theorem Ks {ι:aB} {μ:Mu} {ty:Option Ty} {v:V} {x:Value} (h:Rel ι μ v x):Rel ι μ (Nw ty v) x:=by
 unfold Nw
 split
 ·exact h
 ·rename_i t
  split
  ·rename_i cs
   cases h with
   |agg _ xs h1 h2 h3 =>
    have:=uG (ts:=vl t) (ι:=ι) (μ:=μ) (cs:=cs) (xs:=xs.toList) ⟨by simpa using h1,fun i v x hv hx=>h2 i v x hv (by simpa using hx)⟩
    exact .agg _ _ (by simpa using this.1) (fun i v x hv hx=>this.2 i v x hv (by simpa using hx)) h3
  ·exact zx h
theorem iN {ι : aB} {μ : Mu} : ∀ {ts : List (Option Ty)} {cs : List V} {xs : List Value}, aR ι μ cs xs → aR ι μ (cw ts cs) xs
 |[],cs,xs,h=>by cases cs<;>exact h
 |t::ts,[],xs,h=>h
 |t::ts,c::cs,xs,h=>by
  obtain ⟨x,r,rfl,h1,h2⟩:=h.cA
  exact .cons (Ks h1) (iN h2)
end Go.AM
end
section
namespace Go.AM
def Nx : Value → Option V
 | .bool b=>some (.tf b)
 | .int k n=>some (.int k n)
 | .string s=>some (.str s)
 | .slice none 0 0=>some .bA
 | .pointer none=>some .eJ
 | .nilFunc=>some .cu
 | .nilIface=>some .cK
 | .map none=>some .dZ
 |_=>none
def yQ : List Value → Option (List V)
 |[]=>some []
 |v::r=>match Nx v,yQ r with
  |some x,some xs=>some (x::xs)
  |_,_=>none
def ofC : Value → Option V
 | .agg cs=>match yQ cs.toList with
  |some vs=>some (.agg vs)
  |none=>none
 |v=>Nx v
def dY : Operand → Option O
 | .tmp t=>some (.t t)
 | .const v=>match ofC v with
  |some x=>some (.c x)
  |none=>none
 | .func f=>some (.c (.fn f [] []))
 | .global _=>none
def sY : List Operand → Option (List O)
 |[]=>some []
 |x::r=>match dY x,sY r with
  |some y,some ys=>some (y::ys)
  |_,_=>none
def X5 : Operand → Operand → Option O
 | .tmp n,.tmp m=>if n=m then some (.t n) else none
 | .const (.int k n),.const (.int k' m)=>if k=k'/\n=m then some (.c (.int k n)) else none
 |_,_=>none
def CO (g : TypeId → Option Ty) : List Field → Option Ty
 |[]=>some .unit
 |[f]=>g f.type
 |f::r=>match g f.type,CO g r with
  |some a,some b=>some (.prod a b)
  |_,_=>none
def WV : Nat → Ty → Ty
 |0,_=>.unit
 |1,t=>t
 |n+2,t=>.prod t (WV (n+1) t)
def acw (P:Program) (ms:Array (String×TypeId)):Option Nat:=(List.range P.types.size).find? fun t=>match P.underlying t with
 |some (.struct _)=>match P.info? t with
  |some i => !ms.isEmpty&&ms.all fun (n,_)=>i.methods.any fun m=>m.name==n&&m.path.isEmpty&&(match m.func with
   |some (_,false)=>true
   |_=>false)
  |none=>false
 |_=>false
def nQ (P : Program) : Nat → TypeId → Option Ty
 |0,_=>none
 |n+1,t=>match P.underlying t with
  |some .bool=>some .bool
  |some (.int k)=>some (.int k)
  |some .string=>some .str
  |some (.slice e)=>(nQ P n e).map .list
  |some (.struct fs)=>match fs.toList with
   |[f]=>(nQ P n f.type).map fun a=>.prod a .unit
   |fs=>CO (nQ P n) fs
  |some (.array m e)=>(nQ P n e).map (WV m)
  |some (.interface ms)=>match acw P ms with
   |some d=>(nQ P n d).map (.bU d true)
   |none=>none
  |_=>none
def dA (P:Program) (t:TypeId):Option Nat:=(P.info? t).map (·.size)
def sZ (P:Program) (t:TypeId):Option Bool:=match P.underlying t with
 |some (.struct _)=>some true
 |some (.array _ _)=>some true
 |some _=>some false
 |none=>none
def zy : Ty → Value → Bool
 | .bool,.bool b => !b
 | .str,.string s=>s.size==0
 | .int k,.int k' n=>decide (k=k')&&n==0
 | .list _,.slice none 0 0=>true
 |_,_=>false
def fR : Ty → List Value → Option (List Value)
 | .unit,vs=>some vs
 | .prod a b,vs=>match fR a vs with
  |some r=>fR b r
  |none=>none
 | .bool,v::r=>if zy .bool v then some r else none
 | .str,v::r=>if zy .str v then some r else none
 | .int k,v::r=>if zy (.int k) v then some r else none
 | .list t,v::r=>if zy (.list t) v then some r else none
 | .bU _ _ _,_::_=>none
 |_,[]=>none
def Hr (t : Ty) : Nat → List Value → Option (List Value)
 |0,vs=>some vs
 |n+1,vs=>match fR t vs with
  |some r=>Hr t n r
  |none=>none
def AW : Ty → Bool
 | .unit=>true
 | .bool=>true
 | .str=>true
 | .int _=>true
 | .prod a b=>AW a&&AW b
 |_=>false
def WW (P:Program) (e:TypeId):Option (Ty×Nat):=match P.underlying e with
 |some (.array m el)=>match nQ P 8 el,dA P el with
  |some ty,some k=>if ty.sz=k/\1<=k/\m<=64/\AW ty=true/\dA P e=some (m * k) then some (ty,m) else none
  |_,_=>none
 |_=>none
def Ny : Value → Bool
 | .agg _=>true
 |_=>false
def Hs (P:Program) (e:TypeId):Option (Ty×Bool):=match nQ P 8 e,sZ P e,P.info? e with
 |some ty,some g,some i=>match i.zero with
  |some z=>match fR ty z.cells.toList with
   |some []=>if Ny z=g then some (ty,g) else none
   |_=>none
  |none=>none
 |_,_,_=>none
def SF (P:Program) (name:String):List (Nat×Nat):=(List.range P.types.size).filterMap fun t=>match P.info? t with
 |some i=>match i.methods.find? (·.name==name) with
  |some m=>if m.path.isEmpty then (match m.func,P.underlying t with
   |some (f,true),some (.pointer _)=>some (t,f)
   |some (_,true),_=>none
   |some (_,false),some (.pointer _)=>none
   |some (f,false),some _=>some (t,f)
   |_,_=>none) else none
  |none=>none
 |none=>none
def WX (n f:Nat):List Bool:=if n=1 then [false] else if f+1=n then List.replicate f true else List.replicate f true++[false]
def vT : BinOp → Option fD
 | .add=>some .add
 | .sub=>some .sub
 | .mul=>some .mul
 | .quo=>some .quo
 | .rem=>some .rem
 | .and=>some .and
 | .or=>some .or
 | .xor=>some .xor
 | .andNot=>some .andNot
 | .shl=>some .shl
 | .shr=>some .shr
 | .eql=>some .eql
 | .neq=>some .neq
 | .lss=>some .lss
 | .leq=>some .leq
 | .gtr=>some .gtr
 | .geq=>some .geq
def lZ:Nat:=1024
def kf (P:Program) (e:TypeId):Option Nat:=match P.info? e with
 |some i=>match i.zero with
  |some z=>if i.bytes<=lZ/\z.cells.size=i.size then some i.size else none
  |none=>none
 |none=>none
def partsOf (place : Nat → Option (Nat × Nat)) : List (Nat × Operand) → Option (List (Nat × Nat × O))
 |[]=>some []
 |(i,x)::r=>match place i,dY x,partsOf place r with
  |some (off,k),some y,some ys=>some ((off,k,y)::ys)
  |_,_,_=>none
def vm : Nat → List (Nat × Operand) → Option (List O)
 |_,[]=>some []
 |n,(i,x)::r=>if i=n then (match dY x,vm (n+1) r with
  |some y,some ys=>some (y::ys)
  |_,_=>none) else none
def AX : Option Operand → Option (Option O)
 |none=>some none
 |some x=>(dY x).map some
def rA (P:Program) (s:TypeId) (f:Nat):Option (Field×Nat):=match P.underlying s with
 |some (.struct fs)=>match fs[f]? with
  |some fd=>some (fd,fs.size)
  |none=>none
 |_=>none
def jL : BinOp → Option Bool
 | .eql=>some false
 | .neq=>some true
 |_=>none
def pP (P : Program) : Nat → List Field → Option (List Kd)
 |_,[]=>some []
 |n,f::r=>if f.name ≠ "_" /\ f.offset=n then (match P.underlying f.type,pP P (n+1) r with
  |some .bool,some ks=>some (.b::ks)
  |some (.int _),some ks=>some (.i::ks)
  |some .string,some ks=>some (.s::ks)
  |_,_=>none) else none
def Nz (P:Program) (t:TypeId):Option (List Kd):=match P.underlying t with
 |some (.struct fs)=>if P.stoodInHeld t=false/\(P.info? t).isSome then (match pP P 0 fs.toList with
  |some ks=>if P.cellsOf t=ks.length then some ks else none
  |none=>none) else none
 |_=>none
def Kt (P:Program) (t:TypeId):Option (List Kd):=match P.underlying t with
 |some (.array m e)=>(match P.underlying e with
  |some (.int _)=>if P.cellsOf e=1/\(P.info? e).isSome/\(P.info? t).isSome/\P.cellsOf t=m then some (List.replicate m .i) else none
  |_=>none)
 |_=>none
def iO (P : Program) : Nat → List Field → Option (List Kd)
 |_,[]=>some []
 |n,f::r=>if f.name ≠ "_" /\ f.offset=n then (match P.underlying f.type with
  |some .bool=>(iO P (n+1) r).map (.b::·)
  |some (.int _)=>(iO P (n+1) r).map (.i::·)
  |some .string=>(iO P (n+1) r).map (.s::·)
  |some (.struct _)=>(match Nz P f.type with
   |some ks=>(iO P (n+ks.length) r).map (ks++·)
   |none=>none)
  |some (.array _ _)=>(match Kt P f.type with
   |some ks=>(iO P (n+ks.length) r).map (ks++·)
   |none=>none)
  |_=>none) else none
def structEq (P:Program) (t:TypeId):Option (List Kd):=match P.underlying t with
 |some (.struct fs)=>if P.eqGuardType P.depth t=false/\P.stoodInHeld t=false then iO P 0 fs.toList else none
 |some (.array _ _)=>if P.eqGuardType P.depth t=false then Kt P t else none
 |_=>none
def l5 : Ty → Option (List Kd)
 | .unit=>some []
 | .bool=>some [.b]
 | .str=>some [.s]
 | .int _=>some [.i]
 | .prod a b=>match l5 a,l5 b with
  |some x,some y=>some (x++y)
  |_,_=>none
 |_=>none
def vU (P:Program) (k:TypeId):Option (Ty×Bool):=match P.underlying k with
 |some (.int i)=>some (.int i,false)
 |some .string=>some (.str,false)
 |some (.struct fs)=>match nQ P 8 k,pP P 0 fs.toList with
  |some ty,some ks=>if l5 ty=some ks/\P.stoodInHeld k=false then some (ty,true) else none
  |_,_=>none
 |some (.array _ _)=>match nQ P 8 k,Kt P k with
  |some ty,some ks=>if l5 ty=some ks then some (ty,true) else none
  |_,_=>none
 |_=>none
def pQ (P:Program) (t:TypeId):Option (Ty×Bool×Ty×Bool):=match P.underlying t with
 |some (.map k e)=>match vU P k,Hs P e with
  |some (kt,kg),some (vt,vg)=>some (kt,kg,vt,vg)
  |_,_=>none
 |_=>none
def trB (P:Program) (b:Builtin) (tys:List TypeId) (args:List Operand):Option I :=
 match b,tys,args with
 | .len,[t],[x]=>match P.underlying t with
  |some .string=>(dY x).map .lens
  |some (.slice _)=>(dY x).map .len
  |some (.array n _)=>some (.yP n)
  |some (.map _ _)=>(dY x).map fun x=>.ex .Sy [x]
  |some (.pointer a)=>match P.underlying a with
   |some (.array n _)=>some (.yP n)
   |_=>none
  |_=>none
 | .append,[t,u],[x,y]=>match P.underlying t,P.underlying u with
  |some (.slice e),some (.slice _)=>match kf P e,dY x,dY y with
   |some k,some x,some y=>some (.append k x y)
   |_,_,_=>none
  |some (.slice e),some (.int _)=>match nQ P 8 e,kf P e,P.info? e with
   |some ty,some k,some i=>match i.zero with
    |some z=>match fR ty z.cells.toList with
     |some []=>match dY x,dY y with
      |some x,some y=>if ty.sz=k/\z.cells.size=k then some (.ex (.X3 ty) [x,y]) else none
      |_,_=>none
     |_=>none
    |none=>none
   |_,_,_=>none
  |_,_=>none
 | .cap,[t],[x]=>match P.underlying t with
  |some (.slice _)=>(dY x).map fun x=>.ex .capn [x]
  |_=>none
 | .clear,[t],[x]=>match P.underlying t with
  |some (.slice e)=>match nQ P 8 e,kf P e,P.info? e with
   |some ty,some k,some i=>match i.zero with
    |some z=>match fR ty z.cells.toList with
     |some []=>if ty.sz=k/\z.cells.size=k then (dY x).map fun x=>.ex (.clear ty) [x] else none
     |_=>none
    |none=>none
   |_,_,_=>none
  |_=>none
 | .max,_,x::r=>match dY x,sY r with
  |some x,some ys=>some (.lF true x ys)
  |_,_=>none
 | .min,_,x::r=>match dY x,sY r with
  |some x,some ys=>some (.lF false x ys)
  |_,_=>none
 |_,_,_=>none
def Hu (P:Program) (op:BinOp) (t:TypeId) (x y:Operand):Option I:=match y with
 | .const (.slice none 0 0)=>match P.underlying t,dY x,jL op with
  |some (.slice _),some x,some n=>some (.ex (.Np n) [x])
  |_,_,_=>none
 | .const (.map none)=>match P.underlying t,dY x,jL op with
  |some (.map _ _),some x,some n=>some (.ex (.E3 n) [x])
  |_,_,_=>none
 | .const (.pointer none)=>match P.underlying t,dY x,jL op with
  |some (.pointer _),some x,some n=>some (.ex (.E4 n) [x])
  |_,_,_=>none
 |y=>match dY x,dY y with
  |some x,some y=>match structEq P t with
   |some ks=>match jL op with
    |some n=>some (.eqs n ks x y)
    |none=>none
   |none=>match P.underlying t with
    |some .bool=>(jL op).map (.SB · x y)
    |some (.int _)=>(vT op).map (.bin · x y)
    |some .string=>(vT op).map (.bin · x y)
    |_=>none
  |_,_=>none
def AY (P:Program) (t:TypeId) (x i:Operand):Option I:=match x with
 | .global g=>match P.underlying t,jh P g,dY i with
  |some (.array n e),some c8,some i=>match P.underlying e,dA P e with
   |some (.int .u8),some 1=>if c8.length=n then some (.yO n 1 (.c (.jP (.int .u8) c8)) i) else none
   |_,_=>none
  |_,_,_=>none
 |_=>none
def M4 (P:Program) (o:Op):Option I :=
 match o with
 | .move x=>(dY x).map .mv
 | .assign x=>(dY x).map .mv
 | .pick c a b=>match dY c,dY a,dY b with
  |some c,some a,some b=>some (.pick c a b)
  |_,_,_=>none
 | .alloc e=>match P.info? e with
  |some i=>match i.zero with
   |some z=>match WW P e with
    |some (ty,m)=>match Hr ty m z.cells.toList with
     |some []=>some (.ex (.gy ty m) [])
     |_=>none
    |none=>(yQ z.cells.toList).map .alloc
   |none=>none
  |none=>none
 | .box e x=>match WW P e with
  |some (ty,m)=>(dY x).map fun x=>.ex (.SA ty m) [x]
  |none=>(dY x).map .box
 | .build t parts=>match P.info? t,P.underlying t with
  |some it,some (.struct fields)=>match it.zero,fields.toList.mapM (fun f=>(P.info? f.type).map fun i=>(f.offset,i.size)) with
   |some z,some places=>match yQ z.cells.toList,partsOf (places.toArray[·]?) parts.toList with
    |some z,some ps=>some (.build z ps)
    |_,_=>none
   |_,_=>none
  |some it,some (.array _ e)=>match it.zero,P.info? e with
   |some z,some ie=>match yQ z.cells.toList,partsOf (fun i=>some (i * ie.size,ie.size)) parts.toList with
    |some z,some ps=>some (.build z ps)
    |_,_=>none
   |_,_=>none
  |_,_=>none
 | .buildSlice t n parts=>match P.underlying t with
  |some (.slice e)=>match nQ P 8 e,kf P e,vm 0 parts.toList with
   |some ty,some k,some xs=>if ty.sz=k/\xs.length=n/\n * k<=2 ^ 20 then some (.bI ty xs) else none
   |_,_,_=>none
  |_=>none
 | .load t x=>match dA P t,sZ P t,dY x with
  |some k,some g,some x=>some (.load g k x)
  |_,_,_=>none
 | .store t a x=>match dA P t,dY a,dY x with
  |some k,some a,some x=>some (.store k a x)
  |_,_,_=>none
 | .binOp op t x y _=>Hu P op t x y
 | .nilCheck x=>(dY x).map fun x=>.ex .CJ [x]
 | .unOp .neg _ x=>(dY x).map .neg
 | .unOp .not _ x=>(dY x).map .not
 | .convert s d x=>match P.underlying s,P.underlying d with
  |some (.int _),some (.int k)=>(dY x).map (.conv k)
  |some .string,some (.slice e)=>match P.underlying e with
   |some (.int .u8)=>(dY x).map fun x=>.ex .bytes [x]
   |_=>none
  |some (.slice e),some .string=>match P.underlying e with
   |some (.int .u8)=>(dY x).map fun x=>.ex .text [x]
   |_=>none
  |_,_=>none
 | .makeFunc (.func f) a b=>match sY a.toList,sY b.toList with
  |some a,some b=>some (.AL f a b)
  |_,_=>none
 | .makeSlice t n m=>match X5 n m with
  |some xn=>(match P.underlying t with
  |some (.slice e)=>match nQ P 8 e,kf P e,P.info? e with
   |some ty,some k,some i=>match i.zero with
    |some z=>match fR ty z.cells.toList with
     |some []=>if ty.sz=k/\z.cells.size=k then some (.je ty xn) else none
     |_=>none
    |none=>none
   |_,_,_=>none
  |_=>none)
  |none=>none
 | .slice t x lo hi mx=>match P.underlying t with
  |some (.slice e)=>match dA P e,dY x,AX lo,AX hi,AX mx with
   |some k,some x,some lo,some hi,some mx=>some (.slice k x lo hi mx)
   |_,_,_,_,_=>none
  |some (.array n e)=>match lo,hi,mx,dA P e with
   |none,none,none,some _=>(dY x).map fun x=>.ex (.Sz n) [x]
   |_,_,_,_=>none
  |_=>none
 | .fieldAddr s x f=>match rA P s f with
  |some (fd,n)=>match dA P fd.type,dY x with
   |some (_+1),some x=>some (.qc fd.offset (WX n f) x)
   |_,_=>none
  |none=>none
 | .field s x f=>match rA P s f with
  |some (fd,_)=>match dA P fd.type,sZ P fd.type,dY x with
   |some k,some g,some x=>some (.field g fd.offset k x)
   |_,_,_=>none
  |none=>none
 | .indexAddr t x i=>match P.underlying t,dY x,dY i with
  |some (.slice e),some x,some i=>(dA P e).map fun k=>.idx k x i
  |some (.array n e),some x,some (.c (.int _ (.ofNat m)))=>match dA P e with
   |some (k+1)=>if m<n then some (.qc (m * (k+1)) (WX n m) x) else none
   |_=>none
  |some (.array n e),some x,some i=>(dA P e).map fun k=>.yO n k x i
  |_,_,_=>AY P t x i
 | .index t x i=>match P.underlying t,dY x,dY i with
  |some (.array n e),some x,some i=>match dA P e,sZ P e with
   |some (k+1),some g=>some (.ex (.Nn n (k+1) g) [x,i])
   |_,_=>none
  |some .string,some x,some i=>some (.ex .vS [x,i])
  |_,_,_=>none
 | .makeMap t none=>match pQ P t with
  |some (kt,kg,vt,vg)=>some (.ex (.Nq kt kg vt vg) [])
  |none=>none
 | .lookup t x i ok=>match pQ P t,dY x,dY i with
  |some (kt,kg,vt,vg),some x,some i=>some (.ex (.E5 kt kg vt vg ok) [x,i])
  |_,_,_=>none
 | .mapUpdate t m k v=>match pQ P t,dY m,dY k,dY v with
  |some (kt,kg,vt,vg),some m,some k,some v=>some (.ex (.fM kt kg vt vg) [m,k,v])
  |_,_,_,_=>none
 | .insert t m k v=>match pQ P t,dY m,dY k,dY v with
  |some (kt,kg,vt,vg),some m,some k,some v=>some (.ex (.fM kt kg vt vg) [m,k,v])
  |_,_,_,_=>none
 | .makeInterface t x=>match P.underlying t with
  |some (.interface _)=>none
  |some _=>(dY x).map fun x=>.ex (.mkif t) [x]
  |none=>none
 | .panic _=>some (.ex .vS [])
 | .range _ _=>some (.ex .vS [])
 | .next _ _=>some (.ex .vS [])
 | .entry _=>some (.ex .vS [])
 | .extract x k=>(dY x).map (.ext k)
 | .call { callee:=.builtin b,args,argTypes }=>trB P b argTypes.toList args.toList
 |_=>none
def trG (ops : Array Oper) : Option (Nat × Bool) → Option (Option (Nat × Bool))
 |none=>some none
 |some (j,b)=>match ops[j]? with
  |some o=>match o.dst with
   |some d=>some (some (d,b))
   |none=>none
  |none=>none
def uH (N : Nat) : Option Nat → Bool
 |none=>true
 |some d=>d<N
def jQ (P : Program) : Callee → Option O
 | .value f=>dY f
 | .invoke (.tmp t) name=>some (.m t (SF P name))
 |_=>none
def rawF (P:Program) (f:Nat):Bool:=match P.funcs[f]? with
 |some f=>(Nat.beq f.targs.size 1||(Nat.beq f.params.size 2&&(match f.params[1]? with
   |some t=>(match P.underlying t with
    |some (.int _)=>true
    |some (.func _ rs _)=>Nat.beq rs.size 0
    |_=>false)
   |none=>false)))&&Nat.beq f.resultTypes.size 1&&(match f.params[0]?,f.resultTypes[0]? with
  |some a,some b=>Nat.beq a b
  |_,_=>false)
 |none=>false
def eH (P:Program) (f:O) (tys:Array TypeId):List (Option Ty):=match f with
 | .c (.fn f [] [])=>match rawF P f with
  |true=>hTs (tys.toList.map (nQ P 8))
  |false=>tys.toList.map (nQ P 8)
 |_=>tys.toList.map (nQ P 8)
def rB (P:Program) (N:Nat) (ops:Array Oper) (o:Oper):Option dD :=
 if uH N o.dst then
  match trG ops o.guard with
  |none=>none
  |some g =>
   match o.op with
   | .call { callee:=.value f,args,argTypes }=>match dY f,sY args.toList with
    |some f,some args=>some (.call o.dst g f args (eH P f argTypes))
    |_,_=>none
   | .call { callee:=.invoke r name,args,argTypes }=>match jQ P (.invoke r name),sY args.toList with
    |some f,some args=>some (.call o.dst g f args (eH P f argTypes))
    |_,_=>none
   |op=>match M4 P op with
    |some i=>some (.op o.dst g i)
    |none=>none
 else none
def ew (P : Program) (N : Nat) (ops : Array Oper) : List Oper → Option (List dD)
 |[]=>some []
 |o::r=>match rB P N ops o,ew P N ops r with
  |some i,some is=>some (i::is)
  |_,_=>none
def cn (ops:Array Oper):List (List Nat):=(Region.before ops).toList.map fun m=>(List.range ops.size).filter fun j=>m.testBit j
def I.os : I → List O
 | .mv x=>[x]
 | .pick c a b=>[c,a,b]
 | .alloc _=>[]
 | .box x=>[x]
 | .build _ ps=>ps.map (·.2.2)
 | .bI _ xs=>xs
 | .load _ _ x=>[x]
 | .store _ a x=>[a,x]
 | .bin _ x y=>[x,y]
 | .SB _ x y=>[x,y]
 | .eqs _ _ x y=>[x,y]
 | .neg x=>[x]
 | .not x=>[x]
 | .conv _ x=>[x]
 | .qc _ _ x=>[x]
 | .field _ _ _ x=>[x]
 | .idx _ x i=>[x,i]
 | .yO _ _ x i=>[x,i]
 | .ext _ x=>[x]
 | .len x=>[x]
 | .lens x=>[x]
 | .yP _=>[]
 | .append _ x y=>[x,y]
 | .je _ n=>[n]
 | .AL _ a b=>a++b
 | .slice _ x lo hi mx=>x::(lo.toList++hi.toList++mx.toList)
 | .lF _ x ys=>x::ys
 | .ex _ xs=>xs
def Hv : O → List Nat
 | .t n=>[n]
 | .c _=>[]
 | .m n _=>[n]
def dD.dst : dD → Option Nat
 | .op d _ _=>d
 | .call d _ _ _ _=>d
def dD.SG : dD → Option (Nat × Bool)
 | .op _ g _=>g
 | .call _ g _ _ _=>g
def dD.os : dD → List O
 | .op _ _ i=>i.os
 | .call _ _ f as _=>f::as
def dD.uses (i:dD):List Nat:=i.os.flatMap Hv++(match i.SG with
 |some (s,_)=>[s]
 |none=>[])
def mT (d:Option Nat) (l:List Nat):Bool:=match d with
 |some t => !(l.contains t)
 |none=>true
def iP (a b:dD):Bool:=mT a.dst b.uses&&mT b.dst a.uses&&(match a.dst with
 |some t=>b.dst != some t
 |none=>true)
def jR (cU:List (List Nat)) (is:List dD):Bool :=
 (List.range is.length).all fun j=>(List.range j).all fun i=>((cU.getD j []).contains i)||(match is[i]?,is[j]? with
  |some a,some b=>iP a b
  |_,_=>true)
def gN (ops:Array Oper):Bool:=ops.toList.zipIdx.all fun (o,i)=>o.after.all fun e => !(Region.binds .any e)||decide (e.on<i)
def X6 : dD → Bool
 | .call _ _ _ _ _=>true
 |_=>false
def SH (cU:List (List Nat)) (n c:Nat):Bool:=(List.range n).all fun i=>decide (i<c)||(List.range i).all fun j=>(cU.getD i []).contains j
def CQ : List dD → Nat → Option Nat → Option Nat
 |[],_,r=>r
 |i::l,k,r=>CQ l (k+1) (match X6 i with
  |true=>some k
  |false=>r)
def WY (cU:List (List Nat)) (is:List dD):Option Nat:=match CQ is 0 none with
 |some c=>match SH cU is.length c&&decide (c<=is.length) with
  |true=>some c
  |false=>none
 |none=>none
def eW : dD → Bool
 | .call _ none (.c (.fn _ _ _)) _ (none::_)=>true
 |_=>false
def hpure : dD → Bool
 | .op _ none i => !i.lays
 |_=>false
def itAt (p:dD->Bool) (is:List dD) (k:Nat):Bool:=match is[k]? with
 |some i=>p i
 |none=>false
def cut2 (cU:List (List Nat)) (is:List dD):Option (Nat×Nat):=none
def NA (is:List dD) (c e:Nat):List dD:=is.take c++(is.drop (c+1)).take (e - (c+1))
def NB (is:List dD) (c e:Nat):List dD:=(is.drop c).take 1++is.drop e
structure WZ where
 pre:List dD
 m:O
 it:Nat
 cl:List Nat
 e:Option Nat
 kt:Ty
 kg:Bool
 vt:Ty
 vg:Bool
 pJ:Nat
def NC (P : Program) (N : Nat) : Code → Option (List dD × O × Nat × Ty × Bool × Ty × Bool)
 | .region _ ops false=>match ops.toList.reverse with
  |o::r=>match o.op with
   | .range t x=>match o.dst with
    |some it=>if o.guard=none/\it<N then (match pQ P t,dY x,ew P N ops r.reverse with
     |some (kt,kg,vt,vg),some m,some is=>some (is,m,it,kt,kg,vt,vg)
     |_,_,_=>none) else none
    |none=>none
   |_=>none
  |[]=>none
 |_=>none
def ND (N it : Nat) : Code → Option (Nat × Nat)
 | .region _ ops false=>match ops.toList with
  |[o,o']=>match o.op with
   | .next (.tmp i) false=>match o.dst with
    |some n=>match o'.op with
     | .extract (.tmp n') 0=>match o'.dst with
      |some ok=>if o.guard=none/\o'.guard=none/\i=it/\n'=n/\n<N/\ok<N/\n≠it/\ok≠it then some (n,ok) else none
      |none=>none
     |_=>none
    |none=>none
   |_=>none
  |_=>none
 |_=>none
def ta (N it : Nat) : Code → Option Nat
 | .seq (.region _ ops false) _=>match ops.toList with
  |o::_=>match o.op with
   | .entry (.tmp i)=>match o.dst with
    |some e=>if o.guard=none/\i=it/\e<N/\e≠it then some e else none
    |none=>none
   |_=>none
  |[]=>none
 |_=>none
def vV (P:Program) (N:Nat) (a b:Code):Option WZ:=match b with
 | .block b1 (.loop (.seq x (.seq (.cond (.tmp t) .skip (.exit b2)) (.block _ y))))=>match NC P N a with
  |some (is,m,it,kt,kg,vt,vg)=>match ND N it x with
   |some (n,ok)=>if t=ok/\b1=b2 then some ⟨is,m,it,[n,ok],ta N it y,kt,kg,vt,vg,b1⟩ else none
   |none=>none
  |none=>none
 |_=>none
def Hw (e : Option Nat) : C → Option C
 | .block _ (.loop (.seq _ (.seq _ (.block b x))))=>match e with
  |none=>some (.block b x)
  |some _=>match x with
   | .seq (.cF (_::is)) r=>some (.block b (.seq (.cF is) r))
   |_=>none
 |_=>none
def l6 (P : Program) (N : Nat) : Code → Option C
 | .skip=>some .skip
 | .label _=>some .skip
 | .scope c=>l6 P N c
 | .region _ ops draw=>match ew P N ops ops.toList with
  |some is=>match draw with
   |true=>if jR (cn ops) is=true/\gN ops=true then some (match cut2 (cn ops) is with
    |some (c,e)=>.seq (.draw [] (NA is c e)) (.cF (NB is c e))
    |none=>match WY (cn ops) is with
     |some c=>.seq (.draw (cn ops) (is.take c)) (.cF (is.drop c))
     |none=>.draw (cn ops) is) else none
   |false=>some (.cF is)
  |none=>none
 | .seq a b=>match l6 P N a,l6 P N b with
  |some ca,some cb=>match vV P N a b with
   |none=>some (.seq ca cb)
   |some h=>match Hw h.e cb with
    |some bd=>some (.gk h.pre h.m h.it h.cl h.e h.kt h.kg h.vt h.vg h.pJ bd)
    |none=>none
  |_,_=>none
 | .cond c a b=>match dY c,l6 P N a,l6 P N b with
  |some c,some a,some b=>some (.cond c a b)
  |_,_,_=>none
 | .block id c=>(l6 P N c).map (.block id)
 | .loop c=>(l6 P N c).map .loop
 | .exit id=>some (.exit id)
 | .ret=>some .ret
 | .rangeFunc f ps a b=>match dY f,l6 P N a,l6 P N b with
  |some f,some a,some b=>some (.c9 f ps.toList a b)
  |_,_,_=>none
 |_=>none
inductive RV where
 |t (n:Nat)
 |cell (n:Nat) (agg:Bool) (k:Nat)
structure Fn where
 N:Nat
 np:Nat
 body:C
 res:List RV
 tys:List (Option Ty)
def Ku (P : Program) : List ResultVar → Option (List RV)
 |[]=>some []
 | .tmp t::r=>(Ku P r).map (.t t::·)
 | .cell a t::r=>match dA P t,sZ P t,Ku P r with
  |some k,some g,some rs=>some (.cell a g k::rs)
  |_,_,_=>none
def cN (P:Program) (f:Func):Option Fn:=match f.body with
 |some c=>match l6 P f.ntmps c,Ku P f.results.toList with
  |some b,some rs=>if f.params.size+f.nfree<=f.ntmps then some ⟨f.ntmps,f.params.size+f.nfree,b,rs,f.resultTypes.toList.map (nQ P 8)⟩ else none
  |_,_=>none
 |none=>none
end Go.AM
end
section
namespace Go.AM
def M5 (c:O) (b:Bool) (S:St):St:=match c with
 | .t n=>Sg n b S
 | .c _=>S
 | .m _ _=>S
def cJ : Nat → V → Bool
 |0,_=>false
 |n+1,v=>match v with
  | .sl _ _ _ _=>false
  | .ptr _ _=>false
  | .ep _ _ _ _=>false
  | .yl _=>false
  | .mp _=>false
  | .pa _ _ _=>false
  | .sp _ _ _=>false
  | .av cs=>cs.all (cJ n)
  | .fn _ a b=>a.all (cJ n)&&b.all (cJ n)
  | .agg cs=>cs.all (cJ n)
  | .cG cs=>cs.all (cJ n)
  | .bU _ v=>cJ n v
  |_=>true
def cL (g : V → Option V) : List V → Option (List V)
 |[]=>some []
 |v::r=>match g v with
  |some x=>match cL g r with
   |some xs=>some (x::xs)
   |none=>none
  |none=>none
def fin (ar : Ar) (bl : ai) : Nat → V → Option V
 |0,_=>none
 |n+1,v=>match v with
  | .sl id t lo m=>match aq id bl with
   |some (.arr t' xs _)=>if t=t' then some (.eG t' (ar.sub' xs lo m)) else none
   |_=>none
  | .ptr id off=>match aq id bl with
   |some (.cells cs _)=>match cL (fin ar bl n) cs with
    |some ds=>if off<=ds.length then some (.av (ds.drop off)) else none
    |none=>none
   |_=>none
  | .ep _ _ _ _=>none
  | .yl _=>none
  | .mp _=>none
  | .kO t xs=>some (.kO t xs)
  | .sp _ _ _=>none
  | .pa id t m=>match aq id bl with
   |some (.arr t' xs _)=>if t=t' then some (.jP t' xs) else none
   |_=>none
  | .fn f a b=>match cL (fin ar bl n) a,cL (fin ar bl n) b with
   |some a,some b=>some (.fn f a b)
   |_,_=>none
  | .agg cs=>match cL (fin ar bl n) cs with
   |some cs=>some (.agg cs)
   |none=>none
  | .cG cs=>match cL (fin ar bl n) cs with
   |some cs=>some (.cG cs)
   |none=>none
  | .bU t v=>match fin ar bl n v with
   |some v=>some (.bU t v)
   |none=>none
  | .av cs=>if cs.all (cJ n) then some (.av cs) else none
  |v=>some v
def tc : V → List Nat
 | .sl id _ _ _=>[id]
 | .ptr id _=>[id]
 | .ep id _ _ _=>[id]
 | .mp id=>[id]
 | .pa id _ _=>[id]
 | .sp id _ _=>[id]
 |_=>[]
def qh : V → List Nat
 | .agg cs=>cs.flatMap tc
 |v=>tc v
def mU (i:I) (env:List (Nat×V)):List Nat:=match i with
 | .load _ _ x=>tc (x.ev env)
 | .store _ a x=>tc (a.ev env)++qh (x.ev env)
 | .bI _ xs=>(xs.map (·.ev env)).flatMap qh
 | .append _ x y=>tc (x.ev env)++tc (y.ev env)
 | .ex e xs=>match e with
  | .CJ=>[]
  |_=>(xs.map (·.ev env)).flatMap qh
 |_=>[]
def tg (x : Nat) : List Nat → Bool
 |[]=>false
 |y::r=>match Nat.beq y x with
  |true=>true
  |false=>tg x r
def zz : List Nat → List Nat → Bool
 |[],_=>true
 |x::r,l=>match tg x l with
  |true=>false
  |false=>zz r l
structure DR where
 k:Nat
 rd:List Nat
 wr:List Nat
def AZ (cU:List (List Nat)) (a b:DR):Bool :=
 match tg a.k (cU.getD b.k []) with
 |true=>true
 |false=>match zz a.wr b.rd with
  |false=>false
  |true=>match zz a.wr b.wr with
   |false=>false
   |true=>zz a.rd b.wr
def Hx (cU : List (List Nat)) (a : DR) : List DR → Bool
 |[]=>true
 |b::r=>match AZ cU a b with
  |true=>Hx cU a r
  |false=>false
def NF (cU : List (List Nat)) : List DR → Bool
 |[]=>true
 |a::r=>match Hx cU a r with
  |true=>NF cU r
  |false=>false
def vW (cU:List (List Nat)) (bP:List DR):Bool:=match cU with
 |[]=>match bP with
  |[]=>true
  |_::_=>false
 |_::_=>NF cU bP
theorem NG {cU:List (List Nat)} {bP:List DR} (h:vW cU bP=true):NF cU bP=true:=by
 unfold vW at h
 split at h
 ·split at h
  ·rfl
  ·cases h
 ·exact h
theorem abS {bP:List DR} (h:vW [] bP=true):bP=[]:=by
 cases bP with
 |nil=>rfl
 |cons=>cases h
def qi (k:Nat) (rd wr:List Nat) (bP:List DR):List DR:=match rd,wr with
 |[],[]=>bP
 |_,_=>bP++[⟨k,rd,wr⟩]
def Hy : V → Bool
 | .bool _=>true
 | .tf _=>true
 | .int _ _=>true
 | .str _=>true
 |_=>false
def NH : V → Bool
 | .bool _=>true
 | .tf _=>true
 | .int _ _=>true
 | .str _=>true
 | .agg vs=>vs.all Hy
 |_=>false
def A2 : V → Bool
 | .bool _=>true
 | .tf _=>true
 | .int _ _=>true
 | .str _=>true
 | .agg vs=>vs.all Hy
 | .cG vs=>vs.all NH
 |_=>false
def th (gs:List Nat) (d:Option Nat) (v:V) (env:List (Nat×V)) (K:List (Nat×V)->Prop):Prop:=match d with
 |none=>K env
 |some t=>match tg t gs with
  |false=>K (AR t v env)
  |true=>match v with
   | .bool c=>Br c (fun _=>K (AR t (.tf true) env)) (fun _=>K (AR t (.tf false) env))
   |v=>K (AR t v env)
def CB (g:Option (Nat×Bool)) (env:List (Nat×V)):Option Bool:=match g with
 |none=>some true
 |some (s,b)=>match get s env with
  | .tf c=>match c,b with
   |true,true=>some true
   |false,false=>some true
   |_,_=>some false
  | .cG _=>some false
  |_=>none
def gC (bl : ai) : Nat → V → List Nat
 |0,_=>[]
 |n+1,v=>match v with
  | .sl id _ _ _=>[id]
  | .pa id _ _=>[id]
  | .ptr id _=>id::(match aq id bl with
   |some (.cells cs _)=>cs.flatMap (gC bl n)
   |_=>[])
  | .fn _ a b=>a.flatMap (gC bl n)++b.flatMap (gC bl n)
  | .agg cs=>cs.flatMap (gC bl n)
  | .cG cs=>cs.flatMap (gC bl n)
  | .bU _ v=>gC bl n v
  |_=>[]
def jn (bl:ai) (vs:List V):List Nat:=vs.flatMap (gC bl 8)
def vX : List Nat → ai → Option dU
 |[],_=>some []
 |id::r,bl=>match aq id bl with
  |some (.arr t xs _)=>match vX r ((id,.arr t xs true)::cB id bl) with
   |some u=>some ((id,some (.arr t xs true))::u)
   |none=>none
  |some (.cells cs _)=>match vX r ((id,.cells cs true)::cB id bl) with
   |some u=>some ((id,some (.cells cs true))::u)
   |none=>none
  |_=>none
def Hz (b:Bool) (ids:List Nat) (bl:ai):Option dU:=match b with
 |true=>some []
 |false=>vX ids bl
def vY (o:Out) (K:V->dU->Prop):Prop:=match o with
 |some (ob,v,u)=>qf ob/\K v u
 |none=>False
theorem vZ {o:Out} {K:V->dU->Prop} (h:vY o K):∃ob v u,o=some (ob,v,u)/\qf ob/\K v u:=by
 unfold vY at h
 split at h
 ·exact ⟨_,_,_,rfl,h.1,h.2⟩
 ·exact h.elim
theorem l7 {o:Out} {K:V->dU->Prop} {ob:List Bool} {v:V} {u:dU} (h:o=some (ob,v,u)) (cX:qf ob) (hk:K v u):vY o K:=by
 subst h;exact ⟨cX,hk⟩
def lH (ar : Ar) (gs : List Nat) (b : Nat) : List dD → Nat → List (Nat × V) → ai → List DR → (List (Nat × V) → ai → List DR → Prop) → Prop
 |[],_,env,bl,bP,K=>K env bl bP
 | .op d g i::r,k,env,bl,bP,K=>match CB g env with
  |some true=>vY (de ar i env bl (b+k)) (fun v u=>th gs d v env fun env'=>lH ar gs b r (k+1) env' (bV u bl) (qi k (mU i env) (u.map (·.1)) bP) K) \/
   vY (vk ar i env bl (b+k)) (fun v u=>th gs d v env fun env'=>lH ar gs b r (k+1) env' (bV u bl) (qi k (mU i env) (u.map (·.1)) bP) K)
  |some false=>lH ar gs b r (k+1) (put d (.cG []) env) bl bP K
  |none=>False
 | .call d g f a tys::r,k,env,bl,bP,K=>match CB g env with
  |some true=>match f.ev env with
   | .fn f fs cs=>match fs++cw tys (a.map (·.ev env))++cs with
    |vs=>(match cL (fin ar bl 8) vs with
     |some vs'=>∃x u,ar.dy f vs' x/\Hz (A2 x||vs.all (cJ 8)) (jn bl vs) bl=some u/\th gs d x env fun env'=>lH ar gs b r (k+1) env' (bV u bl) (qi k (jn bl vs) (u.map (·.1)) bP) K
     |none=>False)\/∃l8 x u,(∀bO,(∀id∈l8,aq id bO=aq id bl)->ar.CK f vs bO (b+k) x u)/\th gs d x env fun env'=>lH ar gs b r (k+1) env' (bV u bl) (qi k l8 (u.map (·.1)) bP) K
   |_=>False
  |some false=>lH ar gs b r (k+1) (put d (.cG []) env) bl bP K
  |none=>False
def qj : List dD → List Nat
 |[]=>[]
 | .op _ (some (s,_)) _::r=>s::qj r
 | .call _ (some (s,_)) _ _ _::r=>s::qj r
 |_::r=>qj r
def Fa (ar:Ar) (cU:List (List Nat)) (is:List dD) (S:St) (K:St->Prop):Prop :=
 lH ar (qj is) S.H.next is 0 S.env S.H.bl [] fun env bl bP=>vW cU bP=true/\K ⟨env,⟨S.H.next+is.length,bl⟩,S.ms⟩
def lW (ar : Ar) : C → St → (Ex → St → Prop) → Prop
 | .skip,S,K=>K .normal S
 | .cF is,S,K=>dF ar is S fun S=>K .normal S
 | .draw ps is,S,K=>Fa ar ps is S fun S=>K .normal S
 | .seq a b,S,K=>lW ar a S fun e S=>match e with
  | .normal=>lW ar b S K
  | .exit id=>K (.exit id) S
  | .ret=>K .ret S
 | .cond c a b,S,K=>match c.ev S.env with
  | .tf true=>lW ar a S K
  | .tf false=>lW ar b S K
  | .bool x=>Br x (fun _=>lW ar a (M5 c true S) K) (fun _=>lW ar b (M5 c false S) K)
  | .cb x=>(x=true->lW ar a (M5 c true S) K)/\lW ar b (M5 c false S) K
  |_=>False
 | .block id c,S,K=>lW ar c S fun e S=>match e with
  | .normal=>K .normal S
  | .exit id'=>match Nat.beq id' id with
   |true=>K .normal S
   |false=>K (.exit id') S
  | .ret=>K .ret S
 | .loop c,S,K=>Kr ar S fun S=>ar.loop c S K
 | .exit id,S,K=>K (.exit id) S
 | .ret,S,K=>K .ret S
 | .c9 f ps a b,S,K=>Kr ar S fun S=>ar.c9 f ps a b S K
 | .gk pre m it cl e kt kg vt vg pJ b,S,K=>Kr ar S fun S=>ar.gk (.gk pre m it cl e kt kg vt vg pJ b) S K
def args : Nat → List V → List (Nat × V)
 |_,[]=>[]
 |n,v::r=>(n,v)::args (n+1) r
end Go.AM
end
section
namespace Go.AM
structure Ctx where
  w0:World
  ι0:aB
  m0:Mu
  ro:Option Nat
  x:Nat->Prop
  hid:List Nat
def Ctx.own (Y:Ctx) (b:Nat):Prop:=Y.w0.heap.size<=b\/Y.x b
theorem Ctx.mV {Y:Ctx} {b k:Nat} (h:Y.own b) (hk:k<Y.w0.heap.size) (hx:¬Y.x k):k≠b:=fun e=>by
  subst e;rcases h with h|h
  · omega
  · exact hx h
def kW (o o':Option Obj):Prop:=∀ms c,o=some (.map ms c)->∃ms' c',o'=some (.map ms' c')/\(ms.toList.map fun m=>(m.born,m.key)) <+: (ms'.toList.map fun m=>(m.born,m.key))/\c<=c'
theorem kW.eq {o o':Option Obj} (h:o'=o):kW o o':=fun ms c e=>⟨ms,c,h.trans e,List.prefix_refl _,Nat.le_refl _⟩
theorem kW.trans {a b c:Option Obj} (h:kW a b) (k:kW b c):kW a c:=fun ms n e=>by
  obtain ⟨ms1,n1,e1,p1,q1⟩:=h ms n e
  obtain ⟨ms2,n2,e2,p2,q2⟩:=k ms1 n1 e1
  exact ⟨ms2,n2,e2,p1.trans p2,Nat.le_trans q1 q2⟩
theorem kW.no {o o':Option Obj} (h:∀ms c,o≠some (.map ms c)):kW o o':=fun ms c e=>absurd e (h ms c)
structure HA (x:Nat->Prop) (w0 w:World):Prop where
  os:w.os=w0.os
  tape:w.tape=w0.tape
  output:w.output=w0.output
  size:w0.heap.size<=w.heap.size
  block:∀k,k<w0.heap.size->¬x k->w.heap[k]?=w0.heap[k]?
  dr:w0.drawn<=w.drawn
  maps:∀k,k<w0.heap.size->kW w0.heap[k]? w.heap[k]?
structure Dw (w w':World):Prop where
  b:RowKit.Below w.heap.size w w'
  dr:w.drawn<=w'.drawn
theorem HA.refl (x:Nat->Prop) (w:World):HA x w w:=⟨rfl,rfl,rfl,Nat.le_refl _,fun _ _ _=>rfl,Nat.le_refl _,fun _ _=>.eq rfl⟩
theorem HA.to {x:Nat->Prop} {w0 w:World} (h:HA x w0 w) (hx:∀k,¬x k):Dw w0 w:=⟨⟨h.os,h.tape,h.output,h.size,fun k hk=>h.block k hk (hx k)⟩,h.dr⟩
theorem HA.then {x:Nat->Prop} {w0 w w':World} (h:HA x w0 w) (k:Dw w w'):HA x w0 w' :=
  ⟨k.b.os.trans h.os,k.b.tape.trans h.tape,k.b.output.trans h.output,Nat.le_trans h.size k.b.size,fun i hi hx=>(k.b.block i (Nat.lt_of_lt_of_le hi h.size)).trans (h.block i hi hx),Nat.le_trans h.dr k.dr,
    fun i hi=>(h.maps i hi).trans (.eq (k.b.block i (Nat.lt_of_lt_of_le hi h.size)))⟩
structure Mem (B:Nat->Prop) (ι:aB) (μ:Mu) (id:Nat) (fz:Bool) (w:World) (L:Loc) (vs:List Value):Prop where
  mu:μ id=some L
  old:B L.b
  row:∃c e,w.heap[L.b]?=some (.cells c e (0,0))/\c.size=L.tot/\∀(j:Nat) v,vs[j]?=some v->c[L.ba+j]?=some v
  fits:L.ba+vs.length<=L.tot
  one:∀v∈vs,v.oneCell'=true
  CC:fz=true->Reads ι L.b L.ba vs
  qk:fz=false->∀o,ι L.b o=none
def zA : Option Ex → Option Code → Prop
  |none,c=>c=none
  |some .normal,_=>False
  |some (.exit id),c=>c=some (.exit id)
  |some .ret,c=>c=some .ret
def stR : qd → LoopState
  | .ready=>.ready
  | .busy=>.busy
  | .done=>.done
  | .exhausted=>.exhausted
def fS (ι:aB) (μ:Mu) (env:List (Nat×V)) (tmps:Array Value):Prop:=∀t,Rel ι μ (get t env) (tmps.getD t undef)
def fT (P : Program) (B : Nat → Prop) (ι : aB) (μ : Mu) (id : Nat) (w : World) : jE → Prop
  | .cells cs fz=>∃L vs,Mem B ι μ id fz w L vs/\aR ι μ cs vs
  | .arr t xs fz=>(xs=[]/\μ id=none)\/∃L vs,Mem B ι μ id fz w L vs/\bS (ak ι t) xs vs/\xs.length=L.len
  | .loop st j d env ps as bd N=>∃L r Ld,μ id=some L/\B L.b/\w.heap[L.b]?=some (.loop r)/\r.state=stR st/\zA j r.pending/\fS ι μ env r.tmps /\
      r.params.toList=ps/\r.tmps.size=N/\(∀p∈ps,p<N)/\l6 P N r.assign=some as/\l6 P N r.body=some bd/\μ d=some Ld/\r.defers=Ld.b
  | .fC=>∃L,μ id=some L/\B L.b/\w.heap[L.b]?=some (.deferred (some []))
  | .map kt kg vt vg es=>∃L ms clock kR,μ id=some L/\B L.b/\w.heap[L.b]?=some (.map ms clock)/\gB ι kt kg vt vg kR ms.toList/\(∀m∈ms.toList,m.born<clock)/\(ms.toList.map (·.born)).Nodup/\kR.Perm es/\KD kt kR
  | .j8 t xs i p v=>∃L us vs c,Mem B ι μ id false w L vs/\bS (ak ι t) xs us/\xs.length=L.len/\i<xs.length/\i * t.sz+t.b7 p<us.length/\vs=us.set (i * t.sz+t.b7 p) c/\Rel ι μ v c
structure Inv (P:Program) (Y:Ctx) (ι:aB) (μ:Mu) (H:aO) (w:World):Prop where
  below:HA Y.x Y.w0 w
  i0:Y.ι0.le ι
  iB:∀b o,b<Y.w0.heap.size->¬Y.x b->ι b o=Y.ι0 b o
  rd:∀b o x,ι b o=some x->w.cell? ⟨b,o,none⟩=some x
  m0:Y.m0.le μ
  nx:∀id,H.next<=id->μ id=none
  live:∀id B,aq id H.bl=some B->fT P Y.own ι μ id w B
  inj:∀id id' B B' L L',aq id H.bl=some B->aq id' H.bl=some B'->μ id=some L->μ id'=some L'->L.b=L'.b->id=id'
  lt:∀id B,aq id H.bl=some B->id<H.next
  gl:iy P Y.ι0
theorem Inv.c8 {P:Program} {Y:Ctx} {ι:aB} {μ:Mu} {H:aO} {w:World} (h:Inv P Y ι μ H w):iy P ι:=h.gl.mono h.i0
theorem bB (i j : Nat) : ∀ bl : ai, aq i (cB j bl) = if i = j then none else aq i bl
  |[]=>by simp [cB,aq]
  |(s,b)::r=>by
    have ih:=bB i j r
    by_cases h:s=j
    · subst h
      have:Nat.beq s s=true:=Nat.beq_refl s
      simp only [cB,this,ih]
      by_cases hi:i=s
      · simp [hi]
      · have h2 : Nat.beq s i = false := by rw [Bool.eq_false_iff]; intro e; exact hi (Nat.eq_of_beq_eq_true e).symm
        simp [hi,aq,h2]
    · have h1 : Nat.beq s j = false := by rw [Bool.eq_false_iff]; intro e; exact h (Nat.eq_of_beq_eq_true e)
      simp only [cB,h1,aq]
      by_cases hi:s=i
      · subst hi;simp [Nat.beq_refl,h]
      · have h2 : Nat.beq s i = false := by rw [Bool.eq_false_iff]; intro e; exact hi (Nat.eq_of_beq_eq_true e)
        simp [h2,ih]
theorem aY (i s:Nat) (b:jE) (r:ai):aq i ((s,b)::r)=if s=i then some b else aq i r:=by
  by_cases h:s=i
  · subst h;simp [aq,Nat.beq_refl]
  · have h2 : Nat.beq s i = false := by rw [Bool.eq_false_iff]; intro e; exact h (Nat.eq_of_beq_eq_true e)
    simp [aq,h2,h]
theorem fF (i s:Nat) (b:V) (r:List (Nat×V)):get i ((s,b)::r)=if s=i then b else get i r:=by
  by_cases h:s=i
  · subst h;simp [get,Nat.beq_refl]
  · have h2 : Nat.beq s i = false := by rw [Bool.eq_false_iff]; intro e; exact h (Nat.eq_of_beq_eq_true e)
    simp [get,h2,h]
theorem l9 (i s:Nat) (b:V) (r:List (Nat×V)):get i (AR s b r)=if s=i then b else get i r:=by simp only [AR,fF]
theorem bx (i s:Nat) (b:jE) (bl:ai):aq i ((s,b)::cB s bl)=if i=s then some b else aq i bl:=by
  rw [aY,bB]
  by_cases h:s=i
  · simp [h]
  · simp [h,Ne.symm h,fun e:i=s=>h e.symm]
section
variable {P:Program} {Y:Ctx} {ι ι':aB} {μ μ':Mu} {H:aO} {w w':World}
theorem Mem.mono {B : Nat → Prop} {id : Nat} {fz : Bool} {L : Loc} {vs : List Value} (h : Mem B ι μ id fz w L vs) (hi : ι.le ι') (hm : μ.le μ') (hw : w'.heap[L.b]? = w.heap[L.b]?)
    (hf:fz=false->∀o,ι' L.b o=none):Mem B ι' μ' id fz w' L vs :=
  ⟨hm _ _ h.mu,h.old,by rw [hw];exact h.row,h.fits,h.one,fun e=>(h.CC e).mono hi,hf⟩
theorem fS.mono (hi:ι.le ι') (hm:μ.le μ') {env:List (Nat×V)} {t:Array Value} (h:fS ι μ env t):fS ι' μ' env t:=fun i=>(h i).mono hi hm
theorem zA.irrel:True:=trivial
theorem fT.mono {B : Nat → Prop} {id : Nat} {b : jE} (h : fT P B ι μ id w b) (hi : ι.le ι') (hm : μ.le μ') (hn : μ id = none → μ' id = none)
    (hw:∀L,μ id=some L->w'.heap[L.b]?=w.heap[L.b]?) (hf:∀L,μ id=some L->(∀o,ι L.b o=none)->∀o,ι' L.b o=none):fT P B ι' μ' id w' b:=by
  cases b with
  |cells cs fz =>
    obtain ⟨L,vs,hM,hR⟩:=h
    exact ⟨L,vs,hM.mono hi hm (hw L hM.mu) (fun e=>hf L hM.mu (hM.qk e)),hR.mono hi hm⟩
  |arr t xs fz =>
    rcases h with ⟨rfl,h⟩|⟨L,vs,hM,hR,hl⟩
    · exact .inl ⟨rfl,hn h⟩
    · exact .inr ⟨L,vs,hM.mono hi hm (hw L hM.mu) (fun e=>hf L hM.mu (hM.qk e)),bS.mono (fun _ _=>ak.mono hi) hR,hl⟩
  |loop st j d env ps as bd N =>
    obtain ⟨L,r,Ld,h1,h2,h3,h4,h5,h6,h7,h8,h9,h10,h11,h12,h13⟩:=h
    exact ⟨L,r,Ld,hm _ _ h1,h2,by rw [hw L h1];exact h3,h4,h5,h6.mono hi hm,h7,h8,h9,h10,h11,hm _ _ h12,h13⟩
  |fC =>
    obtain ⟨L,h1,h2,h3⟩:=h
    exact ⟨L,hm _ _ h1,h2,by rw [hw L h1];exact h3⟩
  |map kt kg vt vg es =>
    obtain ⟨L,ms,clock,kR,h1,h2,h3,h4,h5,h6,h7⟩:=h
    exact ⟨L,ms,clock,kR,hm _ _ h1,h2,by rw [hw L h1];exact h3,h4.mono hi,h5,h6,h7⟩
  |j8 t xs i p v =>
    obtain ⟨L,us,vs,c,hM,hR,hl,h1,h2,h3,h4⟩:=h
    exact ⟨L,us,vs,c,hM.mono hi hm (hw L hM.mu) (fun e=>hf L hM.mu (hM.qk e)),bS.mono (fun _ _=>ak.mono hi) hR,hl,h1,h2,h3,h4.mono hi hm⟩
theorem fT.loc {B:Nat->Prop} {id:Nat} {b:jE} (h:fT P B ι μ id w b) {L:Loc} (hL:μ id=some L):B L.b/\L.b<w.heap.size:=by
  have lt:∀{o:Obj},w.heap[L.b]?=some o->L.b<w.heap.size:=fun h=>(Array.getElem?_eq_some_iff.1 h).1
  cases b with
  |cells cs fz =>
    obtain ⟨L',vs,hM,_⟩:=h
    have:=hM.mu;rw [hL] at this;cases this
    obtain ⟨c,e,h1,_⟩:=hM.row
    exact ⟨hM.old,lt h1⟩
  |arr t xs fz =>
    rcases h with ⟨_,h⟩|⟨L',vs,hM,_⟩
    · rw [h] at hL;cases hL
    · have := hM.mu; rw [hL] at this; cases this
      obtain ⟨c,e,h1,_⟩:=hM.row
      exact ⟨hM.old,lt h1⟩
  |loop st j d env ps as bd N =>
    obtain ⟨L',r,Ld,h1,h2,h3,_⟩:=h
    rw [hL] at h1;cases h1
    exact ⟨h2,lt h3⟩
  |fC =>
    obtain ⟨L',h1,h2,h3⟩:=h
    rw [hL] at h1;cases h1
    exact ⟨h2,lt h3⟩
  |map kt kg vt vg es =>
    obtain ⟨L',ms,clock,kR,h1,h2,h3,_⟩:=h
    rw [hL] at h1;cases h1
    exact ⟨h2,lt h3⟩
  |j8 t xs i p v =>
    obtain ⟨L',us,vs,c,hM,_⟩:=h
    have:=hM.mu;rw [hL] at this;cases this
    obtain ⟨c,e,h1,_⟩:=hM.row
    exact ⟨hM.old,lt h1⟩
theorem Inv.congr {bl:ai} {n:Nat} (h:Inv P Y ι μ H w) (hb:∀id,aq id bl=aq id H.bl) (hn:H.next=n):Inv P Y ι μ ⟨n,bl⟩ w :=
  ⟨h.below,h.i0,h.iB,h.rd,h.m0,by rw [<-hn];exact h.nx,fun id B hB=>h.live id B (by rw [<-hb];exact hB),
   fun id id' B B' L L' h1 h2=>h.inj id id' B B' L L' (by rw [<-hb];exact h1) (by rw [<-hb];exact h2),fun id B hB=>by rw [<-hn];exact h.lt id B (by rw [<-hb];exact hB),h.gl⟩
theorem Inv.sub {bl:ai} (h:Inv P Y ι μ H w) (hb:∀id B,aq id bl=some B->aq id H.bl=some B):Inv P Y ι μ ⟨H.next,bl⟩ w :=
  ⟨h.below,h.i0,h.iB,h.rd,h.m0,h.nx,fun id B hB=>h.live id B (hb _ _ hB),
   fun id id' B B' L L' h1 h2=>h.inj id id' B B' L L' (hb _ _ h1) (hb _ _ h2),fun id B hB=>h.lt id B (hb _ _ hB),h.gl⟩
theorem Inv.del (h:Inv P Y ι μ H w) (i:Nat):Inv P Y ι μ ⟨H.next,cB i H.bl⟩ w :=
  h.sub fun id B hB=>by rw [bB] at hB;split at hB<;>simp_all
theorem Inv.next (h:Inv P Y ι μ H w):Inv P Y ι μ ⟨H.next+1,H.bl⟩ w :=
  ⟨h.below,h.i0,h.iB,h.rd,h.m0,fun id hid=>h.nx id (by simp only at hid;omega),h.live,h.inj,fun id B hB=>by have:=h.lt id B hB;simp only;omega,h.gl⟩
theorem Inv.drew (h:Inv P Y ι μ H w):Inv P Y ι μ H w.drew :=
  ⟨⟨h.below.os,h.below.tape,h.below.output,h.below.size,h.below.block,Nat.le_succ_of_le h.below.dr,h.below.maps⟩,h.i0,h.iB,h.rd,h.m0,h.nx,
   fun id B hB=>(h.live id B hB).mono (aB.le_refl _) (Mu.le_refl _) (fun h=>h) (fun _ _=>rfl) (fun _ _ h=>h),h.inj,h.lt,h.gl⟩
def Mu.set (μ:Mu) (n:Nat) (L:Loc):Mu:=fun id=>if id=n then some L else μ id
theorem Mu.iQ {n:Nat} {L:Loc} (h:μ n=none):μ.le (μ.set n L):=fun id L' hL=>by
  unfold Mu.set;split
  · rename_i e;subst e;rw [h] at hL;cases hL
  · exact hL
theorem Inv.lay (h : Inv P Y ι μ H w) {aM : Nat} (hn : μ aM = none) {o : Obj} {b : jE} {L : Loc} (hL : L.b = w.heap.size)
    (hb:fT P Y.own ι (μ.set aM L) aM (w.alloc o) b):Inv P Y ι (μ.set aM L) ⟨max H.next (aM+1),(aM,b)::cB aM H.bl⟩ (w.alloc o):=by
  have hle:=Mu.iQ (L:=L) hn
  have heap:∀k,k<w.heap.size->(w.alloc o).heap[k]?=w.heap[k]?:=fun k hk=>by
    show (w.heap.push o)[k]?=_
    rw [Array.getElem?_push];split
    · omega
    · rfl
  refine ⟨⟨h.below.os,h.below.tape,h.below.output,by have:=h.below.size;simp;omega,fun k hk hx=>?_,h.below.dr,fun k hk=>(h.below.maps k hk).trans (.eq (heap k (Nat.lt_of_lt_of_le hk h.below.size)))⟩,h.i0,h.iB,fun b o x hx=>?_,Mu.le_trans h.m0 hle,fun id hid=>?_,fun id B hB=>?_,?_,?_,h.gl⟩
  · have := h.below.size
    rw [heap k (by omega)];exact h.below.block k hk hx
  · have := h.rd b o x hx
    rw [World.cell?_alloc_lt _ _ _ (World.block_lt_of_cell? _ _ this)];exact this
  · simp only at hid
    unfold Mu.set;rw [if_neg (by omega)];exact h.nx id (by omega)
  · rw [bx] at hB
    split at hB
    · rename_i e;subst e;cases hB;exact hb
    · rename_i e
      refine (h.live id B hB).mono (aB.le_refl _) hle (fun hm=>by unfold Mu.set;rw [if_neg e];exact hm) (fun L' hL'=>?_) (fun _ _ h=>h)
      exact heap _ ((h.live id B hB).loc hL').2
  · intro id id' B B' L1 L2 h1 h2 lI hm2 e
    rw [bx] at h1 h2
    unfold Mu.set at lI hm2
    by_cases e1:id=aM<;>by_cases e2:id'=aM
    · rw [e1,e2]
    · rw [if_pos e1] at lI; rw [if_neg e2] at hm2 h2
      cases lI
      have:=((h.live id' B' h2).loc hm2).2;omega
    · rw [if_pos e2] at hm2; rw [if_neg e1] at lI h1
      cases hm2
      have:=((h.live id B h1).loc lI).2;omega
    · rw [if_neg e1] at lI h1; rw [if_neg e2] at hm2 h2
      exact h.inj id id' B B' L1 L2 h1 h2 lI hm2 e
  · intro id B hB
    rw [bx] at hB
    split at hB
    · rename_i e;subst e;simp only;omega
    · have:=h.lt id B hB;simp only;omega
theorem Inv.turn (h : Inv P Y ι μ H w) {id : Nat} {b0 b : jE} (hb0 : aq id H.bl = some b0) {L : Loc} (hL : μ id = some L) (hfree : ∀ o, ι L.b o = none)
    (hos:w'.os=w.os) (NI:w'.tape=w.tape) (hout:w'.output=w.output) (X7:w'.drawn=w.drawn) (hsz:w'.heap.size=w.heap.size) (hk:∀k,k≠L.b->w'.heap[k]?=w.heap[k]?)
    (hmg:kW w.heap[L.b]? w'.heap[L.b]?) (hb:fT P Y.own ι μ id w' b):Inv P Y ι μ ⟨H.next,(id,b)::cB id H.bl⟩ w':=by
  have hold:=((h.live id b0 hb0).loc hL).1
  refine ⟨⟨hos.trans h.below.os, NI.trans h.below.tape, hout.trans h.below.output, by rw [hsz]; exact h.below.size, fun k hk' hx => ?_, by rw [X7]; exact h.below.dr, fun k hk' => (h.below.maps k hk').trans (by
      by_cases e:k=L.b
      · subst e;exact hmg
      · exact .eq (hk k e))⟩,h.i0,h.iB,fun b o x hx=>?_,h.m0,h.nx,fun i B hB=>?_,?_,?_,h.gl⟩
  · rw [hk k (Ctx.mV hold hk' hx)];exact h.below.block k hk' hx
  · have := h.rd b o x hx
    have hne:b≠L.b:=fun e=>by subst e;rw [hfree] at hx;cases hx
    unfold World.cell? at this ⊢
    simp only at this ⊢
    rw [hk b hne];exact this
  · rw [bx] at hB
    split at hB
    · rename_i e;subst e;cases hB;exact hb
    · rename_i e
      refine (h.live i B hB).mono (aB.le_refl _) (Mu.le_refl _) (fun h=>h) (fun L' hL'=>hk _ (fun e'=>e (h.inj i id B b0 L' L hB hb0 hL' hL e'))) (fun _ _ h=>h)
  · intro i i' B B' L1 L2 h1 h2 lI hm2 e
    have:∀{j B},aq j ((id,b)::cB id H.bl)=some B->∃X8,aq j H.bl=some X8:=fun {j B} hj=>by
      rw [bx] at hj
      split at hj
      · rename_i e;subst e;exact ⟨b0,hb0⟩
      · exact ⟨B,hj⟩
    obtain ⟨C,hC⟩:=this h1
    obtain ⟨C',SI⟩:=this h2
    exact h.inj i i' C C' L1 L2 hC SI lI hm2 e
  · intro i B hB
    rw [bx] at hB
    split at hB
    · rename_i e;subst e;exact h.lt _ _ hb0
    · exact h.lt i B hB
theorem Inv.same (h:Inv P Y ι μ H w) {id:Nat} {b0 b:jE} (hb0:aq id H.bl=some b0) (hb:fT P Y.own ι μ id w b):Inv P Y ι μ ⟨H.next,(id,b)::cB id H.bl⟩ w:=by
  refine ⟨h.below,h.i0,h.iB,h.rd,h.m0,h.nx,fun i B hB=>?_,?_,?_,h.gl⟩
  · rw [bx] at hB
    split at hB
    · rename_i e;subst e;cases hB;exact hb
    · exact h.live i B hB
  · intro i i' B B' L1 L2 h1 h2 lI hm2 e
    have:∀{j B},aq j ((id,b)::cB id H.bl)=some B->∃X8,aq j H.bl=some X8:=fun {j B} hj=>by
      rw [bx] at hj
      split at hj
      · rename_i e;subst e;exact ⟨b0,hb0⟩
      · exact ⟨B,hj⟩
    obtain ⟨C,hC⟩:=this h1
    obtain ⟨C',SI⟩:=this h2
    exact h.inj i i' C C' L1 L2 hC SI lI hm2 e
  · intro i B hB
    rw [bx] at hB
    split at hB
    · rename_i e;subst e;exact h.lt _ _ hb0
    · exact h.lt i B hB
def aB.add (ι:aB) (L:Loc) (vs:List Value):aB:=fun b o=>if b=L.b then (if L.ba<=o then vs[o - L.ba]? else none) else ι b o
theorem aB.Fb {L:Loc} {vs:List Value} (h:∀o,ι L.b o=none):ι.le (ι.add L vs):=fun b o x hx=>by
  unfold aB.add;split
  · rename_i e;subst e;rw [h] at hx;cases hx
  · exact hx
theorem Reads.add {L:Loc} {vs:List Value}:Reads (ι.add L vs) L.b L.ba vs:=fun j v hj=>by
  unfold aB.add;rw [if_pos rfl,if_pos (by omega)];simpa using hj
theorem Inv.SJ (h:Inv P Y ι μ H w) {c:Array Value} {e:TypeId} {f:Nat×Nat} {vs:List Value} (hvs:∀(j:Nat) v,vs[j]?=some v->c[j]?=some v) :
    ∃ι',ι.le ι'/\Inv P Y ι' μ H (w.alloc (.cells c e f))/\Reads ι' w.heap.size 0 vs:=by
  have hfree:∀o,ι w.heap.size o=none:=fun o=>by
    cases yR:ι w.heap.size o with
    |none=>rfl
    |some y=>have:=World.block_lt_of_cell? _ _ (h.rd _ _ _ yR);simp at this
  let L:Loc:=⟨w.heap.size,0,0,0⟩
  have hle:=aB.Fb (L:=L) (vs:=vs) hfree
  have heap:∀k,k<w.heap.size->(w.alloc (.cells c e f)).heap[k]?=w.heap[k]?:=fun k hk=>by
    show (w.heap.push _)[k]?=_
    rw [Array.getElem?_push];split
    · omega
    · rfl
  have hnew:(w.alloc (.cells c e f)).heap[w.heap.size]?=some (.cells c e f):=by
    show (w.heap.push _)[w.heap.size]?=_
    simp
  refine ⟨ι.add L vs,hle,⟨⟨h.below.os,h.below.tape,h.below.output,by have:=h.below.size;simp;omega,fun k hk hx=>?_,h.below.dr,fun k hk=>(h.below.maps k hk).trans (.eq (heap k (Nat.lt_of_lt_of_le hk h.below.size)))⟩,aB.le_trans h.i0 hle,fun b o hb' hx=>?_,fun b o x hx=>?_,h.m0,h.nx,fun i B hB=>?_,h.inj,h.lt,h.gl⟩,Reads.add (L:=L)⟩
  · have := h.below.size
    rw [heap k (by omega)];exact h.below.block k hk hx
  · have := h.below.size
    unfold aB.add;rw [if_neg (show b≠L.b by simp only [L];omega)];exact h.iB b o hb' hx
  · unfold aB.add at hx
    split at hx
    · rename_i e'; subst e'
      split at hx
      · have := hvs _ _ hx
        simp only [L,Nat.sub_zero] at this
        show (match (w.alloc (.cells c e f)).heap[w.heap.size]? with|some (.cells c _ _)=>if (⟨w.heap.size,o,none⟩:Addr).spot.isSome then none else c[o]? | _=>none)=some x
        rw [hnew];simpa using this
      · cases hx
    · have := h.rd b o x hx
      rw [World.cell?_alloc_lt _ _ _ (World.block_lt_of_cell? _ _ this)];exact this
  · refine (h.live i B hB).mono hle (Mu.le_refl _) (fun h => h) (fun L' hL' => heap _ ((h.live i B hB).loc hL').2) (fun L' hL' ho o => ?_)
    have:=((h.live i B hB).loc hL').2
    unfold aB.add;rw [if_neg (show L'.b≠L.b by simp only [L];omega)];exact ho o
theorem Inv.freeze (h:Inv P Y ι μ H w) {id:Nat} {t:Ty} {xs:List t.den} {fz:Bool} (hb:aq id H.bl=some (.arr t xs fz)) :
    ∃ι',ι.le ι'/\Inv P Y ι' μ ⟨H.next,(id,.arr t xs true)::cB id H.bl⟩ w/\iM ι' μ id t xs:=by
  rcases h.live id _ hb with ⟨rfl,hn⟩|⟨L,vs,hM,hR,hl⟩
  · exact ⟨ι,aB.le_refl _,h.same hb (.inl ⟨rfl,hn⟩),.inl ⟨rfl,hn⟩⟩
  · cases fz with
    |true=>exact ⟨ι,aB.le_refl _,h.same hb (.inr ⟨L,vs,hM,hR,hl⟩),.inr ⟨L,vs,hM.mu,hM.CC rfl,hR,hl⟩⟩
    |false =>
      have hfree:=hM.qk rfl
      have hle:=aB.Fb (vs:=vs) hfree
      have fU:bS (ak (ι.add L vs) t) xs vs:=bS.mono (fun _ _=>ak.mono hle) hR
      refine ⟨ι.add L vs,hle,?_,.inr ⟨L,vs,hM.mu,Reads.add,fU,hl⟩⟩
      refine ⟨h.below,aB.le_trans h.i0 hle,fun b o hb' hx=>?_,fun b o x hx=>?_,h.m0,h.nx,fun i B hB=>?_,?_,?_,h.gl⟩
      · unfold aB.add;rw [if_neg (fun e=>Ctx.mV hM.old hb' hx e)];exact h.iB b o hb' hx
      · unfold aB.add at hx
        split at hx
        · rename_i e; subst e
          split at hx
          · rename_i ho
            obtain ⟨c,e,h1,h2,h3⟩:=hM.row
            have:=h3 _ _ hx
            rw [show L.ba+(o - L.ba)=o by omega] at this
            simp [World.cell?,h1,this]
          · cases hx
        · exact h.rd b o x hx
      · rw [bx] at hB
        split at hB
        · rename_i e; subst e; cases hB
          exact .inr ⟨L,vs,⟨hM.mu,hM.old,hM.row,hM.fits,hM.one,fun _=>Reads.add,fun e=>by cases e⟩,fU,hl⟩
        · rename_i e
          refine (h.live i B hB).mono hle (Mu.le_refl _) (fun h=>h) (fun _ _=>rfl) (fun L' hL' ho o=>?_)
          unfold aB.add
          rw [if_neg (fun e'=>e (h.inj i id B _ L' L hB hb hL' hM.mu e'))]
          exact ho o
      · intro i i' B B' L1 L2 h1 h2 lI hm2 e
        have:∀{j B},aq j ((id,.arr t xs true)::cB id H.bl)=some B->∃X8,aq j H.bl=some X8:=fun {j B} hj=>by
          rw [bx] at hj
          split at hj
          · rename_i e;subst e;exact ⟨_,hb⟩
          · exact ⟨B,hj⟩
        obtain ⟨C,hC⟩:=this h1
        obtain ⟨C',SI⟩:=this h2
        exact h.inj i i' C C' L1 L2 hC SI lI hm2 e
      · intro i B hB
        rw [bx] at hB
        split at hB
        · rename_i e;subst e;exact h.lt _ _ hb
        · exact h.lt i B hB
end
end Go.AM
end
section
namespace Go.AM
section
variable {P:Program} {Y:Ctx} {ι ι':aB} {μ μ':Mu} {H:aO} {w w':World}
@[reducible] def bM (call : Nat → List V → aO → (V → aO → Prop) → Prop) (dy : Nat → List V → V → Prop) (loop : C → St → (Ex → St → Prop) → Prop)
  (round:Nat->List V->aO->(V->aO->Prop)->Prop) (c9:O->List Nat->C->C->St->(Ex->St->Prop)->Prop) (gk:C->St->(Ex->St->Prop)->Prop) (CK:GC):Ar where
 add a b:=a+b
 sub a b:=a - b
 mul a b:=a * b
 quo a b:=a.tdiv b
 rem a b:=a.tmod b
 bits op k a b:=match op with
  | .and=>k.wrap (BitVec.ofInt k.bits a &&& BitVec.ofInt k.bits b).toNat
  | .or=>k.wrap (BitVec.ofInt k.bits a ||| BitVec.ofInt k.bits b).toNat
  | .xor=>k.wrap (BitVec.ofInt k.bits a ^^^ BitVec.ofInt k.bits b).toNat
  |_=>k.wrap (BitVec.ofInt k.bits a &&& ~~~(BitVec.ofInt k.bits b)).toNat
 shr a b:=a.fdiv (2 ^ b.toNat)
 shl a b:=a * 2 ^ b.toNat
 X4 a b:=if b<a then b else a
 imax a b:=if b > a then b else a
 eq a b:=a==b
 lt a b:=decide (a<b)
 le a b:=decide (a<=b)
 beq a b:=a==b
 seq a b:=a.toList==b.toList
 slt a b:=Op.bytesLess a.toList b.toList
 Km s:=(s.size:Int)
 SC a b:=a&&b
 sV a := !a
 Kn c a b:=if c then a else b
 cP k z:=k.min<=z&&z<=k.max
 gz i n:=decide (0<=i/\i<n)
 EW a b:=decide (a<b)
 len xs:=xs.length
 get d xs i:=xs.getD i d
 set xs i v:=xs.set i v
 sub' xs lo n:=(xs.drop lo).take n
 app xs ys:=xs++ys
 rep n x:=List.replicate n x
 AN a b:=a+b
 Nr a b:=a - b
 sW z:=z.toNat
 sat:=E6
 bys:=nM
 txt:=CL
 wr k z:=k.wrap z
 clr:=Ns
 mhas:=bT
 E5:=aN
 fM:=bh
 call:=call
 dy:=dy
 loop:=loop
 round:=round
 c9:=c9
 gk:=gk
 CK:=CK
theorem kj {k:IntKind} {z:Int} (h:(decide (k.min<=z)&&decide (z<=k.max))=true):k.wrap z=z:=by
 simp only [Bool.and_eq_true,decide_eq_true_eq] at h
 obtain ⟨h1,h2⟩:=h
 cases k<;>simp only [IntKind.wrap,IntKind.min,IntKind.max,IntKind.bits,IntKind.signed] at *<;>simp at *<;>first|omega|(rw [Int.bmod_eq_of_le]<;>omega)
theorem CR {x:Value} {v:V} (h:Nx x=some v):Rel ι μ v x:=by
 unfold Nx at h
 split at h<;>first|cases h|skip
 ·exact .tf _
 ·exact .int _ _
 ·exact .str _
 ·exact .bA
 ·exact .eJ
 ·exact .cu
 ·exact .cK
 ·exact .dZ
theorem nR : ∀ {xs : List Value} {vs : List V}, yQ xs = some vs → aR ι μ vs xs
 |[],vs,h=>by cases h;exact .nil
 |x::xs,vs,h=>by
  unfold yQ at h
  split at h
  ·rename_i a b ha hb;cases h;exact .cons (CR ha) (nR hb)
  ·cases h
theorem nS : ∀ {xs : List Value} {vs : List V}, yQ xs = some vs → ∀ x ∈ xs, x.oneCell' = true
 |[],vs,h=>by simp
 |x::xs,vs,h=>by
  unfold yQ at h
  split at h
  ·rename_i a b ha hb; cases h
   intro y hy
   rcases List.mem_cons.1 hy with rfl|hy
   ·unfold Nx at ha
    split at ha<;>first|rfl|cases ha
   ·exact nS hb y hy
  ·cases h
theorem SK {x:Value} {v:V} (h:ofC x=some v):Rel ι μ v x:=by
 unfold ofC at h
 split at h
 ·rename_i cs
  split at h
  ·rename_i vs hv; cases h
   have:=nR (ι:=ι) (μ:=μ) hv
   exact .agg _ _ (by simpa using this.1) (fun i v x hv hx=>this.2 i v x hv (by simpa using hx)) (nS hv)
  ·cases h
 ·exact CR h
theorem aK {env:List (Nat×V)} {a:Act} (he:fS ι μ env a.tmps) {x:Operand} {y:O} (h:dY x=some y):Rel ι μ (y.ev env) (a.eval x):=by
 cases x with
 |tmp t=>cases h;exact he t
 |const v =>
  simp only [dY] at h
  split at h
  ·rename_i u hu;cases h;exact SK hu
  ·cases h
 |func f=>cases h;exact .fn _ _ _ #[] #[] rfl (fun i v x h=>by simp at h) rfl (fun i v x h=>by simp at h)
 |global g=>cases h
theorem iz {env : List (Nat × V)} {a : Act} (he : fS ι μ env a.tmps) : ∀ {xs : List Operand} {ys : List O}, sY xs = some ys → aR ι μ (ys.map (·.ev env)) (xs.map a.eval)
 |[],ys,h=>by cases h;exact .nil
 |x::xs,ys,h=>by
  unfold sY at h
  split at h
  ·rename_i y ys' h1 h2;cases h;exact .cons (aK he h1) (iz he h2)
  ·cases h
theorem Mem.rangeAt {B:Nat->Prop} {id:Nat} {fz:Bool} {L:Loc} {vs:List Value} (h:Mem B ι μ id fz w L vs):w.rangeAt L.b L.ba vs:=fun j v hv=>by
 obtain ⟨c,e,h1,_,h3⟩:=h.row
 simp [World.cell?,h1,h3 j v hv]
theorem eX {b o:Nat} {vs:List Value} (h:w.rangeAt b o vs) (d k:Nat):w.rangeAt b (o+d) ((vs.drop d).take k):=fun j v hv=>by
 rw [List.getElem?_take] at hv
 split at hv
 ·rw [List.getElem?_drop] at hv
  have:=h (d+j) v hv
  rw [<-Nat.add_assoc] at this;exact this
 ·cases hv
theorem Reads.rangeAt {b o:Nat} {vs:List Value} (hr:Reads ι b o vs) (hi:∀b o x,ι b o=some x->w.cell? ⟨b,o,none⟩=some x):w.rangeAt b o vs:=fun j v hv=>hi _ _ _ (hr j v hv)
theorem Reads.sub {b o:Nat} {vs:List Value} (h:Reads ι b o vs) (d k:Nat):Reads ι b (o+d) ((vs.drop d).take k):=fun j v hv=>by
 rw [List.getElem?_take] at hv
 split at hv
 ·rw [List.getElem?_drop] at hv
  have:=h (d+j) v hv
  rw [<-Nat.add_assoc] at this;exact this
 ·cases hv
theorem World.CS {b o:Nat} {v:Value} (h:w.rangeAt b o [v]):w.cell? ⟨b,o,none⟩=some v:=by simpa using h 0 v rfl
theorem tj {g:Bool} {cs:List V} {v:V} {xs:List Value} (h:fQ g cs=some v) (hr:aR ι μ cs xs) (h1:∀u∈xs,u.oneCell'=true):∃x,iJ g xs=some x/\Rel ι μ v x:=by
 cases g with
 |true =>
  cases h
  exact ⟨_,rfl,.agg _ _ (by simpa using hr.1) (fun i v x hv hx=>hr.2 i v x hv (by simpa using hx)) (by simpa using h1)⟩
 |false =>
  match cs,h with
  |[c],h =>
   cases h
   obtain ⟨x,r,rfl,h1,h2⟩:=hr.cA
   rw [h2.of_nil]
   exact ⟨x,rfl,h1⟩
theorem Fc {t : TypeId} {k : Nat} {g : Bool} (hk : dA P t = some k) (hg : sZ P t = some g) {b o : Nat} {vs : List Value} (hr : w.rangeAt b o vs) (hl : vs.length = k)
  {x:Value} (hx:iJ g vs=some x):(Instr.loadAt t (.pointer (some ⟨b,o,none⟩))).run P w = .ok x w:=by
 unfold sZ at hg
 unfold dA at hk
 cases g with
 |true =>
  cases hx
  split at hg
  ·rename_i hu;exact run_loadAt_mid w b o t vs _ hr hu rfl (by rw [hk,hl])
  ·rename_i hu;exact run_loadAt_mid w b o t vs _ hr hu rfl (by rw [hk,hl])
  ·cases hg
  ·cases hg
 |false =>
  match vs,hx with
  |[c],hx =>
   cases hx
   have hc:=World.CS hr
   split at hg
   ·cases hg
   ·cases hg
   ·rename_i d h1 h2 hu
    have jF:(isAgg t).run P w = .ok false w:=by
     unfold isAgg
     rw [Sem.run_bind,run_underlying hu w]
     cases d<;>simp_all
    simp [Instr.loadAt,Instr.sureAddr,loadVar,jF,hc]
   ·cases hg
theorem gZ {t:TypeId} {k:Nat} (hk:dA P t=some k) {b o:Nat} {v:Value} (ht:w.there b o k) (hl:v.cells.size=k) (h1:∀u∈v.cells.toList,u.oneCell'=true) :
  (Instr.storeAt t (.pointer (some ⟨b,o,none⟩)) v).run P w = .ok () (w.setCells b o v.cells.toList):=by
 have:=run_storeCells_cells (P:=P) b o v.cells.toList 0 w (fun j hj=>by simpa using (ht j (by simp at hj;omega)).1) (fun j hj=>by simpa using (ht j (by simp at hj;omega)).2) h1
 unfold dA at hk
 cases hq:P.info? t with
 |none=>simp [hq] at hk
 |some i =>
  have hs:v.cells.size=i.size:=by simp [hq] at hk;omega
  simp only [Nat.add_zero] at this
  simp [Instr.storeAt,Instr.sureAddr,storeVar,sizeOf,typeInfo,hq,hs,this]
theorem Mem.there {B:Nat->Prop} {id:Nat} {fz:Bool} {L:Loc} {vs:List Value} (h:Mem B ι μ id fz w L vs) {o k:Nat} (hk:L.ba<=o) (hf:o+k<=L.tot):w.there L.b o k:=fun j hj=>by
 obtain ⟨c,e,h1,h2,_⟩:=h.row
 simp only [World.cell?,World.frozen?,h1]
 refine ⟨?_,by simp⟩
 have:o+j<c.size:=by omega
 simp [this]
theorem Mem.write {B:Nat->Prop} {id:Nat} {L:Loc} {vs:List Value} (h:Mem B ι μ id false w L vs) {d:Nat} {us:List Value} (hd:d+us.length<=vs.length) (h1:∀u∈us,u.oneCell'=true) :
  Mem B ι μ id false (w.setCells L.b (L.ba+d) us) L (vs.take d++us++vs.drop (d+us.length)):=by
 obtain ⟨c,e,hc,hs,hr⟩:=h.row
 have X9:w.there L.b (L.ba+d) us.length:=h.there (by omega) (by have:=h.fits;omega)
 refine ⟨h.mu,h.old,?_,?_,?_,(fun e=>by cases e),h.qk⟩
 ·have key:∀(us:List Value) (o:Nat) (w:World) (c:Array Value),w.heap[L.b]?=some (.cells c e (0,0))->o+us.length<=c.size ->
    ∃c',(w.setCells L.b o us).heap[L.b]?=some (.cells c' e (0,0))/\c'.size=c.size/\∀i,c'[i]?=if o<=i/\i<o+us.length then us[i - o]? else c[i]?:=by
   intro us
   induction us with
   |nil=>intro o w c hc _;exact ⟨c,hc,rfl,fun i=>by rw [if_neg (by simp only [List.length_nil];omega)]⟩
   |cons u us ih =>
    intro o w c hc ho
    have hc':(w.setCell ⟨L.b,o,none⟩ u).heap[L.b]?=some (.cells (c.setIfInBounds o u) e (0,0)):=by
     simp [World.setCell,Array.getElem?_modify,hc]
    obtain ⟨c',e1,e2,e3⟩:=ih (o+1) _ _ hc' (by simp at ho ⊢;omega)
    refine ⟨c',e1,by simpa using e2,fun i=>?_⟩
    rw [e3]
    simp only [List.length_cons] at ho ⊢
    by_cases hi:i=o
    ·subst hi
     rw [if_neg (by omega),if_pos (by omega)]
     have:i<c.size:=by omega
     simp [this]
    ·by_cases h2 : o + 1 ≤ i ∧ i < o + 1 + us.length
     ·rw [if_pos h2, if_pos (by omega)]
      obtain ⟨m,rfl⟩:∃m,i=o+1+m:=⟨i - (o+1),by omega⟩
      rw [show o+1+m - (o+1)=m by omega,show o+1+m - o=m+1 by omega];rfl
     ·rw [if_neg h2,if_neg (by omega),Array.getElem?_setIfInBounds_ne (by omega)]
  have hf:=h.fits
  obtain ⟨c',e1,e2,e3⟩:=key us (L.ba+d) w c hc (by omega)
  refine ⟨c',e,e1,by rw [e2];exact hs,fun j v hv=>?_⟩
  rw [e3]
  by_cases hj:d<=j/\j<d+us.length
  ·rw [if_pos (by omega)]
   rw [List.append_assoc,List.getElem?_append_right (by simp;omega),List.getElem?_append_left (by simp;omega)] at hv
   rw [<-hv];congr 1;simp;omega
  ·rw [if_neg (by omega)]
   by_cases hj2:j<d
   ·rw [List.append_assoc, List.getElem?_append_left (by simp; omega), List.getElem?_take, if_pos hj2] at hv
    exact hr j v hv
   ·rw [List.getElem?_append_right (by simp; omega), List.getElem?_drop] at hv
    refine hr j v ?_
    rw [<-hv];congr 1;simp;omega
 ·have := h.fits
  simp;omega
 ·intro v hv
  rcases List.mem_append.1 hv with hv|hv
  ·rcases List.mem_append.1 hv with hv | hv
   ·exact h.one v (List.mem_of_mem_take hv)
   ·exact h1 v hv
  ·exact h.one v (List.mem_of_mem_drop hv)
theorem iR (b : Nat) : ∀ (vs : List Value) (o : Nat) (w : World) (k : Nat), k ≠ b → (w.setCells b o vs).heap[k]? = w.heap[k]?
 |[],_,_,_,_=>rfl
 |v::r,o,w,k,h=>by
  rw [World.setCells,iR b r _ _ k h]
  simp [World.setCell,Array.getElem?_modify,Ne.symm h]
theorem lJ (b : Nat) : ∀ (vs : List Value) (o : Nat) (w : World), (w.setCells b o vs).heap.size = w.heap.size
 |[],_,_=>rfl
 |v::r,o,w=>by rw [World.setCells,lJ b r];simp
theorem ee (b : Nat) : ∀ (vs : List Value) (o : Nat) (w : World), (w.setCells b o vs).os = w.os ∧ (w.setCells b o vs).tape = w.tape ∧ (w.setCells b o vs).output = w.output ∧ (w.setCells b o vs).drawn = w.drawn
 |[],_,_=>⟨rfl,rfl,rfl,rfl⟩
 |v::r,o,w=>by rw [World.setCells];exact ee b r (o+1) (w.setCell ⟨b,o,none⟩ v)
theorem ko (b : Nat) : ∀ (vs : List Value) (o : Nat) (w : World) (k : Nat), kW w.heap[k]? (w.setCells b o vs).heap[k]?
 |[],_,_,_=>.eq rfl
 |v::r,o,w,k=>by
  rw [World.setCells]
  refine kW.trans ?_ (ko b r _ _ k)
  intro ms c e
  refine ⟨ms,c,?_,List.prefix_refl _,Nat.le_refl _⟩
  simp only [World.setCell,Array.getElem?_modify]
  split
  ·rw [e];rfl
  ·exact e
theorem Inv.store (h : Inv P Y ι μ H w) {id : Nat} {b0 b : jE} (hb0 : aq id H.bl = some b0) {L : Loc} (hL : μ id = some L) (hfree : ∀ o, ι L.b o = none) {o : Nat} {us : List Value}
  (hb:fT P Y.own ι μ id (w.setCells L.b o us) b):Inv P Y ι μ ⟨H.next,(id,b)::cB id H.bl⟩ (w.setCells L.b o us) :=
 h.turn hb0 hL hfree (ee _ _ _ _).1 (ee _ _ _ _).2.1 (ee _ _ _ _).2.2.1 (ee _ _ _ _).2.2.2 (lJ _ _ _ _) (fun k hk=>iR _ _ _ _ _ hk) (ko _ _ _ _ _) hb
theorem oV:∀{off:Nat} {vs cs cs':List V} {us xs:List Value},nP off vs cs=some cs'->aR ι μ cs xs->aR ι μ vs us ->
  off+us.length<=xs.length/\aR ι μ cs' (xs.take off++us++xs.drop (off+us.length))
 |0,vs,cs,cs',us,xs,h,hc,hv=>by
  unfold nP at h
  split at h
  ·rename_i hl; cases h
   refine ⟨by have:=hc.1;have:=hv.1;omega,?_⟩
   have:=hv.append (hc.drop vs.length)
   rw [hv.1] at this ⊢
   simpa using this
  ·cases h
 |off+1,vs,[],cs',us,xs,h,hc,hv=>by simp [nP] at h
 |off+1,vs,c::cs,cs',us,xs,h,hc,hv=>by
  unfold nP at h
  obtain ⟨x,r,rfl,h1,h2⟩:=hc.cA
  split at h
  ·rename_i r' hr'
   cases h
   obtain ⟨h3,h4⟩:=oV hr' h2 hv
   refine ⟨by simp;omega,?_⟩
   have:=aR.cons h1 h4
   simpa [List.take_succ_cons,show off+1+us.length=(off+us.length)+1 by omega] using this
  ·cases h
end
end Go.AM
end
section
namespace Go.AM
section
variable {P : Program} {Y : Ctx} {ι ι' : aB} {μ μ' : Mu} {H : aO} {w w' : World}
 {c1:Nat->List V->aO->(V->aO->Prop)->Prop} {c2:Nat->List V->V->Prop} {c3:C->St->(Ex->St->Prop)->Prop}
 {c4:Nat->List V->aO->(V->aO->Prop)->Prop} {c5:O->List Nat->C->C->St->(Ex->St->Prop)->Prop} {c6:C->St->(Ex->St->Prop)->Prop} {c7:GC}
def jo (bl:ai) (u:dU):Prop:=∀e∈u,∃(id:Nat) (t:Ty) (xs:List t.den) (fz:Bool),e=(id,some (.arr t xs true))/\aq id bl=some (.arr t xs fz)
def HB (ι:aB) (μ:Mu) (u:dU):Prop:=∀(id:Nat) (t:Ty) (xs:List t.den),(id,some (.arr t xs true))∈u->iM ι μ id t xs
theorem jo.nil {bl:ai}:jo bl []:=fun e h=>by cases h
theorem jo.append {bl:ai} {u v:dU} (h:jo bl u) (h':jo bl v):jo bl (u++v):=fun e he=>(List.mem_append.1 he).elim (h e) (h' e)
theorem HB.left {u v:dU} (h:HB ι μ (u++v)):HB ι μ u:=fun id t xs hm=>h id t xs (List.mem_append_left _ hm)
theorem HB.right {u v:dU} (h:HB ι μ (u++v)):HB ι μ v:=fun id t xs hm=>h id t xs (List.mem_append_right _ hm)
theorem iM.mono (hi:ι.le ι') {id:Nat} {t:Ty} {xs:List t.den} (h:iM ι μ id t xs):iM ι' μ id t xs :=
 h.imp (fun h=>h) fun ⟨L,vs,h1,h2,h3,h4⟩=>⟨L,vs,h1,h2.mono hi,bS.mono (fun _ _=>ak.mono hi) h3,h4⟩
theorem iS:∀{u:dU} {ι:aB} {bl:ai} {n:Nat},jo bl u->Inv P Y ι μ ⟨n,bl⟩ w ->
  ∃ι',ι.le ι'/\Inv P Y ι' μ ⟨n,bV u bl⟩ w/\HB ι' μ u
 |[],ι,bl,n,_,hI=>⟨ι,aB.le_refl _,hI,fun id t xs h=>by cases h⟩
 |e::r,ι,bl,n,hz,hI=>by
  obtain ⟨id,t,xs,fz,rfl,hb⟩:=hz e (List.mem_cons_self)
  obtain ⟨ι1,hle,Yc,hF⟩:=hI.freeze hb
  have ql:jo ((id,.arr t xs true)::cB id bl) r:=fun e he=>by
   obtain ⟨yM,t2,Yd,fz2,rfl,iw⟩:=hz e (List.mem_cons_of_mem _ he)
   by_cases hid:yM=id
   ·subst hid
    rw [hb] at iw;cases iw
    exact ⟨yM,t,xs,true,rfl,by rw [bx,if_pos rfl]⟩
   ·exact ⟨yM,t2,Yd,fz2,rfl,by rw [bx,if_neg hid];exact iw⟩
  obtain ⟨ι2,hle2,mP,hF2⟩:=iS ql Yc
  refine ⟨ι2,aB.le_trans hle hle2,mP,fun yM t2 Yd hm=>?_⟩
  rcases List.mem_cons.1 hm with hm|hm
  ·cases hm;exact hF.mono hle2
  ·exact hF2 yM t2 Yd hm
theorem iM.slice {id:Nat} {t:Ty} {xs:List t.den} (h:iM ι' μ id t xs) {lo n:Nat} {x:Value} (hr:Rel ι μ (.sl id t lo n) x):ak ι' (.list t) ((xs.drop lo).take n) [x]:=by
 cases hr with
 |cg _ _ _ a=>exact ⟨a,0,by simp,by simp,.inl (by simp)⟩
 |sl _ _ _ _ cap L hm h1 h2 h3 =>
  rcases h with ⟨_,hn⟩|⟨L',vs,h4,h5,h6,h7⟩
  ·rw [hn] at hm;cases hm
  ·rw [h4] at hm; cases hm
   have hl:((xs.drop lo).take n).length=n:=by simp;omega
   refine ⟨some ⟨L.b,L.ba+lo * t.sz,none⟩,cap,by rw [hl],by rw [hl];exact h1,.inr ⟨_,_,(vs.drop (lo * t.sz)).take (n * t.sz),rfl,h5.sub _ _,?_⟩⟩
   exact (h6.drop (fun _ _=>ak.length) lo).take (fun _ _=>ak.length) n
theorem jW : ∀ {t : Ty} {bl : ai} {cs : List V} {x : t.den} {u : dU} {r : List V}, bQ (bM c1 c2 c3 c4 c5 c6 c7) bl t cs = some (x, u, r) → jo bl u
 | .unit,bl,cs,x,u,r,h=>by simp [bQ] at h;obtain ⟨rfl,rfl⟩:=h;exact .nil
 | .bool,bl,cs,x,u,r,h=>by
  cases cs with
  |nil=>simp [bQ] at h
  |cons v r'=>cases v<;>simp [bQ] at h<;>(obtain ⟨rfl,rfl,rfl⟩:=h;exact .nil)
 | .str,bl,cs,x,u,r,h=>by
  cases cs with
  |nil=>simp [bQ] at h
  |cons v r'=>cases v<;>simp [bQ] at h<;>(obtain ⟨rfl,rfl,rfl⟩:=h;exact .nil)
 | .int k,bl,cs,x,u,r,h=>by
  cases cs with
  |nil=>simp [bQ] at h
  |cons v r'=>cases v<;>simp [bQ] at h<;>(obtain ⟨rfl,rfl,rfl,rfl⟩:=h;exact .nil)
 | .list t,bl,cs,x,u,r,h=>by
  cases cs with
  |nil=>simp [bQ] at h
  |cons v r' =>
   cases v<;>simp only [bQ] at h<;>try (simp at h;done)
   case eG t' zs=>split at h<;>cases h;exact .nil
   case bA=>cases h;exact .nil
   case sl id t' lo n =>
    split at h
    ·rename_i t'' zs fz hb
     split at h
     ·split at h
      ·cases h
       intro e he;simp at he;subst he
       exact ⟨id,_,zs,fz,rfl,hb⟩
      ·cases h
     ·cases h
    ·cases h
 | .prod a b,bl,cs,x,u,r,h=>by
  simp only [bQ] at h
  split at h
  ·rename_i x1 u1 r1 h1
   split at h
   ·rename_i x2 u2 r2 h2
    cases h
    exact (jW h1).append (jW h2)
   ·cases h
  ·cases h
 | .bU d g t,bl,cs,x,u,r,h=>by
  cases cs with
  |nil=>simp [bQ] at h
  |cons v r' =>
   cases v<;>simp only [bQ] at h<;>try (simp at h;done)
   case bU d' v' =>
    split at h
    ·split at h
     ·split at h
      ·cases h;exact .nil
      ·cases h
     ·cases h
    ·cases h
theorem CT {ι:aB} {g:Bool} {v:V} {cs:List V} {x:Value} (h:AO g v=some cs) (hr:Rel ι μ v x):∃xs,aR ι μ cs xs/\iJ g xs=some x:=by
 cases g with
 |true =>
  cases v<;>simp [AO] at h
  subst h
  cases hr with
  |agg _ xs h1 h2 h3=>exact ⟨xs.toList,⟨by simpa using h1,fun i v x hv hx=>h2 i v x hv (by simpa using hx)⟩,by simp [iJ]⟩
 |false =>
  have:cs=[v]:=by cases v<;>simp_all [AO,V.cells?]
  subst this
  exact ⟨[x],.cons hr .nil,rfl⟩
theorem jq:∀{ι:aB} {t:Ty} {bl:ai} {cs:List V} {x:t.den} {u:dU} {r:List V} {xs:List Value},bQ (bM c1 c2 c3 c4 c5 c6 c7) bl t cs=some (x,u,r)->aR ι μ cs xs ->
  jo bl u/\∀ι',ι.le ι'->HB ι' μ u->∃us ws,xs=us++ws/\ak ι' t x us/\aR ι' μ r ws
 |ι,.unit,bl,cs,x,u,r,xs,h,hr=>by
  simp [bQ] at h;obtain ⟨rfl,rfl⟩:=h
  exact ⟨.nil,fun ι' hi _=>⟨[],xs,rfl,rfl,hr.mono hi (Mu.le_refl _)⟩⟩
 |ι,.bool,bl,cs,x,u,r,xs,h,hr=>by
  cases cs with
  |nil=>simp [bQ] at h
  |cons v r' =>
   cases v<;>simp [bQ] at h
   all_goals
    obtain ⟨rfl,rfl,rfl⟩:=h
    obtain ⟨y,ys,rfl,h1,h2⟩:=hr.cA
    cases h1
    exact ⟨.nil,fun ι' hi _=>⟨[_],ys,rfl,rfl,h2.mono hi (Mu.le_refl _)⟩⟩
 |ι,.str,bl,cs,x,u,r,xs,h,hr=>by
  cases cs with
  |nil=>simp [bQ] at h
  |cons v r' =>
   cases v<;>simp [bQ] at h
   all_goals
    obtain ⟨rfl,rfl,rfl⟩:=h
    obtain ⟨y,ys,rfl,h1,h2⟩:=hr.cA
    cases h1
    exact ⟨.nil,fun ι' hi _=>⟨[_],ys,rfl,rfl,h2.mono hi (Mu.le_refl _)⟩⟩
 |ι,.int k,bl,cs,x,u,r,xs,h,hr=>by
  cases cs with
  |nil=>simp [bQ] at h
  |cons v r' =>
   cases v<;>simp [bQ] at h
   all_goals
    obtain ⟨rfl,rfl,rfl,rfl⟩:=h
    obtain ⟨y,ys,rfl,h1,h2⟩:=hr.cA
    cases h1
    exact ⟨.nil,fun ι' hi _=>⟨[_],ys,rfl,rfl,h2.mono hi (Mu.le_refl _)⟩⟩
 |ι,.list t,bl,cs,x,u,r,xs,h,hr=>by
  cases cs with
  |nil=>simp [bQ] at h
  |cons v r' =>
   obtain ⟨y,ys,rfl,h1,h2⟩:=hr.cA
   cases v<;>simp only [bQ] at h<;>try (simp at h;done)
   case eG t' zs =>
    split at h
    ·rename_i zs' hc; cases h
     obtain ⟨e,hz⟩:=dn hc
     subst e;subst hz
     cases h1 with
     |eG _ _ _ hd=>exact ⟨.nil,fun ι' hi _=>⟨[y],ys,rfl,ak.mono hi hd,h2.mono hi (Mu.le_refl _)⟩⟩
    ·cases h
   case bA =>
    cases h
    cases h1 with
    |bA=>exact ⟨.nil,fun ι' hi _=>⟨[_],ys,rfl,⟨none,0,rfl,Nat.le_refl _,.inl rfl⟩,h2.mono hi (Mu.le_refl _)⟩⟩
   case sl id t' lo n =>
    split at h
    ·rename_i t'' zs fz hb
     split at h
     ·rename_i e; subst e
      split at h
      ·rename_i zs' hc; cases h
       obtain ⟨e,hz⟩:=dn hc
       subst e;subst hz
       refine ⟨fun e he=>?_,fun ι' hi hf=>⟨[y],ys,rfl,(hf id _ zs' (by simp)).slice h1,h2.mono hi (Mu.le_refl _)⟩⟩
       simp at he;subst he
       exact ⟨id,_,zs',fz,rfl,hb⟩
      ·cases h
     ·cases h
    ·cases h
 |ι,.prod a b,bl,cs,x,u,r,xs,h,hr=>by
  simp only [bQ] at h
  split at h
  ·rename_i x1 u1 r1 h1
   split at h
   ·rename_i x2 u2 r2 h2
    cases h
    obtain ⟨z1,f1⟩:=jq h1 hr
    have z2:jo bl u2:=jW h2
    refine ⟨z1.append z2,fun ι' hi hf=>?_⟩
    obtain ⟨us,ws,rfl,hd,yS⟩:=f1 ι' hi hf.left
    obtain ⟨Ye,ws2,rfl,NJ,A3⟩:=(jq h2 yS).2 ι' (aB.le_refl _) hf.right
    exact ⟨us++Ye,ws2,by simp,⟨us,Ye,rfl,hd,NJ⟩,A3⟩
   ·cases h
  ·cases h
 |ι,.bU d g t,bl,cs,x,u,r,xs,h,hr=>by
  cases cs with
  |nil=>simp [bQ] at h
  |cons v r' =>
   obtain ⟨y,ys,rfl,h1,h2⟩:=hr.cA
   cases v<;>simp only [bQ] at h<;>try (simp at h;done)
   case bU d' v' =>
    split at h
    ·rename_i e; subst e
     split at h
     ·rename_i cs hun
      split at h
      ·rename_i x0 ho
       cases h
       cases h1 with
       |bU _ _ z hz =>
        obtain ⟨zs,r1,r2⟩:=CT hun hz
        obtain ⟨_,f1⟩:=jq ho r1
        refine ⟨.nil,fun ι' hi hf=>⟨[_],ys,rfl,?_,h2.mono hi (Mu.le_refl _)⟩⟩
        obtain ⟨us,ws,e1,hd,yS⟩:=f1 ι' hi (fun _ _ _ hm=>by cases hm)
        rw [yS.of_nil,List.append_nil] at e1
        exact ⟨us,z,hd,by rw [<-e1];exact r2,rfl⟩
      ·cases h
     ·cases h
    ·cases h
theorem rC : ∀ {t : Ty} {bl : ai} {cs : List V} {x : t.den} {u : dU} {r : List V}, bQ (bM c1 c2 c3 c4 c5 c6 c7) bl t cs = some (x, u, r) → cs.length = t.sz + r.length
 | .unit,bl,cs,x,u,r,h=>by simp [bQ] at h;obtain ⟨_,rfl⟩:=h;simp [Ty.sz]
 | .bool,bl,cs,x,u,r,h=>by
  cases cs with
  |nil=>simp [bQ] at h
  |cons v r'=>cases v<;>simp [bQ] at h<;>(obtain ⟨_,_,rfl⟩:=h;simp [Ty.sz];omega)
 | .str,bl,cs,x,u,r,h=>by
  cases cs with
  |nil=>simp [bQ] at h
  |cons v r'=>cases v<;>simp [bQ] at h<;>(obtain ⟨_,_,rfl⟩:=h;simp [Ty.sz];omega)
 | .int k,bl,cs,x,u,r,h=>by
  cases cs with
  |nil=>simp [bQ] at h
  |cons v r'=>cases v<;>simp [bQ] at h<;>(obtain ⟨_,_,_,rfl⟩:=h;simp [Ty.sz];omega)
 | .list t,bl,cs,x,u,r,h=>by
  cases cs with
  |nil=>simp [bQ] at h
  |cons v r' =>
   cases v<;>simp only [bQ] at h<;>try (simp at h;done)
   case eG t' zs=>split at h<;>cases h;simp [Ty.sz];omega
   case bA=>cases h;simp [Ty.sz];omega
   case sl id t' lo n =>
    split at h
    ·split at h
     ·split at h
      ·cases h;simp [Ty.sz];omega
      ·cases h
     ·cases h
    ·cases h
 | .prod a b,bl,cs,x,u,r,h=>by
  simp only [bQ] at h
  split at h
  ·rename_i x1 u1 r1 h1
   split at h
   ·rename_i x2 u2 r2 h2
    cases h
    have:=rC h1;have:=rC h2;simp only [Ty.sz];omega
   ·cases h
  ·cases h
 | .bU d g t,bl,cs,x,u,r,h=>by
  cases cs with
  |nil=>simp [bQ] at h
  |cons v r' =>
   cases v<;>simp only [bQ] at h<;>try (simp at h;done)
   case bU d' v' =>
    split at h
    ·split at h
     ·split at h
      ·cases h;simp [Ty.sz];omega
      ·cases h
     ·cases h
    ·cases h
theorem NK {t:Ty} {bl:ai} {cs:List V} {y:t.den} {u:dU} {x:Value} (h:bQ (bM c1 c2 c3 c4 c5 c6 c7) bl t cs=some (y,u,[])) (hr:aR ι μ cs x.cells.toList):x.cells.size=t.sz:=by
 have:=rC h;have:=hr.1;simp at *;omega
theorem rD:∀{t:Ty} {x:t.den} {p:List Bool} {t':Ty} {y:t'.den} {xs:List Value},pK t x p=some ⟨t',y⟩->ak ι t x xs ->
  ak ι t' y ((xs.drop (t.b7 p)).take t'.sz)/\t.b7 p+t'.sz<=t.sz/\t.qZ p=some t'
 |t,x,[],t',y,xs,h,hc=>by
  have:t=t'/\HEq x y:=by cases t<;>(simp [pK] at h;exact ⟨h.1,h.2⟩)
  obtain ⟨rfl,hy⟩:=this
  cases hy
  have h0:t.b7 []=0:=by cases t<;>rfl
  rw [h0]
  refine ⟨by simp [List.take_of_length_le (Nat.le_of_eq hc.length)];exact hc,by omega,by cases t<;>rfl⟩
 | .prod a b,x,false::p,t',y,xs,h,hc=>by
  simp only [pK] at h
  obtain ⟨us,ws,rfl,h1,h2⟩:=hc
  obtain ⟨h3,h4,h5⟩:=rD h h1
  refine ⟨?_,by simp only [Ty.b7,Ty.sz];omega,by simpa [Ty.qZ] using h5⟩
  have hl:=h1.length
  rw [Ty.b7,List.drop_append_of_le_length (by omega),List.take_append_of_le_length (by simp;omega)]
  exact h3
 | .prod a b,x,true::p,t',y,xs,h,hc=>by
  simp only [pK] at h
  obtain ⟨us,ws,rfl,h1,h2⟩:=hc
  obtain ⟨h3,h4,h5⟩:=rD h h2
  refine ⟨?_,by simp only [Ty.b7,Ty.sz];omega,by simpa [Ty.qZ] using h5⟩
  have hl:=h1.length
  rw [Ty.b7,<-hl,List.drop_append,List.drop_eq_nil_of_le (by omega)]
  simpa using h3
 | .unit,x,b::p,t',y,xs,h,hc=>by cases b<;>simp [pK] at h
 | .bool,x,b::p,t',y,xs,h,hc=>by cases b<;>simp [pK] at h
 | .str,x,b::p,t',y,xs,h,hc=>by cases b<;>simp [pK] at h
 | .int k,x,b::p,t',y,xs,h,hc=>by cases b<;>simp [pK] at h
 | .list k,x,b::p,t',y,xs,h,hc=>by cases b<;>simp [pK] at h
 | .bU _ _ _,x,b::p,t',y,xs,h,hc=>by cases b<;>simp [pK] at h
theorem oW : ∀ {t : Ty} {bl : ai} {x y : t.den} {p : List Bool} {vs : List V} {u : dU}, dz (bM c1 c2 c3 c4 c5 c6 c7) bl t x p vs = some (y, u) → jo bl u
 |t,bl,x,y,[],vs,u,h=>by
  have:bQ (bM c1 c2 c3 c4 c5 c6 c7) bl t vs=some (y,u,[]):=by
   cases t<;>(simp only [dz] at h;split at h<;>first|(cases h;assumption)|cases h)
  exact jW this
 | .prod a b,bl,x,y,false::p,vs,u,h=>by
  simp only [dz] at h
  split at h
  ·rename_i h';cases h;exact oW h'
  ·cases h
 | .prod a b,bl,x,y,true::p,vs,u,h=>by
  simp only [dz] at h
  split at h
  ·rename_i h';cases h;exact oW h'
  ·cases h
 | .unit,bl,x,y,b::p,vs,u,h=>by cases b<;>simp [dz] at h
 | .bool,bl,x,y,b::p,vs,u,h=>by cases b<;>simp [dz] at h
 | .str,bl,x,y,b::p,vs,u,h=>by cases b<;>simp [dz] at h
 | .int k,bl,x,y,b::p,vs,u,h=>by cases b<;>simp [dz] at h
 | .list k,bl,x,y,b::p,vs,u,h=>by cases b<;>simp [dz] at h
 | .bU _ _ _,bl,x,y,b::p,vs,u,h=>by cases b<;>simp [dz] at h
theorem nT:∀{t:Ty} {bl:ai} {x y:t.den} {p:List Bool} {vs:List V} {u:dU} {us xs:List Value},dz (bM c1 c2 c3 c4 c5 c6 c7) bl t x p vs=some (y,u) ->
  aR ι μ vs us->ι.le ι'->HB ι' μ u->ak ι' t x xs->t.b7 p+us.length<=t.sz/\ak ι' t y (xs.take (t.b7 p)++us++xs.drop (t.b7 p+us.length))
 |t,bl,x,y,[],vs,u,us,xs,h,hr,hi,hf,hc=>by
  have:bQ (bM c1 c2 c3 c4 c5 c6 c7) bl t vs=some (y,u,[]):=by
   cases t<;>(simp only [dz] at h;split at h<;>first|(cases h;assumption)|cases h)
  obtain ⟨us',ws,rfl,h1,h2⟩:=(jq this hr).2 ι' hi hf
  rw [h2.of_nil]
  have h0:t.b7 []=0:=by cases t<;>rfl
  have hl:=h1.length
  rw [h0]
  refine ⟨by simp;omega,?_⟩
  rw [List.drop_eq_nil_of_le (by simp;have:=hc.length;omega)]
  simpa using h1
 | .prod a b,bl,x,y,false::p,vs,u,us,xs,h,hr,hi,hf,hc=>by
  simp only [dz] at h
  split at h
  ·rename_i y1 u1 h'
   cases h
   obtain ⟨as,bs,rfl,h1,h2⟩:=hc
   obtain ⟨h3,h4⟩:=nT h' hr hi hf h1
   have hl:=h1.length
   refine ⟨by simp only [Ty.b7,Ty.sz];omega,_,bs,?_,h4,h2⟩
   rw [Ty.b7,List.take_append_of_le_length (by omega),List.drop_append_of_le_length (by omega)]
   simp
  ·cases h
 | .prod a b,bl,x,y,true::p,vs,u,us,xs,h,hr,hi,hf,hc=>by
  simp only [dz] at h
  split at h
  ·rename_i y1 u1 h'
   cases h
   obtain ⟨as,bs,rfl,h1,h2⟩:=hc
   obtain ⟨h3,h4⟩:=nT h' hr hi hf h2
   have hl:=h1.length
   refine ⟨by simp only [Ty.b7,Ty.sz];omega,as,_,?_,h1,h4⟩
   rw [Ty.b7,<-hl,List.take_append,List.take_of_length_le (by omega),List.drop_append,List.drop_eq_nil_of_le (by omega)]
   simp [show as.length+b.b7 p+us.length - as.length=b.b7 p+us.length by omega]
  ·cases h
 | .unit,bl,x,y,b::p,vs,u,us,xs,h,hr,hi,hf,hc=>by cases b<;>simp [dz] at h
 | .bool,bl,x,y,b::p,vs,u,us,xs,h,hr,hi,hf,hc=>by cases b<;>simp [dz] at h
 | .str,bl,x,y,b::p,vs,u,us,xs,h,hr,hi,hf,hc=>by cases b<;>simp [dz] at h
 | .int k,bl,x,y,b::p,vs,u,us,xs,h,hr,hi,hf,hc=>by cases b<;>simp [dz] at h
 | .list k,bl,x,y,b::p,vs,u,us,xs,h,hr,hi,hf,hc=>by cases b<;>simp [dz] at h
 | .bU _ _ _,bl,x,y,b::p,vs,u,us,xs,h,hr,hi,hf,hc=>by cases b<;>simp [dz] at h
theorem iM.le (hi:ι.le ι') {u:dU} (h:HB ι μ u):HB ι' μ u:=fun id t xs hm=>(h id t xs hm).mono hi
theorem we {t:Ty} {bl:ai}:∀{ι:aB} {n:Nat} {vs:List V} {ys:List t.den} {u:dU} {xs:List Value},lY (bM c1 c2 c3 c4 c5 c6 c7) bl t n vs=some (ys,u)->aR ι μ vs xs ->
  jo bl u/\ys.length=n/\vs.length=n * t.sz/\∀ι',ι.le ι'->HB ι' μ u->bS (ak ι' t) ys xs
 |ι,0,vs,ys,u,xs,h,hr=>by
  cases vs with
  |nil=>simp [lY] at h;obtain ⟨rfl,rfl⟩:=h;exact ⟨.nil,rfl,by simp,fun _ _ _=>hr.of_nil⟩
  |cons v r=>simp [lY] at h
 |ι,n+1,vs,ys,u,xs,h,hr=>by
  simp only [lY] at h
  split at h
  ·rename_i x u1 r h1
   split at h
   ·rename_i zs u2 h2
    cases h
    obtain ⟨z1,f1⟩:=jq h1 hr
    have z2:jo bl u2:=by
     have:∀{n:Nat} {vs:List V} {ys:List t.den} {u:dU},lY (bM c1 c2 c3 c4 c5 c6 c7) bl t n vs=some (ys,u)->jo bl u:=by
      intro n
      induction n with
      |zero=>intro vs ys u h;cases vs<;>simp [lY] at h;obtain ⟨_,rfl⟩:=h;exact .nil
      |succ n ih =>
       intro vs ys u h
       simp only [lY] at h
       split at h
       ·rename_i h1
        split at h
        ·rename_i h2;cases h;exact (jW h1).append (ih h2)
        ·cases h
       ·cases h
     exact this h2
    have hlen:zs.length=n/\r.length=n * t.sz:=by
     have:∀{n:Nat} {vs:List V} {ys:List t.den} {u:dU},lY (bM c1 c2 c3 c4 c5 c6 c7) bl t n vs=some (ys,u)->ys.length=n/\vs.length=n * t.sz:=by
      intro n
      induction n with
      |zero=>intro vs ys u h;cases vs<;>simp [lY] at h;obtain ⟨rfl,rfl⟩:=h;simp
      |succ n ih =>
       intro vs ys u h
       simp only [lY] at h
       split at h
       ·rename_i h1
        split at h
        ·rename_i h2; cases h
         obtain ⟨q1,q2⟩:=ih h2
         have:=rC h1
         exact ⟨by simp [q1],by rw [this,q2,Nat.add_mul,Nat.one_mul,Nat.add_comm]⟩
        ·cases h
       ·cases h
     exact this h2
    refine ⟨z1.append z2,by simp [hlen.1],by rw [rC h1,hlen.2,Nat.add_mul,Nat.one_mul,Nat.add_comm],fun ι' hi hf=>?_⟩
    obtain ⟨us,ws,rfl,hd,yS⟩:=f1 ι' hi hf.left
    exact ⟨us,ws,rfl,hd,(we h2 yS).2.2.2 ι' (aB.le_refl _) hf.right⟩
   ·cases h
  ·cases h
theorem CU {t : Ty} {xs : List t.den} {vs : List Value} (h : bS (ak ι t) xs vs) : ∀ {n i : Nat}, i + n = xs.length → aR ι μ (CM (bM c1 c2 c3 c4 c5 c6 c7) t xs n i) (vs.drop (i * t.sz))
 |0,i,e=>by
  have hl:=h.length (fun _ _=>ak.length)
  have:vs.drop (i * t.sz)=[]:=List.drop_eq_nil_of_le (by rw [hl,<-e];simp)
  rw [this];exact .nil
 |n+1,i,e=>by
  have hi:xs[i]?=some (xs.getD i t.zero):=by simp [List.getD,show i<xs.length by omega]
  have hc:=h.at (fun _ _=>ak.length) hi
  have ih:=CU h (n:=n) (i:=i+1) (by omega)
  have e1:vs.drop (i * t.sz)=(vs.drop (i * t.sz)).take t.sz++vs.drop ((i+1) * t.sz):=by
   rw [Nat.add_mul,Nat.one_mul,<-List.drop_drop,List.take_append_drop]
  rw [e1]
  exact (fE hc).append ih
theorem wg {t:Ty} {bl:ai}:∀{vs:List V} {ys:List t.den} {u:dU} {xs:List Value},sX (bM c1 c2 c3 c4 c5 c6 c7) bl t vs=some (ys,u)->aR ι μ vs xs ->
  jo bl u/\ys.length=vs.length/\(∀x∈xs,x.cells.size=t.sz)/\∀ι',ι.le ι'->HB ι' μ u->bS (ak ι' t) ys (xs.flatMap fun x=>x.cells.toList)
 |[],ys,u,xs,h,hr=>by
  cases h
  rw [hr.of_nil]
  exact ⟨.nil,rfl,by simp,fun ι' _ _=>rfl⟩
 |v::r,ys,u,xs,h,hr=>by
  unfold sX at h
  obtain ⟨x,xs',rfl,h1,h2⟩:=hr.cA
  split at h
  ·rename_i vs hvs
   obtain ⟨hc,_⟩:=h1.cells hvs
   split at h
   ·rename_i y u1 hy
    split at h
    ·rename_i ys' u2 hys
     cases h
     obtain ⟨a1,a2,a3,a4⟩:=wg hys h2
     have z1:=jW hy
     refine ⟨z1.append a1,by simp [a2],?_,fun ι' hi hf=>?_⟩
     ·intro x' hx'
      rcases List.mem_cons.1 hx' with rfl|hx'
      ·exact NK hy hc
      ·exact a3 x' hx'
     ·obtain ⟨us, ws, e, hd, hn⟩ := (jq hy hc).2 ι' hi hf.left
      have:=hn.of_nil;subst this
      exact ⟨us,_,by simp [e],hd,a4 ι' hi hf.right⟩
    ·cases h
   ·cases h
  ·cases h
end
end Go.AM
end
section
namespace Go.AM
section
variable {P : Program} {Y : Ctx} {ι ι' : aB} {μ μ' : Mu} {H : aO} {w w' : World}
 {c1:Nat->List V->aO->(V->aO->Prop)->Prop} {c2:Nat->List V->V->Prop} {c3:C->St->(Ex->St->Prop)->Prop}
 {c4:Nat->List V->aO->(V->aO->Prop)->Prop} {c5:O->List Nat->C->C->St->(Ex->St->Prop)->Prop} {c6:C->St->(Ex->St->Prop)->Prop} {c7:GC}
def qm (ob:List Bool):Prop:=∀b∈ob,b=true
def gD (l:Bool) (n aM:Nat):Nat:=match l with
 |true=>max n (aM+1)
 |false=>n
def Kv (P:Program) (Y:Ctx) (ι:aB) (μ:Mu) (H:aO) (w:World) (aM:Nat) (s:Sem Next) (v:V) (u:dU) (l:Bool):Prop :=
 ∃ι' μ' x w',(s.run P w = .ok (.value x) w'\/(s.run P w = .ok .skip w'/\x=undef))/\ι.le ι'/\μ.le μ'/\(∀id,id≠aM->μ' id=μ id) /\
  Inv P Y ι' μ' ⟨gD l H.next aM,bV u H.bl⟩ w'/\Rel ι' μ' v x
theorem Kv.pure (h:Inv P Y ι μ H w) {aM:Nat} {s:Sem Next} {v:V} {x:Value} (hs:s.run P w = .ok (.value x) w) (hr:Rel ι μ v x):Kv P Y ι μ H w aM s v [] false :=
 ⟨ι,μ,x,w,.inl hs,aB.le_refl _,Mu.le_refl _,fun _ _=>rfl,h,hr⟩
theorem Mu.tn {μ:Mu} {n:Nat} {L:Loc}:∀id,id≠n->μ.set n L id=μ id:=fun id h=>by unfold Mu.set;rw [if_neg h]
theorem A4 : ∀ (n : Nat) (r : List Nat), upTo n r = List.range n ++ r
 |0,r=>rfl
 |n+1,r=>by rw [upTo,A4 n,List.range_succ,List.append_assoc];rfl
theorem CV {f : Nat → Option V} : ∀ {ns : List Nat} {vs : List V}, AP f ns = some vs → ∀ (i : Nat) n, ns[i]? = some n → ∃ v, vs[i]? = some v ∧ f n = some v
 |[],vs,h,i,n,hi=>by simp at hi
 |m::ns,vs,h,i,n,hi=>by
  simp only [AP] at h
  split at h<;>try (cases h;done)
  rename_i v hv
  split at h<;>try (cases h;done)
  rename_i vs' hvs
  cases h
  cases i with
  |zero=>simp at hi;subst hi;exact ⟨v,rfl,hv⟩
  |succ i=>obtain ⟨u,hu,hf⟩:=CV hvs i n (by simpa using hi);exact ⟨u,by simpa using hu,hf⟩
theorem HC {k : IntKind} : ∀ {vs : List V} {ns : List Int}, asI k vs = some ns → ∀ (i : Nat) v, vs[i]? = some v → ∃ n, ns[i]? = some n ∧ v = .int k n
 |[],ns,h,i,v,hv=>by simp at hv
 |w::vs,ns,h,i,v,hv=>by
  simp only [asI] at h
  split at h<;>try (cases h;done)
  rename_i k' m
  split at h<;>try (cases h;done)
  rename_i e;subst e
  split at h<;>try (cases h;done)
  rename_i ns' hns
  cases h
  cases i with
  |zero=>simp at hv;subst hv;exact ⟨m,rfl,rfl⟩
  |succ i=>obtain ⟨n,hn,e⟩:=HC hns i v (by simpa using hv);exact ⟨n,by simpa using hn,e⟩
theorem NL {vs:List V} {j:Int} {v:V} (h:Nu (bM c1 c2 c3 c4 c5 c6 c7) vs j=some v) (hj:j.toNat<vs.length):vs[j.toNat]?=some v:=by
 simp only [Nu] at h
 split at h<;>try (cases h;done)
 rename_i k n r
 split at h<;>try (cases h;done)
 rename_i ns hns
 cases h
 have hx:(V.int k n::r)[j.toNat]?=some (V.int k n::r)[j.toNat]:=by simp
 have hall:asI k (V.int k n::r)=some (n::ns):=by simp [asI,hns]
 obtain ⟨m,hm,e⟩:=HC hall j.toNat _ hx
 rw [hx,e]
 congr 2
 show m=(n::ns).getD j.toNat 0
 simp only [List.getD,hm,Option.getD_some]
theorem CW {cs : List V} : ∀ {l : List (Nat × Nat × Int)} {o : Nat} {v : V}, CN (bM c1 c2 c3 c4 c5 c6 c7) cs l o = some v → (∀ x ∈ l, 0 ≤ x.2.2 ∧ x.2.2 < (x.2.1 : Int)) → cs[o + ke l]? = some v
 |[],o,v,h,_=>h
 |(eZ,len,j)::r,o,v,h,hb=>by
  simp only [CN] at h
  split at h<;>try (cases h;done)
  rename_i vs hvs
  have h0:=hb _ (List.mem_cons_self ..)
  simp only at h0
  have hlen:vs.length=len:=by
   have:∀{f:Nat->Option V} {ns:List Nat} {vs:List V},AP f ns=some vs->vs.length=ns.length:=by
    intro f ns
    induction ns with
    |nil=>intro vs h;cases h;rfl
    |cons n ns ih =>
     intro vs h
     simp only [AP] at h
     split at h<;>try (cases h;done)
     split at h<;>try (cases h;done)
     rename_i vs' hvs
     cases h
     simp [ih hvs]
   rw [this hvs,A4];simp
  have hv:=NL h (by omega)
  have hlt:j.toNat<len:=by omega
  have hr:(upTo len [])[j.toNat]?=some j.toNat:=by rw [A4,List.append_nil,List.getElem?_range hlt]
  obtain ⟨u,hu,hf⟩:=CV hvs _ _ hr
  rw [hu] at hv;cases hv
  have:=CW hf (fun x hx=>hb x (List.mem_cons_of_mem _ hx))
  rw [<-this]
  congr 1
  simp only [ke];omega
theorem SL {cs:List V} {o:Nat} {v:V} (h:cs[o]?=some v):cut o 1 cs=some [v]:=by
 have hl:=(List.getElem?_eq_some_iff.1 h).1
 have e:(cs.drop o).take 1=[v]:=by
  rw [List.drop_eq_getElem_cons hl]
  simp [(List.getElem?_eq_some_iff.1 h).2]
 unfold cut
 rw [if_pos (by omega),e]
theorem wh (h : Inv P Y ι μ H w) {env : List (Nat × V)} {t : TypeId} {g : Bool} {k : Nat} {x : O} {px : Value} {ob : List Bool} {v : V} {u : dU} {aM : Nat} (hk : dA P t = some k) (hg : sZ P t = some g)
  (hx:Rel ι μ (x.ev env) px) (aj:de (bM c1 c2 c3 c4 c5 c6 c7) (.load g k x) env H.bl aM=some (ob,v,u)) (cX:qm ob) :
  u=[]/\∃y,(Instr.loadAt t px).run P w = .ok y w/\Rel ι μ v y:=by
 have fin:∀{b o:Nat} {cs:List V} {vs:List Value},w.rangeAt b o vs->vs.length=k->aR ι μ cs vs->(∀u∈vs,u.oneCell'=true)->fQ g cs=some v ->
   ∃y,(Instr.loadAt t (.pointer (some ⟨b,o,none⟩))).run P w = .ok y w/\Rel ι μ v y:=fun hr hl hR h1 hw=>by
  obtain ⟨y,hy,hv⟩:=tj hw hR h1
  exact ⟨y,Fc hk hg hr hl hy,hv⟩
 simp only [de] at aj
 split at aj<;>try (cases aj;done)
 ·rename_i id off eF
  rw [eF] at hx
  split at aj<;>try (cases aj;done)
  rename_i cs fz hb
  split at aj<;>try (cases aj;done)
  rename_i vs' wj
  split at aj<;>try (cases aj;done)
  rename_i v' Kw
  cases aj
  obtain ⟨L,vs,hM,hR⟩:=h.live _ _ hb
  cases hx with
  |ptr _ _ L' hL =>
   rw [hM.mu] at hL;cases hL
   obtain ⟨r1,r2,r3⟩:=hR.rz wj
   exact ⟨rfl,fin (eX hM.rangeAt off k) (by rw [<-r1.1];exact r2) r1 (fun u hu=>hM.one u (List.mem_of_mem_drop (List.mem_of_mem_take hu))) Kw⟩
 ·rename_i cs eF
  rw [eF] at hx
  split at aj<;>try (cases aj;done)
  rename_i vs' wj
  split at aj<;>try (cases aj;done)
  rename_i v' Kw
  cases aj
  cases hx with
  |av _ b o gf h1 h2 h3 =>
   have hR:aR ι μ cs ((List.range cs.length).map gf):=⟨by simp,fun i v x hv hx=>by
    have hi:=(List.getElem?_eq_some_iff.1 hv).1
    simp [hi] at hx;subst hx;exact h2 i v hv⟩
   have Sh:w.rangeAt b o ((List.range cs.length).map gf):=fun j v hv=>by
    have hj:j<cs.length:=by have:=(List.getElem?_eq_some_iff.1 hv).1;simpa using this
    simp [hj] at hv;subst hv;exact h.rd _ _ _ (h1 j hj)
   obtain ⟨r1,r2,r3⟩:=hR.rz wj
   have:=eX Sh 0 k
   exact ⟨rfl,fin this (by rw [<-r1.1];exact r2) r1 (fun u hu=>by
    have hu:=List.mem_of_mem_drop (List.mem_of_mem_take hu)
    obtain ⟨i,_,rfl⟩:=List.mem_map.1 hu;exact h3 i) Kw⟩
 ·rename_i id te i p eF
  rw [eF] at hx
  split at aj<;>try (cases aj;done)
  case h_2 =>
   rename_i t' xs i' p' v' hb
   split at aj<;>try (cases aj;done)
   rename_i e;obtain ⟨rfl,rfl,rfl⟩:=e
   split at aj<;>try (cases aj;done)
   cases aj
   have hii:i=i':=by
    have:=cX _ (List.mem_singleton.2 rfl)
    simp [bM] at this;omega
   subst hii
   obtain ⟨L,us,vs,c,hM,hR,hl,h1,h2,h3,h4⟩:=h.live _ _ hb
   cases hx with
   |ep _ _ _ _ L' hL =>
    rw [hM.mu] at hL;cases hL
    have hlt:i * te.sz+te.b7 p<vs.length:=by rw [h3];simpa using h2
    have hc:vs[i * te.sz+te.b7 p]?=some c:=by rw [h3];simp [h2]
    have wj:(vs.drop (i * te.sz+te.b7 p)).take 1=[c]:=by
     rw [List.drop_eq_getElem_cons hlt]
     simp [(List.getElem?_eq_some_iff.1 hc).2]
    have yS:=eX hM.rangeAt (i * te.sz+te.b7 p) 1
    rw [wj] at yS
    have:=fin yS rfl (aR.cons h4 aR.nil) (fun u hu=>by
     rw [List.mem_singleton.1 hu]
     exact hM.one c (List.mem_of_getElem? hc)) (show fQ false [v]=some v from rfl)
    rw [<-Nat.add_assoc] at this
    exact ⟨rfl,this⟩
  rename_i t' xs fz hb
  split at aj<;>try (cases aj;done)
  rename_i e;subst e
  split at aj<;>try (cases aj;done)
  rename_i t2 y nU
  split at aj<;>try (cases aj;done)
  rename_i hlen
  split at aj<;>try (cases aj;done)
  rename_i v' Kw
  cases aj
  have hi:i<xs.length:=by simpa using cX _ (List.mem_singleton.2 rfl)
  rcases h.live _ _ hb with ⟨rfl,_⟩|⟨L,vs,hM,hR,hl⟩
  ·simp at hi
  ·cases hx with
   |ep _ _ _ _ L' hL =>
    rw [hM.mu] at hL;cases hL
    have Fe:xs[i]?=some (xs.getD i te.zero):=by simp [List.getD,hi]
    have hc:=hR.at (fun _ _=>ak.length) Fe
    obtain ⟨g1,g2,_⟩:=rD nU hc
    have yS:=eX hM.rangeAt (i * te.sz) te.sz
    have A3:=eX yS (te.b7 p) t2.sz
    have wk:=fE (μ:=μ) g1
    exact ⟨rfl,fin A3 (by rw [<-wk.1];exact hlen) wk (ak.one g1) Kw⟩
 ·rename_i ti y eF
  rw [eF] at hx
  split at aj<;>try (cases aj;done)
  rename_i hlen
  split at aj<;>try (cases aj;done)
  rename_i v' Kw
  cases aj
  cases hx with
  |ip _ _ b o us h1 h2 =>
   have wk:=fE (μ:=μ) h2
   exact ⟨rfl,fin (h1.rangeAt h.rd) (by rw [<-wk.1];exact hlen) wk (ak.one h2) Kw⟩
 ·rename_i id te m eF
  rw [eF] at hx
  split at aj<;>try (cases aj;done)
  rename_i t' xs fz hb
  split at aj<;>try (cases aj;done)
  rename_i e;subst e
  split at aj<;>try (cases aj;done)
  rename_i hlen
  split at aj<;>try (cases aj;done)
  rename_i v' Kw
  cases aj
  cases hx with
  |pa _ _ _ L' hL hm =>
   rcases h.live _ _ hb with ⟨rfl,hn⟩|⟨L,vs,hM,hR,hl⟩
   ·rw [hn] at hL;cases hL
   ·rw [hM.mu] at hL; cases hL
    have wk:=CU (μ:=μ) (c1:=c1) (c2:=c2) (c3:=c3) (c4:=c4) (c5:=c5) (c6:=c6) (c7:=c7) hR (n:=m) (i:=0) (by omega)
    simp only [Nat.zero_mul,List.drop_zero] at wk
    exact ⟨rfl,fin hM.rangeAt (by rw [<-wk.1];exact hlen) wk hM.one Kw⟩
 ·rename_i id o l eF
  rw [eF] at hx
  split at aj<;>try (cases aj;done)
  rename_i cs fz hb
  split at aj<;>try (cases aj;done)
  split at aj<;>try (cases aj;done)
  rename_i v1 hga
  split at aj<;>try (cases aj;done)
  rename_i v' Kw
  cases aj
  obtain ⟨L,vs,hM,hR⟩:=h.live _ _ hb
  cases hx with
  |sp _ _ _ L' hL hbn =>
   rw [hM.mu] at hL;cases hL
   have wj:cut (o+ke l) 1 cs=some [v1]:=SL (CW hga hbn)
   obtain ⟨r1,r2,r3⟩:=hR.rz wj
   exact ⟨rfl,fin (eX hM.rangeAt (o+ke l) 1) (by rw [<-r1.1];exact r2) r1 (fun u hu=>hM.one u (List.mem_of_mem_drop (List.mem_of_mem_take hu))) Kw⟩
theorem ef : ∀ (u v : dU) (bl : ai), bV (u ++ v) bl = bV v (bV u bl)
 |[],v,bl=>rfl
 |(id,none)::r,v,bl=>ef r v _
 |(id,some b)::r,v,bl=>ef r v _
theorem jo.aq : ∀ {u : dU} {bl : ai} {id : Nat} {t : Ty} {xs : List t.den} {fz : Bool}, jo bl u → aq id bl = some (.arr t xs fz) → ∃ Yf, aq id (bV u bl) = some (.arr t xs Yf)
 |[],bl,id,t,xs,fz,_,h=>⟨fz,h⟩
 |e::r,bl,id,t,xs,fz,hz,h=>by
  obtain ⟨W0,t1,xs1,fz1,rfl,hb⟩:=hz e List.mem_cons_self
  have ql:jo ((W0,.arr t1 xs1 true)::cB W0 bl) r:=fun e he=>by
   obtain ⟨yM,t2,Yd,fz2,rfl,iw⟩:=hz e (List.mem_cons_of_mem _ he)
   by_cases hid:yM=W0
   ·subst hid
    rw [hb] at iw;cases iw
    exact ⟨yM,t1,xs1,true,rfl,by rw [bx,if_pos rfl]⟩
   ·exact ⟨yM,t2,Yd,fz2,rfl,by rw [bx,if_neg hid];exact iw⟩
  by_cases hid:id=W0
  ·subst hid
   rw [hb] at h;cases h
   simp only [bV]
   exact jo.aq (fz:=true) ql (by rw [bx,if_pos rfl])
  ·simp only [bV]
   exact jo.aq ql (by rw [bx,if_neg hid];exact h)
theorem jo.kq : ∀ {u : dU} {bl : ai} {id : Nat}, jo bl u → (∀ e ∈ u, e.1 ≠ id) → AM.aq id (bV u bl) = AM.aq id bl
 |[],bl,id,_,_=>rfl
 |e::r,bl,id,hz,h=>by
  obtain ⟨W0,t1,xs1,fz1,rfl,hb⟩:=hz e List.mem_cons_self
  have ql:jo ((W0,.arr t1 xs1 true)::cB W0 bl) r:=fun e he=>by
   obtain ⟨yM,t2,Yd,fz2,rfl,iw⟩:=hz e (List.mem_cons_of_mem _ he)
   by_cases hid:yM=W0
   ·subst hid
    rw [hb] at iw;cases iw
    exact ⟨yM,t1,xs1,true,rfl,by rw [bx,if_pos rfl]⟩
   ·exact ⟨yM,t2,Yd,fz2,rfl,by rw [bx,if_neg hid];exact iw⟩
  have:=jo.kq ql (fun e he=>h e (List.mem_cons_of_mem _ he))
  simp only [bV]
  rw [this,bx,if_neg (fun e=>h _ List.mem_cons_self e.symm)]
theorem zB (h:Inv P Y ι μ H w) {aM:Nat} (hn:μ aM=none) {cs:List V} {xs:List Value} (hr:aR ι μ cs xs) (h1:∀u∈xs,u.oneCell'=true) (e:TypeId) :
  ∃μ',μ.le μ'/\(∀id,id≠aM->μ' id=μ id)/\Inv P Y ι μ' ⟨max H.next (aM+1),(aM,.cells cs false)::cB aM H.bl⟩ (w.alloc (.cells xs.toArray e))/\Rel ι μ' (.ptr aM 0) (.pointer (some ⟨w.heap.size,0,none⟩)):=by
 let L:Loc:=⟨w.heap.size,0,xs.length,0⟩
 have hle:=Mu.iQ (L:=L) hn
 have jS:μ.set aM L aM=some L:=by simp [Mu.set]
 have hfree:∀o,ι w.heap.size o=none:=fun o=>by
  cases yR:ι w.heap.size o with
  |none=>rfl
  |some y=>have:=World.block_lt_of_cell? _ _ (h.rd _ _ _ yR);simp at this
 refine ⟨_,hle,Mu.tn,h.lay hn (L:=L) rfl ⟨L,xs,⟨jS,(.inl h.below.size),⟨xs.toArray,e,?_,by simp [L],fun j v hv=>by simpa [L] using hv⟩,by simp [L],h1,(fun e=>by cases e),fun _=>hfree⟩,hr.mono (aB.le_refl _) hle⟩,.ptr _ _ L jS⟩
 show (w.heap.push _)[w.heap.size]?=_
 simp
theorem vn (h:Inv P Y ι μ H w) {aM:Nat} (hn:μ aM=none) {t:Ty} {ys:List t.den} {xs rest:List Value} (hr:bS (ak ι t) ys xs) (e:TypeId) (cap:Nat) (hc:ys.length<=cap) (hcap:cap * t.sz<=xs.length+rest.length) :
  ∃μ',μ.le μ'/\(∀id,id≠aM->μ' id=μ id)/\Inv P Y ι μ' ⟨max H.next (aM+1),(aM,.arr t ys false)::cB aM H.bl⟩ (w.alloc (.cells (xs++rest).toArray e)) /\
   Rel ι μ' (.sl aM t 0 ys.length) (.slice (some ⟨w.heap.size,0,none⟩) ys.length cap):=by
 let L:Loc:=⟨w.heap.size,0,xs.length+rest.length,ys.length⟩
 have hle:=Mu.iQ (L:=L) hn
 have jS:μ.set aM L aM=some L:=by simp [Mu.set]
 have hfree:∀o,ι w.heap.size o=none:=fun o=>by
  cases yR:ι w.heap.size o with
  |none=>rfl
  |some y=>have:=World.block_lt_of_cell? _ _ (h.rd _ _ _ yR);simp at this
 refine ⟨_,hle,Mu.tn,h.lay hn (L:=L) rfl (.inr ⟨L,xs,⟨jS,(.inl h.below.size),⟨(xs++rest).toArray,e,?_,by simp [L],fun j v hv=>?_⟩,by simp [L],
  bS.one (fun _ _=>ak.one) hr,(fun e=>by cases e),fun _=>hfree⟩,hr,rfl⟩),?_⟩
 ·show (w.heap.push _)[w.heap.size]? = _
  simp
 ·have := (List.getElem?_eq_some_iff.1 hv).1
  simp only [L,Nat.zero_add,List.getElem?_toArray]
  rw [List.getElem?_append_left this];exact hv
 ·have := Rel.sl (ι := ι) (μ := μ.set aM L) aM t 0 ys.length cap L jS hc (by simpa [L] using hcap) (by simp [L])
  simpa [L] using this
end
end Go.AM
end
section
namespace Go.AM
section
variable {P : Program} {Y : Ctx} {ι ι' : aB} {μ μ' : Mu} {H : aO} {w w' : World}
 {c1:Nat->List V->aO->(V->aO->Prop)->Prop} {c2:Nat->List V->V->Prop} {c3:C->St->(Ex->St->Prop)->Prop}
 {c4:Nat->List V->aO->(V->aO->Prop)->Prop} {c5:O->List Nat->C->C->St->(Ex->St->Prop)->Prop} {c6:C->St->(Ex->St->Prop)->Prop} {c7:GC}
theorem splice {α:Type} (ws us:List α) (a o sz:Nat) (h:o+us.length<=sz) :
  ws.take a++(((ws.drop a).take sz).take o++us++((ws.drop a).take sz).drop (o+us.length))++ws.drop (a+sz)=ws.take (a+o)++us++ws.drop (a+o+us.length):=by
 have h1:ws.take a++((ws.drop a).take sz).take o=ws.take (a+o):=by
  rw [List.take_take,Nat.min_eq_left (by omega),List.take_add]
 have h2:((ws.drop a).take sz).drop (o+us.length)++ws.drop (a+sz)=ws.drop (a+o+us.length):=by
  rw [List.drop_take,List.drop_drop,show ws.drop (a+sz)=(ws.drop (a+(o+us.length))).drop (sz - (o+us.length)) by rw [List.drop_drop];congr 1;omega,
   List.take_append_drop]
  congr 1;omega
 simp only [List.append_assoc]
 rw [<-List.append_assoc (ws.take a),h1,h2]
theorem nV {id : Nat} : ∀ {u : dU}, rq id u = true → ∀ e ∈ u, e.1 ≠ id
 |[],_,e,h=>by cases h
 |(s,b)::r,h,e,he=>by
  unfold rq at h
  split at h
  ·cases h
  ·rename_i hs
   rcases List.mem_cons.1 he with rfl|he
   ·intro e;simp only at e;subst e;rw [Nat.beq_refl] at hs;cases hs
   ·exact nV h e he
theorem CX (h : Inv P Y ι μ H w) {env : List (Nat × V)} {t : TypeId} {k : Nat} {x a : O} {vx pa : Value} {ob : List Bool} {v : V} {u : dU} {aM : Nat} (hk : dA P t = some k)
  (hx:Rel ι μ (x.ev env) vx) (ha:Rel ι μ (a.ev env) pa) (aj:de (bM c1 c2 c3 c4 c5 c6 c7) (.store k a x) env H.bl aM=some (ob,v,u)) (cX:qm ob) :
  ∃ι' w',(Instr.storeAt t pa vx).run P w = .ok () w'/\ι.le ι'/\Inv P Y ι' μ ⟨H.next,bV u H.bl⟩ w'/\v = .any:=by
 simp only [de] at aj
 split at aj<;>try (cases aj;done)
 rename_i vs hvs
 obtain ⟨hc,h1⟩:=hx.cells hvs
 split at aj<;>try (cases aj;done)
 rename_i hlen
 have hsz:vx.cells.size=k:=by have:=hc.1;simp at this;omega
 split at aj<;>try (cases aj;done)
 ·rename_i id off SM
  rw [SM] at ha
  split at aj<;>try (cases aj;done)
  rename_i cs hb
  split at aj<;>try (cases aj;done)
  rename_i cs' iH
  cases aj
  obtain ⟨L,ws,hM,hR⟩:=h.live _ _ hb
  cases ha with
  |ptr _ _ L' hL =>
   rw [hM.mu] at hL;cases hL
   obtain ⟨hle,fU⟩:=oV iH hR hc
   have hf:=hM.fits
   have hl:vx.cells.toList.length=k:=by simpa using hsz
   refine ⟨ι,_,gZ hk (hM.there (by omega) (by omega)) hsz h1,aB.le_refl _,?_,rfl⟩
   exact h.store hb hM.mu (hM.qk rfl) ⟨L,_,hM.write hle h1,fU⟩
 ·rename_i id te i p SM
  rw [SM] at ha
  split at aj<;>try (cases aj;done)
  rename_i t' xs hb
  split at aj<;>try (cases aj;done)
  rename_i e;subst e
  split at aj<;>try (cases aj;done)
  rename_i y u0 iH
  split at aj<;>try (cases aj;done)
  rename_i hni
  cases aj
  have hi:i<xs.length:=by simpa using cX _ (List.mem_singleton.2 rfl)
  have hz:=oW iH
  obtain ⟨ι',hle,hI,hF⟩:=iS hz h
  have hb':aq id (bV u0 H.bl)=some (.arr te xs false):=by rw [hz.kq (nV hni)];exact hb
  rcases hI.live _ _ hb' with ⟨rfl,_⟩|⟨L,ws,hM,hR,hl⟩
  ·simp at hi
  ·cases ha with
   |ep _ _ _ _ L' hL =>
    rw [hM.mu] at hL;cases hL
    have Fe:xs[i]?=some (xs.getD i te.zero):=by simp [List.getD,hi]
    have hcell:=hR.at (fun _ _=>ak.length) Fe
    obtain ⟨g1,g2⟩:=nT iH hc hle hF hcell
    have hwl:=hR.length (fun _ _=>ak.length)
    have hf:=hM.fits
    have hll:vx.cells.toList.length=k:=by simpa using hsz
    have hmul:i * te.sz+te.sz<=xs.length * te.sz:=by
     have:=Nat.mul_le_mul_right te.sz (show i+1<=xs.length from hi)
     rwa [Nat.add_mul,Nat.one_mul] at this
    refine ⟨ι',_,gZ hk (hM.there (by omega) (by omega)) hsz h1,hle,?_,rfl⟩
    rw [ef]
    have hw:=hM.write (d:=i * te.sz+te.b7 p) (us:=vx.cells.toList) (by omega) h1
    rw [<-Nat.add_assoc] at hw
    refine hI.store hb' hM.mu (hM.qk rfl) (.inr ⟨L,_,hw,?_,by simpa using hl⟩)
    have uI:=hR.set (fun _ _=>ak.length) hi g2
    have hsp:=splice ws vx.cells.toList (i * te.sz) (te.b7 p) te.sz g1
    rw [show (i+1) * te.sz=i * te.sz+te.sz by rw [Nat.add_mul,Nat.one_mul],hsp] at uI
    exact uI
 ·rename_i id te m SM
  rw [SM] at ha
  split at aj<;>try (cases aj;done)
  rename_i t' xs hb
  split at aj<;>try (cases aj;done)
  rename_i e;subst e
  split at aj<;>try (cases aj;done)
  rename_i ys u0 iH
  split at aj<;>try (cases aj;done)
  rename_i hni
  cases aj
  obtain ⟨hz,hyl,hvl,fI⟩:=we iH hc
  obtain ⟨ι',hle,hI,hF⟩:=iS hz h
  have hb':aq id (bV u0 H.bl)=some (.arr te xs false):=by rw [hz.kq (nV hni)];exact hb
  cases ha with
  |pa _ _ _ L' hL hm =>
   rcases hI.live _ _ hb' with ⟨rfl,hn⟩|⟨L,ws,hM,hR,hl⟩
   ·rw [hn] at hL;cases hL
   ·rw [hM.mu] at hL; cases hL
    have hwl:=hR.length (fun _ _=>ak.length)
    have hf:=hM.fits
    have hll:vx.cells.toList.length=k:=by simpa using hsz
    have hkk:k=xs.length * te.sz:=by rw [<-hlen,hvl,hl,hm]
    refine ⟨ι',_,gZ hk (hM.there (Nat.le_refl _) (by omega)) hsz h1,hle,?_,rfl⟩
    rw [ef]
    have hw:=hM.write (d:=0) (us:=vx.cells.toList) (by omega) h1
    rw [Nat.add_zero] at hw
    refine hI.store hb' hM.mu (hM.qk rfl) (.inr ⟨_,_,hw,?_,by omega⟩)
    have:ws.drop (0+vx.cells.toList.length)=[]:=List.drop_eq_nil_of_le (by omega)
    rw [this]
    simpa using fI ι' hle hF
 ·rename_i id off l SM
  rw [SM] at ha
  split at aj<;>try (cases aj;done)
  rename_i cs hb
  split at aj<;>try (cases aj;done)
  rename_i cs' iH
  cases aj
  obtain ⟨L,ws,hM,hR⟩:=h.live _ _ hb
  cases ha with
  |sp _ _ _ L' hL _ =>
   rw [hM.mu] at hL;cases hL
   obtain ⟨hle,fU⟩:=oV iH hR hc
   have hf:=hM.fits
   have hl:vx.cells.toList.length=k:=by simpa using hsz
   refine ⟨ι,_,gZ hk (hM.there (by omega) (by omega)) hsz h1,aB.le_refl _,?_,rfl⟩
   exact h.store hb hM.mu (hM.qk rfl) ⟨L,_,hM.write hle h1,fU⟩
theorem wm : ∀ {t t1 : Ty} {p q : List Bool}, t.qZ p = some t1 → t.b7 (p ++ q) = t.b7 p + t1.b7 q
 |t,t1,[],q,h=>by
  have:t=t1:=by cases t<;>(simp [Ty.qZ] at h;exact h)
  subst this
  have:t.b7 []=0:=by cases t<;>rfl
  rw [this];simp
 | .prod a b,t1,false::p,q,h=>by
  simp only [Ty.qZ] at h
  simp only [List.cons_append,Ty.b7]
  exact wm h
 | .prod a b,t1,true::p,q,h=>by
  simp only [Ty.qZ] at h
  simp only [List.cons_append,Ty.b7]
  rw [wm h];omega
 | .unit,t1,b::p,q,h=>by cases b<;>simp [Ty.qZ] at h
 | .bool,t1,b::p,q,h=>by cases b<;>simp [Ty.qZ] at h
 | .str,t1,b::p,q,h=>by cases b<;>simp [Ty.qZ] at h
 | .int k,t1,b::p,q,h=>by cases b<;>simp [Ty.qZ] at h
 | .list k,t1,b::p,q,h=>by cases b<;>simp [Ty.qZ] at h
 | .bU _ _ _,t1,b::p,q,h=>by cases b<;>simp [Ty.qZ] at h
theorem wq : ∀ {t : Ty} {vs : List V} {q : List Bool} {cs : List Value}, uY t vs = some q → aR ι μ vs cs → ∃ c, cs[t.b7 q]? = some c ∧ Rel ι μ .bA c
 | .list s,[],q,cs,h,hr=>by simp [uY] at h
 | .list s,x::r,q,cs,h,hr=>by
  obtain ⟨y,ys,rfl,h1,h2⟩:=hr.cA
  cases x<;>simp [uY] at h
  subst h
  exact ⟨y,by simp [Ty.b7],h1⟩
 | .prod a b,vs,q,cs,h,hr=>by
  simp only [uY] at h
  split at h
  ·rename_i p h1
   cases h
   have:=wq (t:=a) h1 hr
   simpa only [Ty.b7] using this
  ·split at h <;> try (cases h; done)
   rename_i p h1
   cases h
   obtain ⟨c,e1,e2⟩:=wq h1 (hr.drop a.sz)
   rw [List.getElem?_drop] at e1
   exact ⟨c,e1,e2⟩
 | .unit,vs,q,cs,h,hr=>by simp [uY] at h
 | .bool,vs,q,cs,h,hr=>by simp [uY] at h
 | .str,vs,q,cs,h,hr=>by simp [uY] at h
 | .int k,vs,q,cs,h,hr=>by simp [uY] at h
 | .bU _ _ _,vs,q,cs,h,hr=>by simp [uY] at h
theorem SN (h:Inv P Y ι μ H w) {aM:Nat} (hn:μ aM=none) {t:Ty} {y:t.den} {xs:List Value} (hr:bS (ak ι t) [y] xs) (e:TypeId) {p:List Bool} {c:Value} (hc:xs[t.b7 p]?=some c) (hcr:Rel ι μ .bA c) :
  ∃μ',μ.le μ'/\(∀id,id≠aM->μ' id=μ id)/\Inv P Y ι μ' ⟨max H.next (aM+1),(aM,.j8 t [y] 0 p .bA)::cB aM H.bl⟩ (w.alloc (.cells (xs++[]).toArray e)) /\
   Rel ι μ' (.sl aM t 0 1) (.slice (some ⟨w.heap.size,0,none⟩) 1 1):=by
 let L:Loc:=⟨w.heap.size,0,xs.length,1⟩
 have hle:=Mu.iQ (L:=L) hn
 have jS:μ.set aM L aM=some L:=by simp [Mu.set]
 have hfree:∀o,ι w.heap.size o=none:=fun o=>by
  cases yR:ι w.heap.size o with
  |none=>rfl
  |some y=>have:=World.block_lt_of_cell? _ _ (h.rd _ _ _ yR);simp at this
 have hlt:=(List.getElem?_eq_some_iff.1 hc).1
 have iH:xs=xs.set (t.b7 p) c:=by
  conv=>lhs;rw [<-List.set_getElem_self (as:=xs) hlt]
  rw [(List.getElem?_eq_some_iff.1 hc).2]
 refine ⟨_,hle,Mu.tn,h.lay hn (L:=L) rfl ⟨L,xs,xs,c,⟨jS,(.inl h.below.size),⟨(xs++[]).toArray,e,?_,by simp [L],fun j v hv=>?_⟩,by simp [L],
  bS.one (fun _ _=>ak.one) hr,(fun e=>by cases e),fun _=>hfree⟩,hr,rfl,by simp,by simpa using hlt,by simpa using iH,hcr.mono (aB.le_refl _) hle⟩,?_⟩
 ·show (w.heap.push _)[w.heap.size]? = _
  simp
 ·simpa [L] using hv
 ·have hl := hr.length (fun _ _ => ak.length)
  have:=Rel.sl (ι:=ι) (μ:=μ.set aM L) aM t 0 1 1 L jS (Nat.le_refl _) (by simp [L,hl]) (by simp [L])
  simpa [L] using this
theorem wu:∀{t:Ty} {vs:List V} {q:List Bool} {v:V} {vs':List V} {cs:List Value},lG t vs=some (q,v,vs')->aR ι μ vs cs ->
  ∃c,cs[t.b7 q]?=some c/\Rel ι μ v c/\aR ι μ vs' (cs.set (t.b7 q) (.slice none 0 0))
 | .list s,[],q,v,vs',cs,h,hr=>by simp [lG] at h
 | .list s,x::r,q,v,vs',cs,h,hr=>by
  obtain ⟨y,ys,rfl,h1,h2⟩:=hr.cA
  cases x<;>simp [lG] at h
  obtain ⟨rfl,rfl,rfl⟩:=h
  refine ⟨y,by simp [Ty.b7],h1,?_⟩
  simp only [Ty.b7,List.set_cons_zero]
  exact .cons .bA h2
 | .prod a b,vs,q,v,vs',cs,h,hr=>by
  simp only [lG] at h
  split at h
  ·rename_i p v1 vs1 h1
   cases h
   have:=wu (t:=a) h1 hr
   simpa only [Ty.b7] using this
  ·split at h <;> try (cases h; done)
   rename_i p v1 vs1 h1
   cases h
   obtain ⟨c,e1,e2,e3⟩:=wu h1 (hr.drop a.sz)
   rw [List.getElem?_drop] at e1
   have hlt:=(List.getElem?_eq_some_iff.1 e1).1
   refine ⟨c,e1,e2,?_⟩
   have:cs.set (a.sz+b.b7 p) (.slice none 0 0)=cs.take a.sz++(cs.drop a.sz).set (b.b7 p) (.slice none 0 0):=by
    conv=>lhs;rw [<-List.take_append_drop a.sz cs]
    rw [List.set_append_right _ _ (by simp;omega)]
    congr 2
    simp;omega
   simp only [Ty.b7]
   rw [this]
   exact (hr.take a.sz).append e3
 | .unit,vs,q,v,vs',cs,h,hr=>by simp [lG] at h
 | .bool,vs,q,v,vs',cs,h,hr=>by simp [lG] at h
 | .str,vs,q,v,vs',cs,h,hr=>by simp [lG] at h
 | .int k,vs,q,v,vs',cs,h,hr=>by simp [lG] at h
 | .bU _ _ _,vs,q,v,vs',cs,h,hr=>by simp [lG] at h
theorem NM {α:Type} {A cs B:List α} {j:Nat} {z c:α} (h:cs[j]?=some c):(A++cs.set j z++B).set (A.length+j) c=A++cs++B:=by
 obtain ⟨hj,rfl⟩:=List.getElem?_eq_some_iff.1 h
 rw [List.append_assoc,List.set_append_right _ _ (by omega),List.append_assoc]
 congr 1
 rw [show A.length+j - A.length=j by omega,List.set_append_left _ _ (by simpa using hj)]
 congr 1
 simp
theorem A5 (h : Inv P Y ι μ H w) {aM : Nat} {env : List (Nat × V)} {t : TypeId} {k : Nat} {x a : O} {vx pa : Value} {ob : List Bool} {v : V} {u : dU} (hk : dA P t = some k)
  (hx:Rel ι μ (x.ev env) vx) (ha:Rel ι μ (a.ev env) pa) (aj:vk (bM c1 c2 c3 c4 c5 c6 c7) (.store k a x) env H.bl aM=some (ob,v,u)) (cX:qm ob) :
  ∃w',(Instr.storeAt t pa vx).run P w = .ok () w'/\Inv P Y ι μ ⟨H.next,bV u H.bl⟩ w'/\v = .any:=by
 simp only [vk] at aj
 split at aj<;>try (cases aj;done)
 rename_i vs hvs
 obtain ⟨hc,h1⟩:=hx.cells hvs
 split at aj<;>try (cases aj;done)
 rename_i hlen
 have hsz:vx.cells.size=k:=by have:=hc.1;simp at this;omega
 have hll:vx.cells.toList.length=k:=by simpa using hsz
 split at aj<;>try (cases aj;done)
 rename_i id te i p SM
 rw [SM] at ha
 split at aj<;>try (cases aj;done)
 ·rename_i t' xs hb
  split at aj<;>try (cases aj;done)
  rename_i e;subst e
  split at aj<;>try (cases aj;done)
  rename_i t1 hat
  split at aj<;>try (cases aj;done)
  rename_i q v1 vs1 hop
  split at aj<;>try (cases aj;done)
  rename_i y iH
  cases aj
  have hi:i<xs.length:=by simpa using cX _ (List.mem_singleton.2 rfl)
  obtain ⟨c,e1,e2,e3⟩:=wu hop hc
  rcases h.live _ _ hb with ⟨rfl,_⟩|⟨L,ws,hM,hR,hl⟩
  ·simp at hi
  ·cases ha with
   |ep _ _ _ _ L' hL =>
    rw [hM.mu] at hL;cases hL
    have Fe:xs[i]?=some (xs.getD i te.zero):=by simp [List.getD,hi]
    have hcell:=hR.at (fun _ _=>ak.length) Fe
    obtain ⟨g1,g2⟩:=nT iH e3 (aB.le_refl _) (fun id t xs h=>by cases h) hcell
    rw [List.length_set] at g1
    have hwl:=hR.length (fun _ _=>ak.length)
    have hf:=hM.fits
    have hj:=(List.getElem?_eq_some_iff.1 e1).1
    have hmul:i * te.sz+te.sz<=xs.length * te.sz:=by
     have:=Nat.mul_le_mul_right te.sz (show i+1<=xs.length from hi)
     rwa [Nat.add_mul,Nat.one_mul] at this
    refine ⟨_,gZ hk (hM.there (by omega) (by omega)) hsz h1,?_,rfl⟩
    have hw:=hM.write (d:=i * te.sz+te.b7 p) (us:=vx.cells.toList) (by omega) h1
    rw [<-Nat.add_assoc] at hw
    have uI:=hR.set (fun _ _=>ak.length) hi g2
    have hsp:=splice ws (vx.cells.toList.set (t1.b7 q) (.slice none 0 0)) (i * te.sz) (te.b7 p) te.sz (by simpa using g1)
    rw [show (i+1) * te.sz=i * te.sz+te.sz by rw [Nat.add_mul,Nat.one_mul],hsp,List.length_set] at uI
    have hA:(ws.take (i * te.sz+te.b7 p)).length=i * te.sz+te.b7 p:=by rw [List.length_take];omega
    have hoff:i * te.sz+te.b7 (p++q)=(ws.take (i * te.sz+te.b7 p)).length+t1.b7 q:=by rw [hA,wm hat];omega
    refine h.store hb hM.mu (hM.qk rfl) ⟨L,_,_,c,hw,uI,by simpa using hl,by simpa using hi,?_,?_,e2⟩
    ·rw [hoff]
     simp only [List.length_append,List.length_set];omega
    ·rw [hoff,NM e1]
 ·rename_i t' xs i' p' v' hb
  split at aj<;>try (cases aj;done)
  rename_i e;obtain ⟨rfl,rfl⟩:=e
  split at aj<;>try (cases aj;done)
  rename_i id' s lo n
  cases aj
  have hii:i=i':=by
   have:=cX _ (List.mem_singleton.2 rfl)
   simp [bM] at this;omega
  subst hii
  obtain ⟨L,us,ws,c,hM,hR,hl,h2,h3,h4,h5⟩:=h.live _ _ hb
  cases ha with
  |ep _ _ _ _ L' hL =>
   rw [hM.mu] at hL;cases hL
   obtain ⟨c',r,ecs,hc',hr'⟩:=hc.cA
   have hr0:=hr'.of_nil;subst hr0
   have hwl:ws.length=us.length:=by rw [h4];simp
   have hf:=hM.fits
   have hk1:k=1:=by rw [<-hll,ecs];rfl
   refine ⟨_,gZ hk (hM.there (by omega) (by omega)) hsz h1,?_,rfl⟩
   have hw:=hM.write (d:=i * te.sz+te.b7 p) (us:=vx.cells.toList) (by omega) h1
   rw [<-Nat.add_assoc] at hw
   refine h.store hb hM.mu (hM.qk rfl) ⟨L,us,_,c',hw,hR,hl,h2,h3,?_,hc'⟩
   rw [ecs,h4]
   simp only [List.length_cons,List.length_nil]
   rw [List.set_eq_take_append_cons_drop,if_pos h3,List.set_eq_take_append_cons_drop,if_pos h3]
   have ht:(us.take (i * te.sz+te.b7 p)).length=i * te.sz+te.b7 p:=by rw [List.length_take];omega
   rw [List.take_append_of_le_length (by omega),List.take_of_length_le (by omega),List.drop_append,List.drop_eq_nil_of_le (by omega),ht]
   simp
theorem CY : ∀ {cs cs' : List V} {bl : ai} {u : dU} {xs : List Value}, E9 (bM c1 c2 c3 c4 c5 c6 c7) bl cs = some (cs', u) → aR ι μ cs xs → jo bl u ∧ ∀ ι', ι.le ι' → HB ι' μ u → aR ι' μ cs' xs
 |[],cs',bl,u,xs,h,hr=>by
  cases h
  have:=hr.of_nil;subst this
  exact ⟨.nil,fun _ _ _=>aR.nil⟩
 |v::r,cs',bl,u,xs,h,hr=>by
  simp only [E9] at h
  split at h<;>try (cases h;done)
  rename_i r' u1 yS
  obtain ⟨x,ys,rfl,h1,h2⟩:=hr.cA
  obtain ⟨z1,f1⟩:=CY yS h2
  split at h
  ·split at h <;> try (cases h; done)
   rename_i xs u0 ho
   cases h
   obtain ⟨z0,f0⟩:=jq ho (aR.cons h1 aR.nil)
   refine ⟨z0.append z1,fun ι' hi hf=>?_⟩
   obtain ⟨us,ws,e,hd,hw⟩:=f0 ι' hi hf.left
   have:=hw.of_nil;subst this
   rw [List.append_nil] at e
   subst e
   exact aR.cons (.eG _ _ _ hd) (f1 ι' hi hf.right)
  ·cases h
   exact ⟨z1,fun ι' hi hf=>aR.cons (h1.mono hi (Mu.le_refl _)) (f1 ι' hi hf)⟩
theorem SO {bl:ai} {n:Nat} {id:Nat} {u:dU} (hu:clU (bM c1 c2 c3 c4 c5 c6 c7) id bl=some u) (h:Inv P Y ι μ ⟨n,bl⟩ w):∃ι',ι.le ι'/\Inv P Y ι' μ ⟨n,bV u bl⟩ w:=by
 unfold clU at hu
 split at hu
 ·rename_i t xs i p v hb
  split at hu<;>try (cases hu;done)
  rename_i y u0 iH
  split at hu<;>try (cases hu;done)
  rename_i hni
  cases hu
  have hz:=oW iH
  obtain ⟨ι',hle,hI,hF⟩:=iS hz h
  have hb':aq id (bV u0 bl)=some (.j8 t xs i p v):=by rw [hz.kq (nV hni)];exact hb
  obtain ⟨L,us,ws,c,hM,hR,hl,h2,h3,h4,h5⟩:=h.live _ _ hb
  obtain ⟨L',us',ws',c',hM',_⟩:=hI.live _ _ hb'
  have M6:L=L':=by have:=hM.mu.symm.trans hM'.mu;cases this;rfl
  subst M6
  have fU:bS (ak ι' t) xs us:=bS.mono (fun _ _=>ak.mono hle) hR
  have Fe:xs[i]?=some (xs.getD i t.zero):=by simp [List.getD,h2]
  have hcell:=fU.at (fun _ _=>ak.length) Fe
  obtain ⟨g1,g2⟩:=nT iH (aR.cons h5 aR.nil) hle hF hcell
  refine ⟨ι',hle,?_⟩
  rw [ef]
  refine hI.same hb' (.inr ⟨L,ws,⟨hM.mu,hM.old,hM.row,hM.fits,hM.one,fun e=>(by cases e),hM'.qk⟩,?_,by simpa using hl⟩)
  have uI:=fU.set (fun _ _=>ak.length) h2 g2
  have hsp:=splice us [c] (i * t.sz) (t.b7 p) t.sz g1
  rw [show (i+1) * t.sz=i * t.sz+t.sz by rw [Nat.add_mul,Nat.one_mul],hsp] at uI
  have:us.set (i * t.sz+t.b7 p) c=us.take (i * t.sz+t.b7 p)++[c]++us.drop (i * t.sz+t.b7 p+[c].length):=by
   rw [List.set_eq_take_append_cons_drop,if_pos h3];simp
  rw [h4,this]
  exact uI
 ·rename_i cs fz hb
  split at hu<;>try (cases hu;done)
  rename_i cs' u0 iH
  split at hu<;>try (cases hu;done)
  rename_i hni
  cases hu
  obtain ⟨L,vs,hM,hR⟩:=h.live _ _ hb
  obtain ⟨hz,hf⟩:=CY iH hR
  obtain ⟨ι',hle,hI,hF⟩:=iS hz h
  have hb':aq id (bV u0 bl)=some (.cells cs fz):=by rw [hz.kq (nV hni)];exact hb
  obtain ⟨L',vs',hM',fU⟩:=hI.live _ _ hb'
  have M6:L=L':=by have:=hM.mu.symm.trans hM'.mu;cases this;rfl
  subst M6
  refine ⟨ι',hle,?_⟩
  rw [ef]
  exact hI.same hb' ⟨L,vs,⟨hM.mu,hM.old,hM.row,hM.fits,hM.one,fun e=>(hM.CC e).mono hle,hM'.qk⟩,hf ι' hle hF⟩
 ·cases hu
  exact ⟨ι,aB.le_refl _,h⟩
theorem HD : ∀ {ids : List Nat} {ι : aB} {bl : ai} {n : Nat} {u : dU}, Kq (bM c1 c2 c3 c4 c5 c6 c7) ids bl = some u → Inv P Y ι μ ⟨n, bl⟩ w → ∃ ι', ι.le ι' ∧ Inv P Y ι' μ ⟨n, bV u bl⟩ w
 |[],ι,bl,n,u,hu,h=>by cases hu;exact ⟨ι,aB.le_refl _,h⟩
 |id::r,ι,bl,n,u,hu,h=>by
  simp only [Kq] at hu
  split at hu<;>try (cases hu;done)
  rename_i u1 hu1
  split at hu<;>try (cases hu;done)
  rename_i u2 hu2
  cases hu
  obtain ⟨ι1,l1,Yc⟩:=SO hu1 h
  obtain ⟨ι2,l2,mP⟩:=HD hu2 Yc
  exact ⟨ι2,aB.le_trans l1 l2,by rw [ef];exact mP⟩
theorem A6:∀(vs:List Value) (j:Nat) (off:Nat) (cells:Array Value),off+j+vs.length<=cells.size ->
  ((vs.zipIdx j).foldl (fun cs (c,j)=>cs.setIfInBounds (off+j) c) cells).toList=cells.toList.take (off+j)++vs++cells.toList.drop (off+j+vs.length)
 |[],j,off,cells,h=>by simp
 |v::r,j,off,cells,h=>by
  simp only [List.zipIdx_cons,List.foldl_cons]
  rw [show ((r.zipIdx (j+1)).foldl (fun cs (c,j)=>cs.setIfInBounds (off+j) c) (cells.setIfInBounds (off+j) v)).toList=_ from A6 r (j+1) off _ (by simp at h ⊢;omega)]
  simp only [List.length_cons] at h
  simp only [Array.toList_setIfInBounds,List.length_cons]
  rw [List.take_set,List.drop_set_of_lt (by omega),show off+(j+1)=(off+j)+1 by omega,List.take_succ_eq_append_getElem (by simp;omega)]
  rw [List.set_append_right _ _ (by simp;omega),List.length_take,Nat.min_eq_left (by simp;omega)]
  simp
  congr 1;omega
theorem nW {place:Nat->Option (Nat×Nat)} {env:List (Nat×V)} {a:Act} (he:fS ι μ env a.tmps):∀{parts:List (Nat×Operand)} {ps:List (Nat×Nat×O)} {zs cs:List V} {cells:Array Value},
  partsOf place parts=some ps->uF ps env zs=some cs->aR ι μ zs cells.toList->(∀u∈cells.toList,u.oneCell'=true) ->
  ∃out,Instr.fill place cells (parts.map fun (i,x)=>(i,a.eval x))=some out/\aR ι μ cs out.toList/\∀u∈out.toList,u.oneCell'=true
 |[],ps,zs,cs,cells,h,hf,hr,h1=>by
  cases h;cases hf
  exact ⟨cells,rfl,hr,h1⟩
 |(i,x)::r,ps,zs,cs,cells,h,hf,hr,h1=>by
  unfold partsOf at h
  split at h<;>try (cases h;done)
  rename_i off k y ys hp hx hys
  cases h
  unfold uF at hf
  split at hf<;>try (cases hf;done)
  rename_i vs hvs
  obtain ⟨hc,ho⟩:=(aK he hx).cells hvs
  split at hf<;>try (cases hf;done)
  rename_i hlen
  split at hf<;>try (cases hf;done)
  rename_i cs' iH
  obtain ⟨hle,hR⟩:=oV iH hr hc
  have hsz:(a.eval x).cells.size=k:=by have:=hc.1;simp at this;omega
  have CZ:=A6 (a.eval x).cells.toList 0 off cells (by simpa using hle)
  simp only [List.map_cons,Instr.fill,hp]
  rw [if_neg (by simp [hsz];simp at hle;omega)]
  refine nW he hys hf ?_ ?_
  ·rw [<-Array.foldl_toList,Array.toList_zipIdx,CZ];simpa using hR
  ·rw [← Array.foldl_toList, Array.toList_zipIdx, CZ]
   intro u hu
   simp only [Nat.add_zero,List.mem_append] at hu
   rcases hu with (hu|hu)|hu
   ·exact h1 u (List.mem_of_mem_take hu)
   ·exact ho u hu
   ·exact h1 u (List.mem_of_mem_drop hu)
theorem qn {k:Nat}:∀(vs:List Value) (n:Nat) (cells:Array Value),(∀v∈vs,v.cells.size=k)->cells.size=(n+vs.length) * k ->
  ∃out,Instr.fill (fun i=>some (i * k,k)) cells ((vs.zipIdx n).map fun (v,i)=>(i,v))=some out/\out.toList=cells.toList.take (n * k)++vs.flatMap fun v=>v.cells.toList
 |[],n,cells,_,hs=>⟨cells,rfl,by
  simp at hs
  have:cells.toList.length<=n * k:=by simp;omega
  simp [List.take_of_length_le this]⟩
 |v::r,n,cells,hv,hs=>by
  have hk:=hv v List.mem_cons_self
  simp only [List.length_cons] at hs
  have hfit:n * k+k<=cells.size:=by
   rw [hs,show n+(r.length+1)=(n+1)+r.length by omega,Nat.add_mul,Nat.add_mul,Nat.one_mul];omega
  have CZ:=A6 v.cells.toList 0 (n * k) cells (by simp [hk];exact hfit)
  have hsize:((v.cells.toList.zipIdx 0).foldl (fun cs (c,j)=>cs.setIfInBounds (n * k+j) c) cells).size=cells.size:=by
   have:=congrArg List.length CZ
   rw [Array.length_toList] at this
   rw [this]
   simp [hk];omega
  obtain ⟨out, h1, h2⟩ := qn r (n + 1) ((v.cells.toList.zipIdx 0).foldl (fun cs (c, j) => cs.setIfInBounds (n * k + j) c) cells) (fun u hu => hv u (List.mem_cons_of_mem _ hu))
   (by rw [hsize,hs];congr 1;omega)
  refine ⟨out,?_,?_⟩
  ·simp only [List.zipIdx_cons, List.map_cons, Instr.fill]
   rw [if_neg (by simp [hk];omega),<-Array.foldl_toList,Array.toList_zipIdx]
   exact h1
  ·rw [h2, CZ]
   simp only [Nat.add_zero,List.flatMap_cons,Nat.add_mul,Nat.one_mul]
   rw [List.take_append_of_le_length (by simp [hk];omega),List.take_of_length_le (by simp [hk];omega)]
   simp
end
end Go.AM
end
section
namespace Go.AM
section
variable {P : Program} {Y : Ctx} {ι ι' : aB} {μ μ' : Mu} {H : aO} {w w' : World}
 {c1:Nat->List V->aO->(V->aO->Prop)->Prop} {c2:Nat->List V->V->Prop} {c3:C->St->(Ex->St->Prop)->Prop}
 {c4:Nat->List V->aO->(V->aO->Prop)->Prop} {c5:O->List Nat->C->C->St->(Ex->St->Prop)->Prop} {c6:C->St->(Ex->St->Prop)->Prop} {c7:GC}
theorem Inv.HE (h:Inv P Y ι μ H w) {aM:Nat} (hn:μ aM=none) (t:Ty) (fz:Bool):Inv P Y ι μ ⟨max H.next (aM+1),(aM,.arr t [] fz)::cB aM H.bl⟩ w:=by
 refine ⟨h.below,h.i0,h.iB,h.rd,h.m0,fun id hid=>h.nx id (by simp only at hid;omega),fun id B hB=>?_,?_,?_,h.gl⟩
 ·rw [bx] at hB
  split at hB
  ·rename_i e;subst e;cases hB;exact .inl ⟨rfl,hn⟩
  ·exact h.live id B hB
 ·intro id id' B B' L1 L2 h1 h2 lI hm2 e
  rw [bx] at h1 h2
  by_cases e1:id=aM<;>by_cases e2:id'=aM
  ·rw [e1,e2]
  ·subst e1;rw [hn] at lI;cases lI
  ·subst e2;rw [hn] at hm2;cases hm2
  ·rw [if_neg e1] at h1; rw [if_neg e2] at h2
   exact h.inj id id' B B' L1 L2 h1 h2 lI hm2 e
 ·intro id B hB
  rw [bx] at hB
  split at hB
  ·rename_i e;subst e;simp only;omega
  ·have:=h.lt id B hB;simp only;omega
theorem Inv.move (h : Inv P Y ι μ H w) {aM : Nat} (hn : μ aM = none) {id : Nat} {b0 b : jE} (hb0 : aq id H.bl = some b0) {L L' : Loc} (hL : μ id = some L) (Yg : L'.b = L.b) (hfree : ∀ o, ι L.b o = none)
  (hos:w'.os=w.os) (NI:w'.tape=w.tape) (hout:w'.output=w.output) (X7:w'.drawn=w.drawn) (hsz:w'.heap.size=w.heap.size) (hk:∀k,k≠L.b->w'.heap[k]?=w.heap[k]?)
  (hmg:kW w.heap[L.b]? w'.heap[L.b]?) (hb:fT P Y.own ι (μ.set aM L') aM w' b):Inv P Y ι (μ.set aM L') ⟨max H.next (aM+1),(aM,b)::cB aM (cB id H.bl)⟩ w':=by
 have hold:=((h.live id b0 hb0).loc hL).1
 have hle:=Mu.iQ (L:=L') hn
 have hidn:id≠aM:=fun e=>by subst e;rw [hn] at hL;cases hL
 have zC:∀{j B},j≠aM->aq j ((aM,b)::cB aM (cB id H.bl))=some B->j≠id/\aq j H.bl=some B:=fun {j B} hj hB=>by
  rw [bx,if_neg hj,bB] at hB
  split at hB
  ·cases hB
  ·rename_i e;exact ⟨e,hB⟩
 refine ⟨⟨hos.trans h.below.os, NI.trans h.below.tape, hout.trans h.below.output, by rw [hsz]; exact h.below.size, fun k hk' hx => ?_, by rw [X7]; exact h.below.dr, fun k hk' => (h.below.maps k hk').trans (by
   by_cases e:k=L.b
   ·subst e;exact hmg
   ·exact .eq (hk k e))⟩,h.i0,h.iB,fun b o x hx=>?_,Mu.le_trans h.m0 hle,fun i hid=>?_,fun i B hB=>?_,?_,?_,h.gl⟩
 ·rw [hk k (Ctx.mV hold hk' hx)];exact h.below.block k hk' hx
 ·have := h.rd b o x hx
  have hne:b≠L.b:=fun e=>by subst e;rw [hfree] at hx;cases hx
  unfold World.cell? at this ⊢
  simp only at this ⊢
  rw [hk b hne];exact this
 ·simp only at hid
  unfold Mu.set;rw [if_neg (by omega)];exact h.nx i (by omega)
 ·by_cases e : i = aM
  ·subst e;rw [bx,if_pos rfl] at hB;cases hB;exact hb
  ·obtain ⟨h1, h2⟩ := zC e hB
   refine (h.live i B h2).mono (aB.le_refl _) hle (fun hm=>by unfold Mu.set;rw [if_neg e];exact hm) (fun L1 Yh=>hk _ (fun e'=>h1 (h.inj i id B b0 L1 L h2 hb0 Yh hL e'))) (fun _ _ h=>h)
 ·intro i i' B B' L1 L2 h1 h2 lI hm2 e
  by_cases e1:i=aM<;>by_cases e2:i'=aM
  ·rw [e1,e2]
  ·obtain ⟨g1, g2⟩ := zC e2 h2
   unfold Mu.set at lI hm2
   rw [if_pos e1] at lI;rw [if_neg e2] at hm2;cases lI
   exact absurd (h.inj i' id B' b0 L2 L g2 hb0 hm2 hL (by omega)) g1
  ·obtain ⟨g1, g2⟩ := zC e1 h1
   unfold Mu.set at lI hm2
   rw [if_pos e2] at hm2;rw [if_neg e1] at lI;cases hm2
   exact absurd (h.inj i id B b0 L1 L g2 hb0 lI hL (by omega)) g1
  ·obtain ⟨g1, g2⟩ := zC e1 h1
   obtain ⟨g3,g4⟩:=zC e2 h2
   unfold Mu.set at lI hm2
   rw [if_neg e1] at lI;rw [if_neg e2] at hm2
   exact h.inj i i' B B' L1 L2 g2 g4 lI hm2 e
 ·intro i B hB
  by_cases e:i=aM
  ·subst e;simp only;omega
  ·obtain ⟨_, h2⟩ := zC e hB
   have:=h.lt i B h2;simp only;omega
theorem oX (h : Inv P Y ι μ H w) {t : Ty} {yv : V} {x : Value} {ys : List t.den} {tx e' : TypeId} (hk : P.underlying tx = some (.slice e')) (hy : elems (bM c1 c2 c3 c4 c5 c6 c7) H.bl t yv = some ys)
  (hr:Rel ι μ yv x):∃news,Src P t.sz tx x ys.length news w/\bS (ak ι t) ys news:=by
 have nil:∀a cap,Src P t.sz tx (.slice a 0 cap) 0 [] w:=fun a cap=>by
  cases a with
  |none=>exact Src.ofNil w hk cap
  |some a=>exact Src.ofSlice w hk a 0 cap [] (by simp) (fun j u h=>by simp at h) (fun u h=>by cases h)
 have ofR:∀{b o n cap:Nat} {us:List Value},w.rangeAt b o us->us.length=n * t.sz->(∀u∈us,u.oneCell'=true)->Src P t.sz tx (.slice (some ⟨b,o,none⟩) n cap) n us w:=fun Sh hl h1 =>
  Src.ofSlice w hk _ _ _ _ hl (fun j u hu=>by rw [Addr.add_mid];exact Sh j u hu) h1
 unfold elems at hy
 split at hy<;>try (cases hy;done)
 ·cases hy;cases hr;exact ⟨[],nil _ _,rfl⟩
 ·rename_i t' zs
  obtain ⟨e,hz⟩:=dn hy
  subst e;subst hz
  cases hr with
  |eG _ _ _ hd =>
   obtain ⟨a,cap,e,hle,hd⟩:=hd
   cases e
   rcases hd with rfl|⟨b,o,us,rfl,hrd,hc⟩
   ·exact ⟨[],nil a cap,rfl⟩
   ·exact ⟨us,ofR (hrd.rangeAt h.rd) (hc.length (fun _ _=>ak.length)) (hc.one fun _ _=>ak.one),hc⟩
 ·rename_i id t' lo n
  split at hy<;>try (cases hy;done)
  rename_i t'' zs fz hb
  split at hy<;>try (cases hy;done)
  rename_i e;subst e
  split at hy<;>try (cases hy;done)
  rename_i zs' hc
  cases hy
  obtain ⟨e,hz⟩:=dn hc
  subst e;subst hz
  cases hr with
  |cg=>exact ⟨[],by simpa using nil _ _,by simp [bS]⟩
  |sl _ _ _ _ cap L hm h1 h2 h3 =>
   rcases h.live _ _ hb with ⟨_,hn⟩|⟨L',vs,hM,hR,hl⟩
   ·rw [hn] at hm;cases hm
   ·rw [hM.mu] at hm; cases hm
    have hlen:((zs'.drop lo).take n).length=n:=by simp;omega
    have fI:=(hR.drop (fun _ _=>ak.length) lo).take (fun _ _=>ak.length) n
    have Ff:=fI.length (fun _ _=>ak.length)
    rw [hlen] at Ff
    refine ⟨_,?_,fI⟩
    show Src P _ tx _ ((zs'.drop lo).take n).length _ w
    rw [hlen]
    exact ofR (eX hM.rangeAt _ _) Ff (fI.one fun _ _=>ak.one)
theorem fW {e:TypeId} {k:Nat} (h:kf P e=some k):∃i z,P.info? e=some i/\i.zero=some z/\i.bytes<=lZ/\z.cells.size=i.size/\i.size=k:=by
 unfold kf at h
 split at h<;>try (cases h;done)
 rename_i i hi
 split at h<;>try (cases h;done)
 rename_i z hz
 split at h<;>try (cases h;done)
 rename_i hb
 cases h
 exact ⟨i,z,hi,hz,hb.1,hb.2,rfl⟩
theorem qo (h : Inv P Y ι μ H w) {aM : Nat} (hn : μ aM = none) {t : Ty} {tt tx ty e e' : TypeId} (ht : P.underlying tt = some (.slice e)) (W1 : P.underlying tx = some (.slice e')) (he : kf P e = some t.sz)
  {base:Option Addr} {n cap:Nat} {xs ys:List t.den} {olds news:List Value} (hxl:xs.length=n) (hxs:bS (ak ι t) xs olds)
  (hold:(Builtin.firstCells t.sz n (.slice base n cap)).run P w.drew = .ok olds.toArray w.drew) {x:Value} (hs:Src P t.sz tx x ys.length news w) (hys:bS (ak ι t) ys news)
  (hg:cap<n+ys.length) (rF:n+ys.length<cz) :
  ∃μ' v w',(Builtin.append_ #[tt,tx] ty #[.slice base n cap,x]).run P w = .ok v w'/\μ.le μ'/\(∀id,id≠aM->μ' id=μ id) /\
   Inv P Y ι μ' ⟨max H.next (aM+1),(aM,.arr t (xs++ys) false)::cB aM H.bl⟩ w'/\Rel ι μ' (.sl aM t 0 (n+ys.length)) v:=by
 obtain ⟨i,z,hi,hz,hby,hzs,hsz⟩:=fW he
 have hfit:Builtin.nextslicecap (n+ys.length) cap * i.bytes<=281474976710656:=by
  refine growslice_fits hg (Nat.le_trans (Nat.mul_le_mul (Nat.le_of_lt rF) hby) ?_)
  unfold cz lZ;decide
 have h63:((n+ys.length:Nat):Int)<=9223372036854775807:=by unfold cz at rF;omega
 rw [<-hsz] at hold hs
 have hr:=run_append_grow_src w tt tx ty e i z ht hi hz base n cap olds hold x ys.length news hs hg h63 hfit
 have fI:bS (ak ι t) (xs++ys) (olds++news):=hxs.append hys
 have hl:=fI.length (fun _ _=>ak.length)
 have hge:=grownCap_ge w (n+ys.length) cap e
 obtain ⟨μ', m1, m0, m2, m3⟩ := vn (aM := aM) (rest := (Builtin.zeroCells z.cells (grownCap w (n + ys.length) cap e - (n + ys.length))).toList) h.drew hn fI e (grownCap w (n + ys.length) cap e)
  (by simp [hxl]; exact hge) (by
   have W2:(Builtin.zeroCells z.cells (grownCap w (n+ys.length) cap e - (n+ys.length))).toList.length=(grownCap w (n+ys.length) cap e - (n+ys.length)) * t.sz:=by
    rw [Array.length_toList,size_zeroCells,hzs,hsz]
   rw [hl,W2,List.length_append,hxl,<-Nat.add_mul]
   exact Nat.mul_le_mul_right _ (by omega))
 refine ⟨μ',_,_,hr,m1,m0,?_,?_⟩
 ·have:(olds++news++(Builtin.zeroCells z.cells (grownCap w (n+ys.length) cap e - (n+ys.length))).toList).toArray =
    (olds++news).toArray++Builtin.zeroCells z.cells (grownCap w (n+ys.length) cap e - (n+ys.length)):=by
   apply Array.ext';simp
  rw [this] at m2;exact m2
 ·simpa [hxl] using m3
theorem A7 (h : Inv P Y ι μ H w) {aM : Nat} (hn : μ aM = none) {env : List (Nat × V)} {tt tx ty e e' : TypeId} {k : Nat} {sO xO : O} {s x : Value} {ob : List Bool} {v : V} {u : dU}
  (ht:P.underlying tt=some (.slice e)) (W1:P.underlying tx=some (.slice e')) (he:kf P e=some k)
  (hs:Rel ι μ (sO.ev env) s) (hx:Rel ι μ (xO.ev env) x) (aj:de (bM c1 c2 c3 c4 c5 c6 c7) (.append k sO xO) env H.bl aM=some (ob,v,u)) (cX:qm ob) :
  ∃μ' y w',(Builtin.append_ #[tt,tx] ty #[s,x]).run P w = .ok y w'/\μ.le μ'/\(∀id,id≠aM->μ' id=μ id)/\Inv P Y ι μ' ⟨max H.next (aM+1),bV u H.bl⟩ w'/\Rel ι μ' v y:=by
 -- a slice with no element and no room
 have empty:∀{t:Ty} {ys:List t.den} (a:Option Addr) (bl:ai),(∀id B,aq id bl=some B->aq id H.bl=some B)->t.sz=k->elems (bM c1 c2 c3 c4 c5 c6 c7) H.bl t (xO.ev env)=some ys->ys.length<cz ->
   ∃μ' y w',(Builtin.append_ #[tt,tx] ty #[.slice a 0 0,x]).run P w = .ok y w'/\μ.le μ'/\(∀id,id≠aM->μ' id=μ id)/\Inv P Y ι μ' ⟨max H.next (aM+1),(aM,.arr t ys false)::cB aM bl⟩ w'/\Rel ι μ' (.sl aM t 0 ys.length) y:=by
  intro t ys a bl sS hk hy rF
  subst hk
  obtain ⟨news,hsrc,fI⟩:=oX h W1 hy hx
  have hI:Inv P Y ι μ ⟨H.next,bl⟩ w:=h.sub sS
  by_cases hm:ys.length=0
  ·have : ys = [] := List.length_eq_zero_iff.1 hm
   subst this
   have hn:news=[]:=fI
   subst hn
   obtain ⟨i,z,hi,hz,hby,hzs,hsz⟩:=fW he
   refine ⟨μ,.slice a 0 0,w,?_,Mu.le_refl _,fun _ _=>rfl,hI.HE hn t false,.cg _ _ _ a⟩
   rw [<-hsz] at hsrc
   have hlen:=hsrc.len w
   have hcells:=hsrc.cells
   simp only [List.length_nil] at hcells hlen
   cases a<;>simp [Builtin.append_,run_underlying ht,run_underlying W1,sizeOf,typeInfo,hi,hlen,hcells,storeCells]
  ·have hf:(Builtin.firstCells t.sz 0 (.slice a 0 0)).run P w.drew = .ok ([]:List Value).toArray w.drew:=by
    cases a with
    |none=>exact run_firstCells_none _ _ _ _ _
    |some a=>exact run_firstCells_some _ _ _ _ _ _ [] (by simp) (fun j u h=>by simp at h)
   obtain ⟨μ',y,w',r1,r2,r0,r3,r4⟩:=qo (ty:=ty) hI hn ht W1 he (n:=0) (xs:=[]) (ys:=ys) rfl rfl hf hsrc fI (by omega) (by omega)
   exact ⟨μ',y,w',r1,r2,r0,r3,by simpa using r4⟩
 simp only [de] at aj
 split at aj<;>try (cases aj;done)
 ·rename_i hse
  rw [hse] at hs
  split at aj<;>try (cases aj;done)
  rename_i t hty
  split at aj<;>try (cases aj;done)
  rename_i hk
  split at aj<;>try (cases aj;done)
  rename_i ys hy
  cases aj
  cases hs with
  |bA =>
   have rF:ys.length<cz:=by simpa using cX _ (List.mem_singleton.2 rfl)
   exact empty none H.bl (fun _ _ h=>h) hk hy rF
 ·rename_i id t lo n hse
  rw [hse] at hs
  split at aj<;>try (cases aj;done)
  rename_i hk
  split at aj<;>try (cases aj;done)
  rename_i t' xs hb
  split at aj<;>try (cases aj;done)
  rename_i e1;subst e1
  split at aj<;>try (cases aj;done)
  rename_i xs' hc
  split at aj<;>try (cases aj;done)
  rename_i ys hy
  cases aj
  obtain ⟨e1,hz⟩:=dn hc
  subst hz
  have rF:n+ys.length<cz:=by simpa using cX _ (List.mem_singleton.2 rfl)
  have hdel:∀i B,aq i (cB id H.bl)=some B->aq i H.bl=some B:=fun i B hB=>by rw [bB] at hB;split at hB<;>simp_all
  simp only [bV]
  cases hs with
  |cg _ _ _ a =>
   have:=empty a _ hdel hk hy (by omega)
   simpa using this
  |sl _ _ _ _ cap L hm h1 h2 h3 =>
   rcases h.live _ _ hb with ⟨_,hn⟩|⟨L',vs,hM,hR,hl⟩
   ·rw [hn] at hm;cases hm
   ·rw [hM.mu] at hm; cases hm
    subst hk
    obtain ⟨news,hsrc,fI⟩:=oX h W1 hy hx
    have hlen:((xs'.drop lo).take n).length=n:=by simp;omega
    have holds:=(hR.drop (fun _ _=>ak.length) lo).take (fun _ _=>ak.length) n
    have Ff:=holds.length (fun _ _=>ak.length)
    rw [hlen] at Ff
    have Sh:w.rangeAt L.b (L.ba+lo * t'.sz) ((vs.drop (lo * t'.sz)).take (n * t'.sz)):=eX hM.rangeAt _ _
    by_cases hroom:n+ys.length<=cap
    ·obtain ⟨i, z, hi, hz, hby, hzs, hsz⟩ := fW he
     have rj:=fI.length (fun _ _=>ak.length)
     have hone:=fI.one (fun _ _=>ak.one)
     have acL:L.ba+lo * t'.sz+n * t'.sz+news.length<=L.tot:=by
      rw [rj]
      have:lo * t'.sz+n * t'.sz+ys.length * t'.sz<=(lo+cap) * t'.sz:=by
       rw [<-Nat.add_mul,<-Nat.add_mul];exact Nat.mul_le_mul_right _ (by omega)
      omega
     have X9:w.there L.b (L.ba+lo * t'.sz+n * t'.sz) news.length:=hM.there (by omega) acL
     rw [<-hsz] at hsrc
     have hr := run_append_room_src w tt tx ty e i ht hi L.b (L.ba + lo * t'.sz) n cap x ys.length news hsrc hroom
      (fun j hj=>by rw [hsz];exact (X9 j hj).1) (fun j hj=>by rw [hsz];exact (X9 j hj).2)
     rw [hsz] at hr
     let L2:Loc:=⟨L.b,L.ba+lo * t'.sz,L.tot,n+ys.length⟩
     have hle:=Mu.iQ (L:=L2) hn
     have jS:μ.set aM L2 aM=some L2:=by simp [Mu.set]
     refine ⟨_, _, _, hr, hle, Mu.tn, h.move hn (L' := L2) hb hM.mu rfl (hM.qk rfl) (ee _ _ _ _).1 (ee _ _ _ _).2.1 (ee _ _ _ _).2.2.1 (ee _ _ _ _).2.2.2 (lJ _ _ _ _)
      (fun k hk=>iR _ _ _ _ _ hk) (ko _ _ _ _ _) (.inr ⟨L2,(vs.drop (lo * t'.sz)).take (n * t'.sz)++news,?_,?_,?_⟩),?_⟩
     ·-- the memory: the old cells from 'lo' on, the new ones behind them
      obtain ⟨c,ec,Yi,hc2,hc3⟩:=hM.row
      have iH:=fun (j:Nat) (hj:j<news.length)=>World.cell?_setCells_in L.b news (L.ba+lo * t'.sz+n * t'.sz) w (fun j hj=>(X9 j hj).1) j hj
      have hout:=fun (a:Addr) h=>World.cell?_setCells_out L.b news (L.ba+lo * t'.sz+n * t'.sz) w a h
      have hrow:∃c':Array Value,(w.setCells L.b (L.ba+lo * t'.sz+n * t'.sz) news).heap[L.b]?=some (.cells c' ec (0,0))/\c'.size=c.size:=by
       have key:∀(us:List Value) (o:Nat) (w:World) (c:Array Value),w.heap[L.b]?=some (.cells c ec (0,0))->∃c':Array Value,(w.setCells L.b o us).heap[L.b]?=some (.cells c' ec (0,0))/\c'.size=c.size:=by
        intro us
        induction us with
        |nil=>intro o w c hc;exact ⟨c,hc,rfl⟩
        |cons u us ih =>
         intro o w c hc
         obtain ⟨c',e1,e2⟩:=ih (o+1) (w.setCell ⟨L.b,o,none⟩ u) (c.setIfInBounds o u) (by simp [World.setCell,Array.getElem?_modify,hc])
         exact ⟨c',e1,by simpa using e2⟩
       exact key _ _ _ _ Yi
      obtain ⟨c',hc4,hc5⟩:=hrow
      refine ⟨jS,hM.old,⟨c',ec,hc4,by rw [hc5];exact hc2,fun j v hv=>?_⟩,by simp only [L2,List.length_append,Ff];omega,?_,(fun e=>by cases e),fun _=>hM.qk rfl⟩
      ·have hcell:(w.setCells L.b (L.ba+lo * t'.sz+n * t'.sz) news).cell? ⟨L.b,L.ba+lo * t'.sz+j,none⟩=some v:=by
        by_cases hj:j<n * t'.sz
        ·rw [List.getElem?_append_left (by omega)] at hv
         rw [hout _ (fun _ _=>.inl (by show L.ba+lo * t'.sz+j<_;omega))]
         exact Sh j v hv
        ·rw [List.getElem?_append_right (by omega), Ff] at hv
         have hj2:=(List.getElem?_eq_some_iff.1 hv).1
         have:=iH (j - n * t'.sz) hj2
         rw [show L.ba+lo * t'.sz+n * t'.sz+(j - n * t'.sz)=L.ba+lo * t'.sz+j by omega] at this
         rw [this,<-hv,List.getElem?_eq_getElem hj2]
       simp [World.cell?,hc4] at hcell
       exact hcell
      ·intro v hv
       rcases List.mem_append.1 hv with hv|hv
       ·exact hM.one v (List.mem_of_mem_drop (List.mem_of_mem_take hv))
       ·exact hone v hv
     ·exact holds.append fI
     ·simp only [L2,List.length_append,hlen]
     ·have := Rel.sl (ι := ι) (μ := μ.set aM L2) aM t' 0 (n + ys.length) cap L2 jS hroom (by simp only [L2, Nat.zero_add]; have : (lo + cap) * t'.sz = lo * t'.sz + cap * t'.sz := Nat.add_mul _ _ _; omega) (by simp [L2])
      simpa [L2] using this
    ·have hf:(Builtin.firstCells t'.sz n (.slice (some ⟨L.b,L.ba+lo * t'.sz,none⟩) n cap)).run P w.drew = .ok ((vs.drop (lo * t'.sz)).take (n * t'.sz)).toArray w.drew :=
      run_firstCells_some _ _ _ _ _ _ _ Ff (fun j u hu=>by rw [Addr.add_mid,World.cell?_drew];exact Sh j u hu)
     exact qo (ty:=ty) (h.sub hdel) hn ht W1 he hlen holds hf hsrc fI (by omega) rF
 ·rename_i t xs hse
  rw [hse] at hs
  split at aj<;>try (cases aj;done)
  rename_i hk
  split at aj<;>try (cases aj;done)
  rename_i ys hy
  cases aj
  subst hk
  have hpos:0<ys.length:=by simpa using cX _ (List.mem_cons_self ..)
  have rF:xs.length+ys.length<cz:=by simpa using cX _ (List.mem_cons_of_mem _ (List.mem_singleton.2 rfl))
  obtain ⟨news,hsrc,fI⟩:=oX h W1 hy hx
  cases hs with
  |kO _ _ a hd =>
   have key:∃olds,bS (ak ι t) xs olds/\(Builtin.firstCells t.sz xs.length (.slice a xs.length xs.length)).run P w.drew = .ok olds.toArray w.drew:=by
    rcases hd with rfl|⟨b,o,us,rfl,hr,hc⟩
    ·refine ⟨[], rfl, ?_⟩
     cases a with
     |none=>exact run_firstCells_none _ _ _ _ _
     |some a=>exact run_firstCells_some _ _ _ _ _ _ [] (by simp) (fun j u h=>by simp at h)
    ·exact ⟨us,hc,run_firstCells_some _ _ _ _ _ _ _ (hc.length (fun _ _=>ak.length)) (fun j u hu=>by rw [Addr.add_mid,World.cell?_drew];exact h.rd _ _ _ (hr j u hu))⟩
   obtain ⟨olds,holds,hf⟩:=key
   exact qo (ty:=ty) h hn ht W1 he rfl holds hf hsrc fI (by omega) rF
end
end Go.AM
end
section
namespace Go.AM
section
variable {P : Program} {Y : Ctx} {ι ι' : aB} {μ μ' : Mu} {H : aO} {w w' : World}
 {c1:Nat->List V->aO->(V->aO->Prop)->Prop} {c2:Nat->List V->V->Prop} {c3:C->St->(Ex->St->Prop)->Prop}
 {c4:Nat->List V->aO->(V->aO->Prop)->Prop} {c5:O->List Nat->C->C->St->(Ex->St->Prop)->Prop} {c6:C->St->(Ex->St->Prop)->Prop} {c7:GC}
theorem kX {v:V} {b:Bool} {x:Value} (h:Ko v=some b) (hr:Rel ι μ v x):x = .bool b:=by
 cases v<;>simp [Ko] at h<;>(subst h;cases hr;rfl)
theorem cE (op:BinOp) (t:TypeId) (x y:Operand) {a b:Value} (h:a ≠ .nilIface) (ha:∀cs,a ≠ .agg cs):(eqGuard op t x y a b).run P w = .ok () w:=by
 cases op<;>try rfl
 all_goals cases a<;>first|rfl|exact absurd rfl h|exact absurd rfl (ha _)
theorem SQ (a b:ByteArray):CL (nM a++nM b)=a++b:=by
 have key:∀l:List UInt8,(l.map fun b=>(b.toNat:Int)).map (fun z=>UInt8.ofNat z.toNat)=l:=by
  intro l
  rw [List.map_map]
  conv=>rhs;rw [<-List.map_id l]
  exact List.map_congr_left fun b _=>by simp
 apply ByteArray.ext
 simp only [CL,nM,List.map_append,key,ByteArray.data_append]
 rw [<-List.append_toArray]
theorem zD {op : BinOp} {bo : fD} (hb : vT op = some bo) {t : TypeId} {xo yo : Operand} {v1 v2 : V} {a b : Value} (h1 : Rel ι μ v1 a) (h2 : Rel ι μ v2 b) {x y : O} {env : List (Nat × V)}
  (hx:x.ev env=v1) (hy:y.ev env=v2) {bl:ai} {n:Nat} {ob:List Bool} {v:V} {u:dU} (aj:de (bM c1 c2 c3 c4 c5 c6 c7) (.bin bo x y) env bl n=some (ob,v,u)) (cX:qm ob) :
  u=[]/\∃z,(do eqGuard op t xo yo a b;binOp op t a b:Sem Value).run P w = .ok z w/\Rel ι μ v z:=by
 simp only [de,hx,hy] at aj
 split at aj
 ·rename_i k m k' m' 
  cases h1;cases h2
  have hg:=cE (P:=P) (w:=w) op t xo yo (a:=.int k m) (b:=.int k' m') (by simp) (by simp)
  split at aj
  ·cases op <;> simp [vT] at hb
   simp only [zu] at aj
   cases aj
   have e1:=cX _ (List.mem_cons_self)
   have e2:=cX _ (List.mem_cons_of_mem _ (List.mem_cons_self))
   simp at e1
   refine ⟨rfl,.int k (m * 2 ^ m'.toNat),?_,.int _ _⟩
   have hw:=kj e2
   simp [hg,binOp,Op.shift,show ¬m'<0 by omega,Nat.min_eq_left (show m'.toNat<=k.bits by omega),hw]
  ·cases op <;> simp [vT] at hb
   simp only [zu] at aj
   cases aj
   have e1:=cX _ (List.mem_cons_self)
   simp at e1
   refine ⟨rfl,.int k (m.fdiv (2 ^ m'.toNat)),?_,.int _ _⟩
   simp [hg,binOp,Op.shift,show ¬m'<0 by omega,Nat.min_eq_left (show m'.toNat<=k.bits by omega)]
  ·split at aj <;> try (cases aj; done)
   rename_i hk;subst hk
   cases op<;>cases hb<;>simp only [E7] at aj<;>first|(cases aj;done)|skip
   all_goals first|cases aj|(split at aj<;>cases aj)
   all_goals
    refine ⟨rfl,?_⟩
    first
     |(refine ⟨_,?_,.bool _⟩;simp [hg,binOp,Op.intCmp];done)
     |(refine ⟨_,?_,.bool _⟩;simp [hg,binOp,Op.intCmp,bne];done)
     |(refine ⟨_,?_,.int _ _⟩;simp [hg,binOp,Op.intBits];done)
     |(refine ⟨_,?_,.int _ _⟩;simp [hg,binOp,Op.intArith];done)
     |(refine ⟨_,?_,.int _ _⟩;have e1:=kj (cX _ (List.mem_singleton.2 rfl));simp [hg,binOp,Op.intArith,e1];done)
     |(refine ⟨_,?_,.int _ _⟩;have e1:=cX _ (List.mem_cons_self);have e2:=kj (cX _ (List.mem_cons_of_mem _ (List.mem_cons_self)));simp at e1;simp [hg,binOp,Op.intDiv,e1,e2];done)
     |(refine ⟨_,?_,.int _ _⟩;have e1:=cX _ (List.mem_cons_self);simp at e1;simp [hg,binOp,Op.intDiv,e1];done)
 ·rename_i s1 s2
  cases h1;cases h2
  have hg:=cE (P:=P) (w:=w) op t xo yo (a:=.string s1) (b:=.string s2) (by simp) (by simp)
  cases op<;>cases hb<;>simp only [E8] at aj<;>first|(cases aj;done)|skip
  all_goals
   cases aj
   refine ⟨rfl,?_⟩
  case h_2.str.str.add.refl.refl =>
   refine ⟨_,?_,.str _⟩
   show _=Result.ok (Value.string (CL (nM s1++nM s2))) w
   have hz:=cX _ (List.mem_singleton.2 rfl)
   have h2:((s1.size:Int)+(s2.size:Int))<=9223372036854775807:=by
    have e2:IntKind.i64.max=9223372036854775807:=by decide
    have ql:(IntKind.i64.min<=((s1.size:Int)+(s2.size:Int))/\((s1.size:Int)+(s2.size:Int))<=IntKind.i64.max):=by simpa [bM] using hz
    rw [e2] at ql;exact ql.2
   rw [SQ]
   simp [hg,binOp,Op.stringOp]
   exact h2
  all_goals
   have hor:(if Op.bytesLess s1.toList s2.toList=true then true else s1.toList==s2.toList)=(Op.bytesLess s1.toList s2.toList||s1.toList==s2.toList):=by
    cases Op.bytesLess s1.toList s2.toList<;>simp
   try rw [hor]
   refine ⟨_,?_,.bool _⟩
   simp [hg,binOp,Op.stringOp]
 ·cases aj
theorem ei {k:Kd} {ks:List Kd} {as bs:List V} {c:Bool} (h:bf (bM c1 c2 c3 c4 c5 c6 c7) (k::ks) as bs=some c):∃a as' b bs',as=a::as'/\bs=b::bs':=by
 cases as with
 |nil=>cases k<;>simp [bf] at h
 |cons a as =>
  cases bs with
  |nil=>cases k<;>cases a<;>simp [bf] at h
  |cons b bs=>exact ⟨a,as,b,bs,rfl,rfl⟩
theorem jr {d:Nat} {xs ys:Array Value}:∀{fs:List Field} {n:Nat} {ks:List Kd} {as bs:List V} {c:Bool},pP P n fs=some ks->aR ι μ as (xs.toList.drop n)->aR ι μ bs (ys.toList.drop n) ->
  bf (bM c1 c2 c3 c4 c5 c6 c7) ks as bs=some c->(Op.eqFields (d+1) xs ys fs).run P w = .ok c w
 |[],n,ks,as,bs,c,hf,ha,hb,h=>by
  cases hf
  cases as<;>cases bs<;>simp [bf] at h
  subst h;rfl
 |f::r,n,ks,as,bs,c,hf,ha,hb,h=>by
  unfold pP at hf
  split at hf<;>try (cases hf;done)
  rename_i hn
  obtain ⟨hname,hoff⟩:=hn
  have step:∀{x y:Value} {xs' ys':List Value} {b rest:Bool} {SR:TypeDesc},P.underlying f.type=some SR->(match SR with | .struct _=>false | .array _ _=>false|_=>true)=true->xs.toList.drop n=x::xs'->ys.toList.drop n=y::ys' ->
    (Op.equalIn (d+1) f.type x y).run P w = .ok b w->(Op.eqFields (d+1) xs ys r).run P w = .ok rest w->(Op.eqFields (d+1) xs ys (f::r)).run P w = .ok (b&&rest) w:=by
   intro x y xs' ys' b rest SR hu hd hx hy he hr
   have jF:(isAgg f.type).run P w = .ok false w:=by
    unfold isAgg
    rw [Sem.run_bind,run_underlying hu w]
    cases SR<;>simp_all
   have hx0:xs[n]?=some x:=by
    have:(xs.toList.drop n)[0]?=some x:=by rw [hx];rfl
    simpa using this
   have hy0:ys[n]?=some y:=by
    have:(ys.toList.drop n)[0]?=some y:=by rw [hy];rfl
    simpa using this
   have p1:(part f.type xs f.offset).run P w = .ok x w:=by simp [part,jF,hoff,hx0]
   have p2:(part f.type ys f.offset).run P w = .ok y w:=by simp [part,jF,hoff,hy0]
   simp only [Op.eqFields,if_pos hname,Sem.run_bind,p1,p2,Result.andThen_ok,he]
   cases b<;>simp [hr]
  split at hf<;>try (cases hf;done)
  all_goals
   rename_i ks' hu hks
   cases hf
   obtain ⟨a,as',b,bs',e1,e2⟩:=ei h
   subst e1;subst e2
   obtain ⟨x,xs',hx,NN,SS⟩:=ha.cA
   obtain ⟨y,ys',hy,kP,iw⟩:=hb.cA
   have NO:aR ι μ as' (xs.toList.drop (n+1)):=by rw [<-List.drop_drop (i:=1),hx];exact SS
   have HF:aR ι μ bs' (ys.toList.drop (n+1)):=by rw [<-List.drop_drop (i:=1),hy];exact iw
  ·simp only [bf] at h
   split at h<;>try (cases h;done)
   rename_i p q hp hq
   split at h<;>try (cases h;done)
   rename_i rest iK
   cases h
   rw [kX hp NN] at hx
   rw [kX hq kP] at hy
   exact step hu rfl hx hy (run_equalIn_bool' w d f.type p q hu) (jr hks NO HF iK)
  ·cases a <;> cases b <;> simp only [bf] at h <;> try (cases h; done)
   split at h<;>try (cases h;done)
   rename_i hkk;subst hkk
   split at h<;>try (cases h;done)
   rename_i rest iK
   cases h
   cases NN;cases kP
   exact step hu rfl hx hy (run_equalIn_int w d f.type _ _ _ _ hu) (jr hks NO HF iK)
  ·cases a <;> cases b <;> simp only [bf] at h <;> try (cases h; done)
   split at h<;>try (cases h;done)
   rename_i rest iK
   cases h
   cases NN;cases kP
   exact step hu rfl hx hy (run_equalIn_string w d f.type _ _ hu) (jr hks NO HF iK)
theorem fX:∀{ks ls:List Kd} {as bs:List V} {c:Bool},bf (bM c1 c2 c3 c4 c5 c6 c7) (ks++ls) as bs=some c ->
  ∃a b,bf (bM c1 c2 c3 c4 c5 c6 c7) ks (as.take ks.length) (bs.take ks.length)=some a/\bf (bM c1 c2 c3 c4 c5 c6 c7) ls (as.drop ks.length) (bs.drop ks.length)=some b/\c=(a&&b)
 |[],ls,as,bs,c,h=>⟨true,c,by simp [bf],by simpa using h,rfl⟩
 |k::ks,ls,as,bs,c,h=>by
  obtain ⟨a,as',b,bs',rfl,rfl⟩:=ei h
  rw [List.cons_append] at h
  simp only [List.length_cons,List.take_succ_cons,List.drop_succ_cons]
  cases k
  ·simp only [bf] at h
   split at h<;>try (cases h;done)
   rename_i p q hp hq
   split at h<;>try (cases h;done)
   rename_i rest hr
   cases h
   obtain ⟨x,y,h1,h2,h3⟩:=fX hr
   refine ⟨_,y,by simp only [bf,hp,hq,h1];rfl,h2,?_⟩
   subst h3;simp [bM,Bool.and_assoc]
  ·cases a <;> cases b <;> simp only [bf] at h <;> try (cases h; done)
   split at h<;>try (cases h;done)
   rename_i hk
   split at h<;>try (cases h;done)
   rename_i rest hr
   cases h
   obtain ⟨x,y,h1,h2,h3⟩:=fX hr
   refine ⟨_,y,by simp only [bf,if_pos hk,h1];rfl,h2,?_⟩
   subst h3;simp [bM,Bool.and_assoc]
  ·cases a <;> cases b <;> simp only [bf] at h <;> try (cases h; done)
   split at h<;>try (cases h;done)
   rename_i rest hr
   cases h
   obtain ⟨x,y,h1,h2,h3⟩:=fX hr
   refine ⟨_,y,by simp only [bf,h1];rfl,h2,?_⟩
   subst h3;simp [bM,Bool.and_assoc]
theorem nX : ∀ {ks : List Kd} {as bs : List V} {c : Bool}, bf (bM c1 c2 c3 c4 c5 c6 c7) ks as bs = some c → as.length = ks.length ∧ bs.length = ks.length
 |[],as,bs,c,h=>by cases as<;>cases bs<;>simp [bf] at h ⊢
 |k::ks,as,bs,c,h=>by
  obtain ⟨a,as',b,bs',rfl,rfl⟩:=ei h
  have:∃d,bf (bM c1 c2 c3 c4 c5 c6 c7) ks as' bs'=some d:=by
   cases k
   all_goals
    cases a<;>cases b<;>simp only [bf] at h<;>repeat (first|(cases h;done)|(split at h))
   all_goals (first|(exact ⟨_,by assumption⟩)|(cases h;done))
  obtain ⟨d,hd⟩:=this
  have:=nX hd
  simp [this.1,this.2]
theorem rG {d:Nat} {k':IntKind} {e:TypeId} {xs ys:Array Value} (he:P.underlying e=some (.int k')):∀{m n:Nat} {as bs:List V} {c:Bool},aR ι μ as (xs.toList.drop n)->aR ι μ bs (ys.toList.drop n) ->
  bf (bM c1 c2 c3 c4 c5 c6 c7) (List.replicate m .i) as bs=some c->(Op.eqItems (d+1) e 1 xs ys (List.range' n m)).run P w = .ok c w
 |0,n,as,bs,c,ha,hb,h=>by
  cases as<;>cases bs<;>simp [bf] at h
  subst h;rfl
 |m+1,n,as,bs,c,ha,hb,h=>by
  rw [List.replicate_succ] at h
  obtain ⟨a,as',b,bs',e1,e2⟩:=ei h
  subst e1;subst e2
  obtain ⟨x,xs',hx,NN,SS⟩:=ha.cA
  obtain ⟨y,ys',hy,kP,iw⟩:=hb.cA
  have NO:aR ι μ as' (xs.toList.drop (n+1)):=by rw [<-List.drop_drop (i:=1),hx];exact SS
  have HF:aR ι μ bs' (ys.toList.drop (n+1)):=by rw [<-List.drop_drop (i:=1),hy];exact iw
  cases a<;>cases b<;>simp only [bf] at h<;>try (cases h;done)
  split at h<;>try (cases h;done)
  rename_i hk
  split at h<;>try (cases h;done)
  rename_i rest iK
  cases h
  cases NN;cases kP
  have jF:(isAgg e).run P w = .ok false w:=by
   unfold isAgg
   rw [Sem.run_bind,run_underlying he w]
   rfl
  have hx0:∀{zs:Array Value} {z:Value} {zs':List Value},zs.toList.drop n=z::zs'->zs[n]?=some z:=fun {zs z zs'} h=>by
   have:(zs.toList.drop n)[0]?=some z:=by rw [h];rfl
   simpa using this
  have p1:∀{zs:Array Value} {z:Value} {zs':List Value},zs.toList.drop n=z::zs'->(part e zs (n * 1)).run P w = .ok z w:=fun {zs z zs'} h=>by
   simp [part,jF,hx0 h]
  rw [List.range'_succ]
  subst hk
  rename_i z1 z2 _
  have ih:=rG (d:=d) he NO HF iK
  simp only [Op.eqItems,Sem.run_bind,p1 hx,p1 hy,Result.andThen_ok,run_equalIn_int w d e _ _ _ _ he]
  show _=Result.ok (z1==z2&&rest) w
  cases hz:(z1==z2)
  ·simp
  ·simpa using ih
theorem NP {d : Nat} {t : TypeId} {xs ys : Array Value} {ks : List Kd} {as bs : List V} {c : Bool} (ht : Kt P t = some ks) (ha : aR ι μ as xs.toList) (hb : aR ι μ bs ys.toList)
  (h:bf (bM c1 c2 c3 c4 c5 c6 c7) ks as bs=some c):(Op.equalIn (d+2) t (.agg xs) (.agg ys)).run P w = .ok c w/\∃m e i,P.underlying t=some (.array m e)/\ks=List.replicate m .i/\P.info? t=some i/\P.cellsOf t=m:=by
 unfold Kt at ht
 split at ht<;>try (cases ht;done)
 rename_i m e hu
 split at ht<;>try (cases ht;done)
 rename_i k' he
 split at ht<;>try (cases ht;done)
 rename_i hc
 cases ht
 obtain ⟨h1,h2,h3,h4⟩:=hc
 obtain ⟨i,hi⟩:=Option.isSome_iff_exists.1 h2
 obtain ⟨i',hi'⟩:=Option.isSome_iff_exists.1 h3
 refine ⟨?_,m,e,i',hu,rfl,hi',h4⟩
 rw [run_equalIn_array w (d+1) xs ys hu hi,h1,List.range_eq_range']
 exact rG (d:=d) he (by simpa using ha) (by simpa using hb) h
theorem gm {d:Nat} {xs ys:Array Value}:∀{fs:List Field} {n:Nat} {ks:List Kd} {as bs:List V} {c:Bool},iO P n fs=some ks->aR ι μ as (xs.toList.drop n)->aR ι μ bs (ys.toList.drop n) ->
  bf (bM c1 c2 c3 c4 c5 c6 c7) ks as bs=some c->(Op.eqFields (d+2) xs ys fs).run P w = .ok c w
 |[],n,ks,as,bs,c,hf,ha,hb,h=>by
  cases hf
  cases as<;>cases bs<;>simp [bf] at h
  subst h;rfl
 |f::r,n,ks,as,bs,c,hf,ha,hb,h=>by
  unfold iO at hf
  split at hf<;>try (cases hf;done)
  rename_i hn
  obtain ⟨hname,hoff⟩:=hn
  have step:∀{x y:Value} {xs' ys':List Value} {b rest:Bool} {SR:TypeDesc},P.underlying f.type=some SR->(match SR with | .struct _=>false | .array _ _=>false|_=>true)=true->xs.toList.drop n=x::xs'->ys.toList.drop n=y::ys' ->
    (Op.equalIn (d+2) f.type x y).run P w = .ok b w->(Op.eqFields (d+2) xs ys r).run P w = .ok rest w->(Op.eqFields (d+2) xs ys (f::r)).run P w = .ok (b&&rest) w:=by
   intro x y xs' ys' b rest SR hu hd hx hy he hr
   have jF:(isAgg f.type).run P w = .ok false w:=by
    unfold isAgg
    rw [Sem.run_bind,run_underlying hu w]
    cases SR<;>simp_all
   have hx0:xs[n]?=some x:=by
    have:(xs.toList.drop n)[0]?=some x:=by rw [hx];rfl
    simpa using this
   have hy0:ys[n]?=some y:=by
    have:(ys.toList.drop n)[0]?=some y:=by rw [hy];rfl
    simpa using this
   have p1:(part f.type xs f.offset).run P w = .ok x w:=by simp [part,jF,hoff,hx0]
   have p2:(part f.type ys f.offset).run P w = .ok y w:=by simp [part,jF,hoff,hy0]
   simp only [Op.eqFields,if_pos hname,Sem.run_bind,p1,p2,Result.andThen_ok,he]
   cases b<;>simp [hr]
  split at hf<;>try (cases hf;done)
  ·rename_i hu
   cases hks:iO P (n+1) r<;>rw [hks] at hf<;>simp only [Option.map_none,Option.map_some,Option.some.injEq] at hf
   ·cases hf
   rename_i ks'
   subst hf
   obtain ⟨a,as',b,bs',e1,e2⟩:=ei h
   subst e1;subst e2
   obtain ⟨x,xs',hx,NN,SS⟩:=ha.cA
   obtain ⟨y,ys',hy,kP,iw⟩:=hb.cA
   have NO:aR ι μ as' (xs.toList.drop (n+1)):=by rw [<-List.drop_drop (i:=1),hx];exact SS
   have HF:aR ι μ bs' (ys.toList.drop (n+1)):=by rw [<-List.drop_drop (i:=1),hy];exact iw
   simp only [bf] at h
   split at h<;>try (cases h;done)
   rename_i p q hp hq
   split at h<;>try (cases h;done)
   rename_i rest iK
   cases h
   rw [kX hp NN] at hx
   rw [kX hq kP] at hy
   exact step hu rfl hx hy (run_equalIn_bool' w (d+1) f.type p q hu) (gm hks NO HF iK)
  ·rename_i hu
   cases hks:iO P (n+1) r<;>rw [hks] at hf<;>simp only [Option.map_none,Option.map_some,Option.some.injEq] at hf
   ·cases hf
   rename_i ks'
   subst hf
   obtain ⟨a,as',b,bs',e1,e2⟩:=ei h
   subst e1;subst e2
   obtain ⟨x,xs',hx,NN,SS⟩:=ha.cA
   obtain ⟨y,ys',hy,kP,iw⟩:=hb.cA
   have NO:aR ι μ as' (xs.toList.drop (n+1)):=by rw [<-List.drop_drop (i:=1),hx];exact SS
   have HF:aR ι μ bs' (ys.toList.drop (n+1)):=by rw [<-List.drop_drop (i:=1),hy];exact iw
   cases a<;>cases b<;>simp only [bf] at h<;>try (cases h;done)
   split at h<;>try (cases h;done)
   rename_i hkk;subst hkk
   split at h<;>try (cases h;done)
   rename_i rest iK
   cases h
   cases NN;cases kP
   exact step hu rfl hx hy (run_equalIn_int w (d+1) f.type _ _ _ _ hu) (gm hks NO HF iK)
  ·rename_i hu
   cases hks:iO P (n+1) r<;>rw [hks] at hf<;>simp only [Option.map_none,Option.map_some,Option.some.injEq] at hf
   ·cases hf
   rename_i ks'
   subst hf
   obtain ⟨a,as',b,bs',e1,e2⟩:=ei h
   subst e1;subst e2
   obtain ⟨x,xs',hx,NN,SS⟩:=ha.cA
   obtain ⟨y,ys',hy,kP,iw⟩:=hb.cA
   have NO:aR ι μ as' (xs.toList.drop (n+1)):=by rw [<-List.drop_drop (i:=1),hx];exact SS
   have HF:aR ι μ bs' (ys.toList.drop (n+1)):=by rw [<-List.drop_drop (i:=1),hy];exact iw
   cases a<;>cases b<;>simp only [bf] at h<;>try (cases h;done)
   split at h<;>try (cases h;done)
   rename_i rest iK
   cases h
   cases NN;cases kP
   exact step hu rfl hx hy (run_equalIn_string w (d+1) f.type _ _ hu) (gm hks NO HF iK)
  ·rename_i gs hu
   split at hf<;>try (cases hf;done)
   rename_i ls hls
   cases hks:iO P (n+ls.length) r<;>rw [hks] at hf<;>simp only [Option.map_none,Option.map_some,Option.some.injEq] at hf
   ·cases hf
   rename_i ks'
   subst hf
   obtain ⟨c1',c2',h1,h2,h3⟩:=fX h
   have hlen:=nX h1
   unfold Nz at hls
   rw [hu] at hls
   dsimp only at hls
   split at hls<;>try (cases hls;done)
   rename_i jM
   split at hls<;>try (cases hls;done)
   rename_i ls' hfl
   split at hls<;>try (cases hls;done)
   rename_i hsz
   cases hls
   obtain ⟨i,hi⟩:=Option.isSome_iff_exists.1 jM.2
   have jF:(isAgg f.type).run P w = .ok true w:=by
    unfold isAgg
    rw [Sem.run_bind,run_underlying hu w]
    simp
   have hsize:(sizeOf f.type).run P w = .ok ls.length w:=by rw [<-hsz];exact run_sizeOf w hi
   have p1:(part f.type xs f.offset).run P w = .ok (.agg (xs.extract n (n+ls.length))) w:=by
    simp only [part,Sem.run_bind,jF,Result.andThen_ok,if_true,hsize,hoff];rfl
   have p2:(part f.type ys f.offset).run P w = .ok (.agg (ys.extract n (n+ls.length))) w:=by
    simp only [part,Sem.run_bind,jF,Result.andThen_ok,if_true,hsize,hoff];rfl
   have hfo:P.fieldsOf f.type=gs:=by simp [Program.fieldsOf,hu]
   have ex:∀zs:Array Value,(zs.extract n (n+ls.length)).toList.drop 0=(zs.toList.drop n).take ls.length:=fun zs=>by
    rw [List.drop_zero,Array.toList_extract,List.extract_eq_take_drop];congr 1;omega
   have e0:=run_equalIn_struct (P:=P) w (d+1) f.type (xs.extract n (n+ls.length)) (ys.extract n (n+ls.length)) (by rw [hfo];exact hu) jM.1
   rw [hfo] at e0
   have e1:(Op.eqFields (d+1) (xs.extract n (n+ls.length)) (ys.extract n (n+ls.length)) gs.toList).run P w = .ok c1' w:=jr (d:=d) (xs:=xs.extract n (n+ls.length)) (ys:=ys.extract n (n+ls.length)) hfl (by rw [ex];exact ha.take _) (by rw [ex];exact hb.take _) h1
   have e2:(Op.eqFields (d+2) xs ys r).run P w = .ok c2' w:=gm (d:=d) (xs:=xs) (ys:=ys) hks (by rw [<-List.drop_drop];exact ha.drop _) (by rw [<-List.drop_drop];exact hb.drop _) h2
   have e3:=e0.trans e1
   subst h3
   simp only [Op.eqFields,if_pos hname,Sem.run_bind,p1,p2,Result.andThen_ok,e3]
   cases c1'<;>simp [e2]
  ·rename_i hu
   split at hf<;>try (cases hf;done)
   rename_i ls hls
   cases hks:iO P (n+ls.length) r<;>rw [hks] at hf<;>simp only [Option.map_none,Option.map_some,Option.some.injEq] at hf
   ·cases hf
   rename_i ks'
   subst hf
   obtain ⟨c1',c2',h1,h2,h3⟩:=fX h
   have hlen:=nX h1
   have jF:(isAgg f.type).run P w = .ok true w:=by
    unfold isAgg
    rw [Sem.run_bind,run_underlying hu w]
    simp
   have ex:∀zs:Array Value,(zs.extract n (n+ls.length)).toList=(zs.toList.drop n).take ls.length:=fun zs=>by
    rw [Array.toList_extract,List.extract_eq_take_drop];congr 1;omega
   obtain ⟨e1,m,e,i,-,hm,hi,hsz⟩:=NP (d:=d) (w:=w) (xs:=xs.extract n (n+ls.length)) (ys:=ys.extract n (n+ls.length)) hls (by rw [ex];exact ha.take _) (by rw [ex];exact hb.take _) h1
   have Yj:P.cellsOf f.type=ls.length:=by rw [hm,List.length_replicate];exact hsz
   have hsize:(sizeOf f.type).run P w = .ok ls.length w:=by rw [<-Yj];exact run_sizeOf w hi
   have p1:(part f.type xs f.offset).run P w = .ok (.agg (xs.extract n (n+ls.length))) w:=by
    simp only [part,Sem.run_bind,jF,Result.andThen_ok,if_true,hsize,hoff];rfl
   have p2:(part f.type ys f.offset).run P w = .ok (.agg (ys.extract n (n+ls.length))) w:=by
    simp only [part,Sem.run_bind,jF,Result.andThen_ok,if_true,hsize,hoff];rfl
   have e2:(Op.eqFields (d+2) xs ys r).run P w = .ok c2' w:=gm (d:=d) (xs:=xs) (ys:=ys) hks (by rw [<-List.drop_drop];exact ha.drop _) (by rw [<-List.drop_drop];exact hb.drop _) h2
   subst h3
   simp only [Op.eqFields,if_pos hname,Sem.run_bind,p1,p2,Result.andThen_ok,e1]
   cases c1'<;>simp [e2]
end
end Go.AM
end
section
namespace Go.AM
section
variable {P : Program} {Y : Ctx} {ι ι' : aB} {μ μ' : Mu} {H : aO} {w w' : World}
 {c1:Nat->List V->aO->(V->aO->Prop)->Prop} {c2:Nat->List V->V->Prop} {c3:C->St->(Ex->St->Prop)->Prop}
 {c4:Nat->List V->aO->(V->aO->Prop)->Prop} {c5:O->List Nat->C->C->St->(Ex->St->Prop)->Prop} {c6:C->St->(Ex->St->Prop)->Prop} {c7:GC}
theorem nY : ∀ {t t1 : Ty} {p : List Bool} (q : List Bool), t.qZ p = some t1 → t.b7 (p ++ q) = t.b7 p + t1.b7 q
 |t,t1,[],q,h=>by
  have:t=t1:=by cases t<;>(simp [Ty.qZ] at h;exact h)
  subst this
  have h0:t.b7 []=0:=by cases t<;>rfl
  simp [h0]
 | .prod a b,t1,false::p,q,h=>by simp only [Ty.qZ] at h;simp only [List.cons_append,Ty.b7];exact nY q h
 | .prod a b,t1,true::p,q,h=>by simp only [Ty.qZ] at h;simp only [List.cons_append,Ty.b7];rw [nY q h];omega
 | .unit,t1,b::p,q,h=>by cases b<;>simp [Ty.qZ] at h
 | .bool,t1,b::p,q,h=>by cases b<;>simp [Ty.qZ] at h
 | .str,t1,b::p,q,h=>by cases b<;>simp [Ty.qZ] at h
 | .int k,t1,b::p,q,h=>by cases b<;>simp [Ty.qZ] at h
 | .list k,t1,b::p,q,h=>by cases b<;>simp [Ty.qZ] at h
 | .bU _ _ _,t1,b::p,q,h=>by cases b<;>simp [Ty.qZ] at h
theorem Reads.drop' {b o:Nat} {vs:List Value} (h:Reads ι b o vs) (d k:Nat):Reads ι b (o+d) ((vs.drop d).take k):=h.sub d k
theorem zE {off : Nat} {path : List Bool} {x : O} {env : List (Nat × V)} {bl : ai} {n : Nat} {ob : List Bool} {v : V} {u : dU} {px : Value} (hx : Rel ι μ (x.ev env) px)
  (aj:de (bM c1 c2 c3 c4 c5 c6 c7) (.qc off path x) env bl n=some (ob,v,u)) (cX:qm ob):u=[]/\∃b o,px = .pointer (some ⟨b,o,none⟩)/\Rel ι μ v (.pointer (some ⟨b,o+off,none⟩)):=by
 simp only [de] at aj
 split at aj<;>try (cases aj;done)
 ·rename_i id o eF
  rw [eF] at hx
  cases aj
  cases hx with
  |ptr _ _ L hL=>exact ⟨rfl,_,_,rfl,by rw [Nat.add_assoc];exact .ptr id (o+off) L hL⟩
 ·rename_i cs eF
  rw [eF] at hx
  split at aj<;>try (cases aj;done)
  rename_i hle
  cases aj
  cases hx with
  |av _ b o g h1 h2 h3 =>
   refine ⟨rfl,_,_,rfl,.av _ b (o+off) (fun i=>g (off+i)) (fun i hi=>?_) (fun i v hv=>?_) (fun i=>h3 _)⟩
   ·rw [Nat.add_assoc];exact h1 _ (by simp at hi;omega)
   ·exact h2 _ v (by simpa using hv)
 ·rename_i id t i p eF
  rw [eF] at hx
  split at aj<;>try (cases aj;done)
  rename_i t1 hat
  split at aj<;>try (cases aj;done)
  rename_i hoff
  split at aj<;>try (cases aj;done)
  cases aj
  cases hx with
  |ep _ _ _ _ L hL =>
   refine ⟨rfl,_,_,rfl,?_⟩
   have:=Rel.ep (ι:=ι) id t i (p++path) L hL
   rw [nY path hat,hoff,<-Nat.add_assoc] at this
   exact this
 ·rename_i t y eF
  rw [eF] at hx
  split at aj<;>try (cases aj;done)
  rename_i hoff
  split at aj<;>try (cases aj;done)
  rename_i t2 z nU
  cases aj
  cases hx with
  |ip _ _ b o us h1 h2 =>
   obtain ⟨g1,g2,_⟩:=rD nU h2
   rw [hoff] at g1
   exact ⟨rfl,_,_,rfl,.ip t2 z b (o+off) _ (h1.sub off t2.sz) g1⟩
 ·rename_i id t m eF
  rw [eF] at hx
  split at aj<;>try (cases aj;done)
  rename_i hoff
  cases aj
  cases hx with
  |pa _ _ _ L hL hm =>
   refine ⟨rfl,_,_,rfl,?_⟩
   have:=Rel.ep (ι:=ι) id t (off / t.sz) [] L hL
   have h0:t.b7 []=0:=by cases t<;>rfl
   rw [h0,Nat.add_zero,hoff.1] at this
   exact this
 ·rename_i t xs eF
  rw [eF] at hx
  split at aj<;>try (cases aj;done)
  rename_i hoff
  cases aj
  have hi:off / t.sz<xs.length:=by simpa using cX _ (List.mem_singleton.2 rfl)
  cases hx with
  |jP _ _ b o us h1 h2 =>
   have Fe:xs[off / t.sz]?=some (xs.getD (off / t.sz) t.zero):=by simp [List.getD,hi]
   have hc:=h2.at (fun _ _=>ak.length) Fe
   rw [hoff] at hc
   exact ⟨rfl,_,_,rfl,.ip t _ b (o+off) _ (h1.sub off t.sz) hc⟩
 ·rename_i id o l eF
  rw [eF] at hx
  cases aj
  cases hx with
  |sp _ _ _ L hL hb =>
   refine ⟨rfl,_,_,rfl,?_⟩
   have:=Rel.sp (ι:=ι) id (o+off) l L hL hb
   have e:L.ba+(o+off+ke l)=L.ba+(o+ke l)+off:=by omega
   rwa [e] at this
theorem Kx {eZ : Nat} {x i : O} {env : List (Nat × V)} {bl : ai} {n : Nat} {ob : List Bool} {v : V} {u : dU} {px iv : Value} (hx : Rel ι μ (x.ev env) px) (hi : Rel ι μ (i.ev env) iv)
  (aj:de (bM c1 c2 c3 c4 c5 c6 c7) (.idx eZ x i) env bl n=some (ob,v,u)) (cX:qm ob) :
  u=[]/\∃k m b o len cap,iv = .int k m/\px = .slice (some ⟨b,o,none⟩) len cap/\0<=m/\m<len/\Rel ι μ v (.pointer (some ⟨b,o+m.toNat * eZ,none⟩)):=by
 simp only [de] at aj
 split at aj<;>try (cases aj;done)
 rename_i k m EX
 rw [EX] at hi
 cases hi
 split at aj<;>try (cases aj;done)
 ·rename_i id t lo len eF
  rw [eF] at hx
  split at aj<;>try (cases aj;done)
  rename_i hsz
  cases aj
  have hb:=cX _ (List.mem_singleton.2 rfl)
  simp only [decide_eq_true_eq] at hb
  have kP:m<(len:Int):=hb.2
  cases hx with
  |cg=>omega
  |sl _ _ _ _ cap L hL h1 h2 h3 =>
   refine ⟨rfl,k,m,_,_,_,_,rfl,rfl,hb.1,kP,?_⟩
   have:=Rel.ep (ι:=ι) id t (lo+m.toNat) [] L hL
   have h0:t.b7 []=0:=by cases t<;>rfl
   rw [h0,Nat.add_mul,Nat.add_zero,<-Nat.add_assoc,hsz] at this
   rw [hsz];exact this
 ·rename_i t xs eF
  rw [eF] at hx
  split at aj<;>try (cases aj;done)
  rename_i hsz
  cases aj
  have hb:=cX _ (List.mem_singleton.2 rfl)
  simp only [decide_eq_true_eq] at hb
  have kP:m<(xs.length:Int):=hb.2
  cases hx with
  |eG _ _ _ hd =>
   obtain ⟨a,cap,e,hle,hd⟩:=hd
   cases e
   rcases hd with rfl|⟨b,o,us,rfl,hrd,hc⟩
   ·simp at kP;omega
   ·have Fe : xs[m.toNat]? = some (xs.getD m.toNat t.zero) := by simp [List.getD, show m.toNat < xs.length by omega]
    have hcell:=hc.at (fun _ _=>ak.length) Fe
    refine ⟨rfl,k,m,_,_,_,_,rfl,rfl,hb.1,kP,?_⟩
    rw [<-hsz]
    exact .ip t _ b _ _ (hrd.sub (m.toNat * t.sz) t.sz) hcell
theorem wv {k : IntKind} : ∀ {a z : Int} {vs : List V} {xs : List Value}, jf (bM c1 c2 c3 c4 c5 c6 c7) true k a vs = some z → aR ι μ vs xs → (xs.foldlM Builtin.max2 (.int k a)).run P w = .ok (.int k z) w
 |a,z,[],xs,h,hr=>by cases h;rw [hr.of_nil];rfl
 |a,z,v::r,xs,h,hr=>by
  obtain ⟨x,xs',rfl,h1,h2⟩:=hr.cA
  cases v<;>simp only [jf] at h<;>try (cases h;done)
  split at h<;>try (cases h;done)
  rename_i hk;subst hk
  cases h1
  simp only [List.foldlM_cons,Builtin.max2,Sem.run_bind,Sem.run_pure,Result.andThen_ok]
  exact wv h h2
theorem wA {k : IntKind} : ∀ {a z : Int} {vs : List V} {xs : List Value}, jf (bM c1 c2 c3 c4 c5 c6 c7) false k a vs = some z → aR ι μ vs xs → (xs.foldlM Builtin.min2 (.int k a)).run P w = .ok (.int k z) w
 |a,z,[],xs,h,hr=>by cases h;rw [hr.of_nil];rfl
 |a,z,v::r,xs,h,hr=>by
  obtain ⟨x,xs',rfl,h1,h2⟩:=hr.cA
  cases v<;>simp only [jf] at h<;>try (cases h;done)
  split at h<;>try (cases h;done)
  rename_i hk;subst hk
  cases h1
  simp only [List.foldlM_cons,Builtin.min2,Sem.run_bind,Sem.run_pure,Result.andThen_ok]
  exact wA h h2
theorem oY {t:Ty} {v:Value} (h:zy t v=true):ak ι t t.zero [v]:=by
 unfold zy at h
 split at h<;>try (cases h;done)
 ·simp at h;subst h;rfl
 ·rename_i s
  have:s=ByteArray.empty:=ByteArray.size_eq_zero_iff.1 (by simpa using h)
  subst this;rfl
 ·simp at h;obtain ⟨rfl,rfl⟩:=h;rfl
 ·exact ⟨none,0,rfl,Nat.le_refl _,.inl rfl⟩
theorem gS : ∀ {t : Ty} {vs r : List Value}, fR t vs = some r → ∃ us, vs = us ++ r ∧ ak ι t t.zero us
 | .unit,vs,r,h=>by cases h;exact ⟨[],rfl,rfl⟩
 | .bool,vs,r,h=>by
  cases vs<;>simp [fR] at h
  obtain ⟨h,rfl⟩:=h;exact ⟨[_],rfl,oY h⟩
 | .str,vs,r,h=>by
  cases vs<;>simp [fR] at h
  obtain ⟨h,rfl⟩:=h;exact ⟨[_],rfl,oY h⟩
 | .int k,vs,r,h=>by
  cases vs<;>simp [fR] at h
  obtain ⟨h,rfl⟩:=h;exact ⟨[_],rfl,oY h⟩
 | .list t,vs,r,h=>by
  cases vs<;>simp [fR] at h
  obtain ⟨h,rfl⟩:=h;exact ⟨[_],rfl,oY h⟩
 | .prod a b,vs,r,h=>by
  simp only [fR] at h
  split at h<;>try (cases h;done)
  rename_i r1 h1
  obtain ⟨us,rfl,hu⟩:=gS h1
  obtain ⟨ws,rfl,hw⟩:=gS h
  exact ⟨us++ws,by simp,us,ws,rfl,hu,hw⟩
 | .bU _ _ _,vs,r,h=>by cases vs<;>simp [fR] at h
end
end Go.AM
end
