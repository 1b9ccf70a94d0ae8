/- A small typed machine: its data, its values, its heap, its operations. Nothing here speaks of the model's runs. How the small machine's values and heap stand for the model's. The model's code, read as the small machine's. The small machine's code: what must hold for it to end well. The small machine's heap in the model's world. What is read and written, small machine and model. Data out of cells and into them. Each operation of the small machine is the model's: loads, stores, new blocks. Each operation of the small machine is the model's: literals, stores, append, make. Each operation of the small machine is the model's: append, make, slices. Each operation of the small machine is the model's: the plain ones; all of them. Each operation of the small machine is the model's: all of them. -/
import Derived.Deep.MidRow
import Derived.Deep.AppendSrc
import Derived.RangeFuncNested
import Derived.RangeFuncLeaves
import Derived.KernelRfl
import Derived.Laws.StructEq
import Derived.ChangeKeysEq
set_option linter.unusedSectionVars false
set_option linter.unusedVariables false
set_option linter.unusedSimpArgs false
section
namespace Go.AM
inductive Ty where
 |unit|bool|str|int (k:IntKind)|list (t:Ty)|prod (a b:Ty)|cn (d:Nat) (g:Bool) (a:Ty)
 deriving DecidableEq
@[reducible] def Ty.den : Ty → Type
 | .unit=>Unit
 | .bool=>Bool
 | .str=>ByteArray
 | .int _=>Int
 | .list t=>List t.den
 | .prod a b=>a.den×b.den
 | .cn _ _ a=>a.den
def Ty.sz : Ty → Nat
 | .unit=>0
 | .prod a b=>a.sz+b.sz
 | .bool=>1
 | .str=>1
 | .int _=>1
 | .list _=>1
 | .cn _ _ _=>1
def Ty.zero : (t : Ty) → t.den
 | .unit=>()
 | .bool=>false
 | .str=>ByteArray.empty
 | .int _=>(0:Int)
 | .list _=>[]
 | .prod a b=>(a.zero,b.zero)
 | .cn _ _ a=>a.zero
inductive V where
 |any
 |tf (b:Bool)
 |bool (b:Bool)
 |int (k:IntKind) (n:Int)
 |str (s:ByteArray)
 |ee
 |cw
 |ek
 |dS (t:Ty) (xs:List t.den)
 |bK
 |sl (id:Nat) (t:Ty) (lo n:Nat)
 |ptr (id off:Nat)
 |bR (cells:List V)
 |ep (id:Nat) (t:Ty) (i:Nat) (p:List Bool)
 |ip (t:Ty) (x:t.den)
 |fn (f:Nat) (first captured:List V)
 |yl (id:Nat)
 |agg (cs:List V)
 |cq (vs:List V)
 |cn (t:TypeId) (v:V)
 |cb (c:Bool)
 |mp (id:Nat)
 |dA
 |pa (id:Nat) (t:Ty) (n:Nat)
 |iN (t:Ty) (xs:List t.den)
 |sp (id o:Nat) (l:List (Nat×Nat×Int))
def V.cells? : V → Option (List V)
 | .agg cs=>some cs
 | .any=>none
 | .cq _=>none
 | .cb _=>none
 |v=>some [v]
def get (t : Nat) : List (Nat × V) → V
 |[]=>.any
 |(s,v)::r=>match Nat.beq s t with
  |true=>v
  |false=>get t r
inductive O where
 |t (n:Nat)
 |c (v:V)
 |m (n:Nat) (jL:List (Nat×Nat))
def Fi (jL : List (Nat × Nat)) : V → V
 | .cn t v=>match jL.lookup t with
  |some f=>.fn f [v] []
  |none=>.any
 |_=>.any
def O.ev (x:O) (env:List (Nat×V)):V :=
 match x with
 | .t n=>get n env
 | .c v=>v
 | .m n jL=>Fi jL (get n env)
inductive sZ where
 |add|sub|mul|quo|rem|and|or|xor|andNot|shl|shr|eql|neq|lss|leq|gtr|geq
 deriving DecidableEq
inductive w8 where
 |qC
 |qD (len dw:Nat) (g:Bool)
 |bytes
 |text
 |clear (t:Ty)
 |Fj (neg:Bool)
 |zL (neg:Bool)
 |zM (neg:Bool)
 |SZ
 |Fk (kt:Ty) (kg:Bool) (vt:Ty) (vg:Bool)
 |zN (kt:Ty) (kg:Bool) (vt:Ty) (vg ok:Bool)
 |ta (kt:Ty) (kg:Bool) (vt:Ty) (vg:Bool)
 |JG
 |JH (n:Nat)
 |S0 (t:TypeId)
 |lQ (t:Ty) (n:Nat)
 |JI (t:Ty) (n:Nat)
 |S2
 |OD (t:Ty)
 deriving DecidableEq
inductive Kd where
 |b|i|s
 deriving DecidableEq
inductive I where
 |mv (x:O)
 |pick (c a b:O)
 |alloc (z:List V)
 |box (x:O)
 |build (z:List V) (parts:List (Nat×Nat×O))
 |dy (t:Ty) (xs:List O)
 |load (agg:Bool) (k:Nat) (x:O)
 |store (k:Nat) (a x:O)
 |bin (op:sZ) (x y:O)
 |JJ (neg:Bool) (x y:O)
 |eqs (neg:Bool) (ks:List Kd) (x y:O)
 |neg (x:O)
 |not (x:O)
 |conv (k:IntKind) (x:O)
 |eY (off:Nat) (path:List Bool) (x:O)
 |field (agg:Bool) (off k:Nat) (x:O)
 |idx (dw:Nat) (x i:O)
 |tc (len dw:Nat) (x i:O)
 |ext (k:Nat) (x:O)
 |len (x:O)
 |lens (x:O)
 |td (n:Nat)
 |append (dw:Nat) (x y:O)
 |fM (t:Ty) (n:O)
 |nV (f:Nat) (first captured:List O)
 |slice (dw:Nat) (x:O) (lo hi mx:Option O)
 |cF (mx:Bool) (x:O) (ys:List O)
 |ex (e:w8) (xs:List O)
inductive dB where
 |op (dst:Option Nat) (g:Option (Nat×Bool)) (i:I)
 |call (dst:Option Nat) (g:Option (Nat×Bool)) (f:O) (args:List O) (tys:List (Option Ty))
inductive C where
 |skip
 |dg (items:List dB)
 |draw (bN:List (List Nat)) (items:List dB)
 |seq (a b:C)
 |cond (c:O) (a b:C)
 |block (id:Nat) (c:C)
 |loop (c:C)
 |exit (id:Nat)
 |ret
 |cA (f:O) (params:List Nat) (assign body:C)
 |gD (pre:List dB) (m:O) (it:Nat) (cl:List Nat) (e:Option Nat) (kt:Ty) (kg:Bool) (vt:Ty) (vg:Bool) (Ju:Nat) (body:C)
inductive Ex where
 |normal
 |exit (id:Nat)
 |ret
inductive lR where
 |ready|busy|done|exhausted
 deriving DecidableEq
inductive js where
 |cells (cs:List V) (fz:Bool)
 |arr (t:Ty) (xs:List t.den) (fz:Bool)
 |loop (st:lR) (jump:Option Ex) (d:Nat) (env:List (Nat×V)) (params:List Nat) (assign body:C) (N:Nat)
 |gi
 |map (kt:Ty) (kg:Bool) (vt:Ty) (vg:Bool) (es:List (kt.den×vt.den))
 |jo (t:Ty) (xs:List t.den) (i:Nat) (p:List Bool) (v:V)
abbrev aj:=List (Nat×js)
def aq (id : Nat) : aj → Option js
 |[]=>none
 |(s,b)::r=>match Nat.beq s id with
  |true=>some b
  |false=>aq id r
def bH (id : Nat) : aj → aj
 |[]=>[]
 |(s,b)::r=>match Nat.beq s id with
  |true=>bH id r
  |false=>(s,b)::bH id r
structure aK where
 next:Nat
 bl:aj
abbrev cU:=List (Nat×Option js)
def bD : cU → aj → aj
 |[],bl=>bl
 |(id,none)::r,bl=>bD r (bH id bl)
 |(id,some b)::r,bl=>bD r ((id,b)::bH id bl)
structure St where
 env:List (Nat×V)
 H:aK
 ms:List Nat
abbrev GC:=Nat->List V->aj->Nat->V->cU->Prop
structure Ar where
 add:Int->Int->Int
 sub:Int->Int->Int
 mul:Int->Int->Int
 quo:Int->Int->Int
 rem:Int->Int->Int
 bits:sZ->IntKind->Int->Int->Int
 shr:Int->Int->Int
 shl:Int->Int->Int
 en:Int->Int->Int
 imax:Int->Int->Int
 eq:Int->Int->Bool
 lt:Int->Int->Bool
 le:Int->Int->Bool
 beq:Bool->Bool->Bool
 seq:ByteArray->ByteArray->Bool
 slt:ByteArray->ByteArray->Bool
 C7:ByteArray->Int
 JK:Bool->Bool->Bool
 nW:Bool->Bool
 C8:Bool->Bool->Bool->Bool
 cS:IntKind->Int->Bool
 cR:Int->Int->Bool
 E1:Nat->Nat->Bool
 len:{α:Type}->List α->Nat
 get:{α:Type}->α->List α->Nat->α
 set:{α:Type}->List α->Nat->α->List α
 sub':{α:Type}->List α->Nat->Nat->List α
 app:{α:Type}->List α->List α->List α
 rep:{α:Type}->Nat->α->List α
 zO:Nat->Nat->Nat
 Fm:Nat->Nat->Nat
 nX:Int->Nat
 sat:ByteArray->Nat->Int
 XO:ByteArray->List Int
 Yw:List Int->ByteArray
 wr:IntKind->Int->Int
 clr:{α:Type}->α->List α->Nat->Nat->List α
 S4:(t:Ty)->{β:Type}->List (t.den×β)->t.den->Bool
 zN:(t:Ty)->{β:Type}->β->List (t.den×β)->t.den->β
 ta:(t:Ty)->{β:Type}->List (t.den×β)->t.den->β->List (t.den×β)
 call:Nat->List V->aK->(V->aK->Prop)->Prop
 gY:Nat->List V->V->Prop
 loop:C->St->(Ex->St->Prop)->Prop
 round:Nat->List V->aK->(V->aK->Prop)->Prop
 cA:O->List Nat->C->C->St->(Ex->St->Prop)->Prop
 gD:C->St->(Ex->St->Prop)->Prop
 xj:GC
def iP (t t':Ty) (xs:List t.den):Option (List t'.den):=if h:t=t' then some (h▸xs) else none
def gX : (t : Ty) → t.den → t.den → Bool
 | .unit,_,_=>true
 | .bool,a,b=>a==b
 | .str,a,b=>a.data.toList==b.data.toList
 | .int _,a,b=>a==b
 | .list _,_,_=>false
 | .prod a b,x,y=>gX a x.1 y.1&&gX b x.2 y.2
 | .cn _ _ a,x,y=>gX a x y
def cH (t:Ty) {β:Type} (es:List (t.den×β)) (k:t.den):Bool:=es.any fun e=>gX t k e.1
def dD (t : Ty) {β : Type} (d : β) : List (t.den × β) → t.den → β
 |[],_=>d
 |e::r,k=>if gX t k e.1=true then e.2 else dD t d r k
def XP : (t : Ty) → t.den → t.den → Bool
 | .unit,_,_=>false
 | .bool,a,b => !a&&b
 | .str,a,b=>Op.bytesLess a.toList b.toList
 | .int _,a,b=>decide (a<b)
 | .list _,_,_=>false
 | .prod a b,x,y=>XP a x.1 y.1||(gX a x.1 y.1&&XP b x.2 y.2)
 | .cn _ _ a,x,y=>XP a x y
def Bs (t : Ty) {β : Type} : List (t.den × β) → t.den → β → List (t.den × β)
 |[],k,v=>[(k,v)]
 |e::r,k,v=>if XP t k e.1=true then (k,v)::e::r else e::Bs t r k v
def jX (t:Ty) {β:Type} (es:List (t.den×β)) (k:t.den) (v:β):List (t.den×β) :=
 if cH t es k=true then es.map (fun e=>if gX t k e.1=true then (k,v) else e) else Bs t es k v
def KD (t:Ty) {β:Type} (es:List (t.den×β)):Prop:=es.Pairwise fun a b=>gX t a.1 b.1=false
def mM (s:ByteArray):List Int:=s.data.toList.map fun b=>(b.toNat:Int)
def zP (s:ByteArray) (n:Nat):Int:=(mM s).getD n 0
def xk (ys:List Int):ByteArray:=⟨(ys.map fun z=>UInt8.ofNat z.toNat).toArray⟩
def xp {α:Type} (z:α) (xs:List α) (lo n:Nat):List α:=xs.take lo++List.replicate n z++xs.drop (lo+n)
def dF : (t : Ty) → t.den → List V
 | .unit,_=>[]
 | .bool,b=>[.bool b]
 | .str,s=>[.str s]
 | .int k,n=>[.int k n]
 | .list t,xs=>[.dS t xs]
 | .prod a b,x=>dF a x.1++dF b x.2
 | .cn d g t,x=>[.cn d (jY g (dF t x))]
where jY (g:Bool) (vs:List V):V:=match g with
 |true=>.agg vs
 |false=>match vs with
  |[v]=>v
  |_=>.any
def uZ : Bool → V → Option (List V)
 |true,.agg cs=>some cs
 |true,_=>none
 |false,.agg _=>none
 |false,v=>v.cells?
def bk (ar : Ar) (bl : aj) : (t : Ty) → List V → Option (t.den × cU × List V)
 | .unit,vs=>some ((),[],vs)
 | .bool,.bool b::r=>some (b,[],r)
 | .bool,.tf b::r=>some (b,[],r)
 | .str,.str s::r=>some (s,[],r)
 | .int k,.int k' n::r=>if k=k' then some (n,[],r) else none
 | .list t,.dS t' xs::r=>match iP t' t xs with
  |some ys=>some (ys,[],r)
  |none=>none
 | .list _,.bK::r=>some ([],[],r)
 | .list t,.sl id t' lo n::r=>match aq id bl with
  |some (.arr t'' xs _) =>
   if t'=t'' then
    match iP t'' t xs with
    |some ys=>some (ar.sub' ys lo n,[(id,some (.arr t'' xs true))],r)
    |none=>none
   else none
  |_=>none
 | .prod a b,vs=>match bk ar bl a vs with
  |some (x,u,r)=>match bk ar bl b r with
   |some (y,u',r')=>some ((x,y),u++u',r')
   |none=>none
  |none=>none
 | .cn d g t,.cn d' v::r=>if d=d' then
   (match uZ g v with
   |some cs=>match bk ar [] t cs with
    |some (x,[],[])=>some (x,[],r)
    |_=>none
   |none=>none) else none
 |_,_=>none
def lA : (t : Ty) → t.den → List Bool → Option (Σ t' : Ty, t'.den)
 |t,x,[]=>some ⟨t,x⟩
 | .prod a _,x,false::p=>lA a x.1 p
 | .prod _ b,x,true::p=>lA b x.2 p
 |_,_,_=>none
def Ty.mL : Ty → List Bool → Option Ty
 |t,[]=>some t
 | .prod a _,false::p=>a.mL p
 | .prod _ b,true::p=>b.mL p
 |_,_=>none
def Ty.bx : Ty → List Bool → Nat
 | .prod a _,false::p=>a.bx p
 | .prod a b,true::p=>a.sz+b.bx p
 |_,_=>0
def ck (ar : Ar) (bl : aj) : (t : Ty) → t.den → List Bool → List V → Option (t.den × cU)
 |t,_,[],vs=>match bk ar bl t vs with
  |some (y,u,[])=>some (y,u)
  |_=>none
 | .prod a _,x,false::p,vs=>match ck ar bl a x.1 p vs with
  |some (y,u)=>some ((y,x.2),u)
  |none=>none
 | .prod _ b,x,true::p,vs=>match ck ar bl b x.2 p vs with
  |some (y,u)=>some ((x.1,y),u)
  |none=>none
 |_,_,_,_=>none
def nY (ar : Ar) (bl : aj) (t : Ty) : List V → Option (List t.den × cU)
 |[]=>some ([],[])
 |v::r=>match v.cells? with
  |some vs=>match bk ar bl t vs with
   |some (x,u,[])=>match nY ar bl t r with
    |some (xs,u')=>some (x::xs,u++u')
    |none=>none
   |_=>none
  |none=>none
def cut (off k:Nat) (cs:List V):Option (List V) :=
 if off+k<=cs.length then some ((cs.drop off).take k) else none
def dG (agg:Bool) (cs:List V):Option V :=
 match agg,cs with
 |true,cs=>some (.agg cs)
 |false,[c]=>some c
 |false,_=>none
def mN : Nat → List V → List V → Option (List V)
 |0,vs,cs=>if vs.length<=cs.length then some (vs++cs.drop vs.length) else none
 |off+1,vs,c::cs=>match mN off vs cs with
  |some r=>some (c::r)
  |none=>none
 |_+1,_,[]=>none
def oY : List (Nat × Nat × O) → List (Nat × V) → List V → Option (List V)
 |[],_,cs=>some cs
 |(off,k,x)::r,env,cs =>
  match (x.ev env).cells? with
  |some vs=>if vs.length=k then (match mN off vs cs with
   |some cs'=>oY r env cs'
   |none=>none) else none
  |none=>none
def oZ (id : Nat) : cU → Bool
 |[]=>true
 |(s,_)::r=>match Nat.beq s id with
  |true=>false
  |false=>oZ id r
abbrev Out:=Option (List Bool×V×cU)
def zQ (ar:Ar) (op:sZ) (k:IntKind) (a b:Int):Out :=
 match op with
 | .add=>match ar.add a b with|z=>some ([ar.cS k z],.int k z,[])
 | .sub=>match ar.sub a b with|z=>some ([ar.cS k z],.int k z,[])
 | .mul=>match k.signed with
  |true=>match ar.mul a b with|z=>some ([ar.cS k z],.int k z,[])
  |false=>some ([],.int k (ar.wr k (ar.mul a b)),[])
 | .quo=>match ar.quo a b with|z=>some ([ar.nW (ar.eq b 0),ar.cS k z],.int k z,[])
 | .rem=>some ([ar.nW (ar.eq b 0)],.int k (ar.rem a b),[])
 | .and=>some ([],.int k (ar.bits .and k a b),[])
 | .or=>some ([],.int k (ar.bits .or k a b),[])
 | .xor=>some ([],.int k (ar.bits .xor k a b),[])
 | .andNot=>some ([],.int k (ar.bits .andNot k a b),[])
 | .shl=>none
 | .shr=>none
 | .eql=>some ([],.bool (ar.eq a b),[])
 | .neq=>some ([],.bool (ar.nW (ar.eq a b)),[])
 | .lss=>some ([],.bool (ar.lt a b),[])
 | .leq=>some ([],.bool (ar.le a b),[])
 | .gtr=>some ([],.bool (ar.lt b a),[])
 | .geq=>some ([],.bool (ar.le b a),[])
def zR (ar:Ar) (op:sZ) (a b:ByteArray):Out :=
 match op with
 | .add=>match ar.add (ar.C7 a) (ar.C7 b) with|z=>some ([ar.cS .i64 z],.str (ar.Yw (ar.app (ar.XO a) (ar.XO b))),[])
 | .eql=>some ([],.bool (ar.seq a b),[])
 | .neq=>some ([],.bool (ar.nW (ar.seq a b)),[])
 | .lss=>some ([],.bool (ar.slt a b),[])
 | .leq=>some ([],.bool (ar.C8 (ar.slt a b) true (ar.seq a b)),[])
 | .gtr=>some ([],.bool (ar.nW (ar.C8 (ar.slt a b) true (ar.seq a b))),[])
 | .geq=>some ([],.bool (ar.nW (ar.slt a b)),[])
 |_=>none
def tH (ar:Ar) (op:sZ) (k:IntKind) (a b:Int):Out :=
 match op with
 | .shl=>match ar.shl a b with|z=>some ([ar.cR b k.bits,ar.cS k z],.int k z,[])
 | .shr=>some ([ar.cR b k.bits],.int k (ar.shr a b),[])
 |_=>none
def C9 : V → Option Bool
 | .bool b=>some b
 | .tf b=>some b
 |_=>none
def aI (ar : Ar) : List Kd → List V → List V → Option Bool
 |[],[],[]=>some true
 | .i::ks,.int k a::r,.int k' b::s=>if k=k' then (match aI ar ks r s with
  |some c=>some (ar.JK (ar.eq a b) c)
  |none=>none) else none
 | .s::ks,.str a::r,.str b::s=>match aI ar ks r s with
  |some c=>some (ar.JK (ar.seq a b) c)
  |none=>none
 | .b::ks,x::r,y::s=>match C9 x,C9 y with
  |some a,some b=>match aI ar ks r s with
   |some c=>some (ar.JK (ar.beq a b) c)
   |none=>none
  |_,_=>none
 |_,_,_=>none
def fO (ar : Ar) (mx : Bool) (k : IntKind) : Int → List V → Option Int
 |a,[]=>some a
 |a,.int k' b::r=>if k=k' then fO ar mx k (match mx with|true=>ar.imax a b|false=>ar.en a b) r else none
 |_,_=>none
def lS : V → Option Int
 | .int _ n=>some n
 |_=>none
def bT (env : List (Nat × V)) (d : Int) : Option O → Option Int
 |none=>some d
 |some x=>lS (x.ev env)
def elems (ar : Ar) (bl : aj) (t : Ty) : V → Option (List t.den)
 | .bK=>some []
 | .dS t' xs=>iP t' t xs
 | .sl id t' lo n=>match aq id bl with
  |some (.arr t'' xs _)=>if t'=t'' then (match iP t'' t xs with
   |some ys=>some (ar.sub' ys lo n)
   |none=>none) else none
  |_=>none
 |_=>none
def Fo : V → Option Ty
 | .dS t _=>some t
 | .sl _ t _ _=>some t
 |_=>none
def bU:Nat:=2 ^ 30
def iQ (ar : Ar) (bl : aj) (t : Ty) : Nat → List V → Option (List t.den × cU)
 |0,[]=>some ([],[])
 |0,_=>none
 |n+1,vs=>match bk ar bl t vs with
  |some (x,u,r)=>match iQ ar bl t n r with
   |some (xs,u')=>some (x::xs,u++u')
   |none=>none
  |none=>none
def xq (ar : Ar) (t : Ty) (xs : List t.den) : Nat → Nat → List V
 |0,_=>[]
 |n+1,i=>dF t (ar.get t.zero xs i)++xq ar t xs n (i+1)
def Bt (k : IntKind) : List V → Option (List Int)
 |[]=>some []
 | .int k' z::r=>if k=k' then (match Bt k r with
  |some zs=>some (z::zs)
  |none=>none) else none
 |_=>none
def S5 (len dw:Nat) (zs:List Int) (m:Nat):List Int:=(List.range len).map fun j=>zs.getD (j * dw+m) 0
def JL (ar:Ar) (k:IntKind) (len dw:Nat) (zs:List Int) (i:Nat):List V:=(List.range dw).map fun m=>.int k (ar.get 0 (S5 len dw zs m) i)
def Bu (kt vt Fp Fq:Ty) (es:List (kt.den×vt.den)):Option (List (Fp.den×Fq.den)):=if h:kt=Fp/\vt=Fq then some (h.1▸h.2▸es) else none
def tJ (bl:aj) (kt:Ty) (kg:Bool) (vt:Ty) (vg:Bool) (id:Nat):Option (List (kt.den×vt.den)):=match aq id bl with
 |some (.map Fp Nq Fq Nr es)=>if kg=Nq/\vg=Nr then Bu Fp Fq kt vt es else none
 |_=>none
def keyOf (ar:Ar) (kt:Ty) (kg:Bool) (k:V):Option kt.den:=match uZ kg k with
 |some cs=>match bk ar [] kt cs with
  |some (x,[],[])=>some x
  |_=>none
 |none=>none
def iO (ar:Ar) (e:w8) (vs:List V) (bl:aj) (aF:Nat):Out :=
 match e with
 | .qC=>match vs with
  |[.str s,.int _ n]=>some ([ar.cR n (ar.C7 s)],.int .u8 (ar.sat s (ar.nX n)),[])
  |_=>none
 | .qD len dw g=>match vs with
  |[.agg cs,.int _ i]=>match Nat.beq cs.length (len * dw) with
   |false=>none
   |true=>match cs with
    | .int k z::r=>match Bt k (.int k z::r) with
     |some zs=>match dG g (JL ar k len dw zs (ar.nX i)) with
      |some v=>some ([ar.cR i (Int.ofNat len)],v,[])
      |none=>none
     |none=>none
    |cs=>match i with
     | .ofNat n=>if n<len then (match cut (n * dw) dw cs with
      |some vs=>match dG g vs with
       |some v=>some ([],v,[])
       |none=>none
      |none=>none) else none
     |_=>none
  |_=>none
 | .bytes=>match vs with
  |[.str s]=>some ([],.dS (.int .u8) (ar.XO s),[])
  |_=>none
 | .text=>match vs with
  |[v]=>match elems ar bl (.int .u8) v with
   |some ys=>some ([],.str (ar.Yw ys),[])
   |none=>none
  |_=>none
 | .clear t=>match vs with
  |[.sl id t' lo n]=>if t'=t then (match aq id bl with
   |some (.arr t'' xs false)=>if t'=t'' then some ([],.cq [],[(id,some (.arr t'' (ar.clr t''.zero xs lo n) false))]) else none
   |_=>none) else none
  |_=>none
 | .Fj neg=>match vs with
  |[.sl _ _ _ n]=>match neg with
   |false=>some ([],.cb (ar.eq (Int.ofNat n) 0),[])
   |true=>none
  |[.dS _ xs]=>match neg with
   |false=>some ([],.cb (ar.eq (Int.ofNat (ar.len xs)) 0),[])
   |true=>none
  |_=>none
 | .zL neg=>match vs with
  |[.mp _]=>some ([],.tf neg,[])
  |[.dA]=>some ([],.tf (!neg),[])
  |_=>none
 | .zM neg=>match vs with
  |[.ptr _ _]=>some ([],.tf neg,[])
  |[.ee]=>some ([],.tf (!neg),[])
  |_=>none
 | .SZ=>match vs with
  |[.cn t v]=>some ([],.cn t v,[])
  |[.ptr id o]=>some ([],.ptr id o,[])
  |[.bR cs]=>some ([],.bR cs,[])
  |_=>none
 | .Fk kt kg vt vg=>some ([],.mp aF,[(aF,some (.map kt kg vt vg []))])
 | .zN kt kg vt vg ok=>match vs with
  |[m,k]=>match keyOf ar kt kg k with
   |some x=>match (match m with
    | .mp id=>tJ bl kt kg vt vg id
    | .dA=>some []
    |_=>none) with
    |some es=>match dF.jY vg (dF vt (ar.zN kt vt.zero es x)) with
     |v=>match ok with
      |true=>some ([],.cq [v,.bool (ar.S4 kt es x)],[])
      |false=>some ([],v,[])
    |none=>none
   |none=>none
  |_=>none
 | .ta kt kg vt vg=>match vs with
  |[.mp id,k,v]=>match keyOf ar kt kg k with
   |some x=>match keyOf ar vt vg v with
    |some y=>match tJ bl kt kg vt vg id with
     |some es=>some ([],.any,[(id,some (.map kt kg vt vg (ar.ta kt es x y)))])
     |none=>none
    |none=>none
   |none=>none
  |_=>none
 | .JG=>match vs with
  |[.mp id]=>match aq id bl with
   |some (.map _ _ _ _ es)=>some ([],.int .i64 (Int.ofNat (ar.len es)),[])
   |_=>none
  |[.dA]=>some ([],.int .i64 0,[])
  |_=>none
 | .JH n=>match vs with
  |[.pa id t m]=>match aq id bl with
   |some (.arr t' _ _)=>if t=t'/\m=n then some ([],.sl id t 0 n,[]) else none
   |_=>none
  |_=>none
 | .S0 t=>match vs with
  |[v]=>some ([],.cn t v,[])
  |_=>none
 | .lQ t n=>some ([],.pa aF t n,[(aF,some (.arr t (ar.rep n t.zero) false))])
 | .JI t n=>match vs with
  |[.agg cs]=>match iQ ar bl t n cs with
   |some (xs,u)=>some ([],.pa aF t n,u++[(aF,some (.arr t xs false))])
   |none=>none
  |_=>none
 | .S2=>match vs with
  |[.bK]=>some ([],.int .i64 0,[])
  |_=>none
 | .OD t=>match vs with
  |[.bK,.int _ z]=>match ar.nX z with
   |m=>some ([ar.cR z (Int.ofNat bU)],.sl aF t 0 m,[(aF,some (.arr t (ar.rep m t.zero) false))])
  |_=>none
def w8.dU : w8 → Bool
 | .Fk _ _ _ _=>true
 | .lQ _ _=>true
 | .JI _ _=>true
 | .OD _=>true
 |_=>false
def upTo : Nat → List Nat → List Nat
 |0,r=>r
 |n+1,r=>upTo n (n::r)
def u5 (f : Nat → Option V) : List Nat → Option (List V)
 |[]=>some []
 |n::r=>match f n with
  |some v=>match u5 f r with
   |some vs=>some (v::vs)
   |none=>none
  |none=>none
def Sq (k : IntKind) : List V → Option (List Int)
 |[]=>some []
 |v::r=>match v with
  | .int k' n=>if k=k' then (match Sq k r with
   |some ns=>some (n::ns)
   |none=>none) else none
  |_=>none
def Fs (ar:Ar) (vs:List V) (j:Int):Option V:=match vs with
 | .int k n::r=>match Sq k r with
  |some ns=>some (.int k (ar.get 0 (n::ns) (ar.nX j)))
  |none=>none
 |_=>none
def xw (ar : Ar) (cs : List V) : List (Nat × Nat × Int) → Nat → Option V
 |[],o=>cs[o]?
 |(dw,len,j)::r,o=>match u5 (fun n=>xw ar cs r (o+n * dw)) (upTo len []) with
  |some vs=>Fs ar vs j
  |none=>none
def cg (ar:Ar) (i:I) (env:List (Nat×V)) (bl:aj) (aF:Nat):Out :=
 match i with
 | .mv x=>some ([],x.ev env,[])
 | .pick c a b =>
  match c.ev env with
  | .tf true=>some ([],a.ev env,[])
  | .tf false=>some ([],b.ev env,[])
  | .bool c=>match C9 (a.ev env),C9 (b.ev env) with
   |some x,some y=>some ([],.bool (ar.C8 c x y),[])
   |_,_=>none
  |_=>none
 | .alloc z=>some ([],.ptr aF 0,[(aF,some (.cells z false))])
 | .box x=>match (x.ev env).cells? with
  |some cs=>some ([],.ptr aF 0,[(aF,some (.cells cs false))])
  |none=>none
 | .build z parts=>match oY parts env z with
  |some cs=>some ([],.agg cs,[])
  |none=>none
 | .dy t xs=>match nY ar bl t (xs.map (·.ev env)) with
  |some (ys,u)=>some ([],.sl aF t 0 xs.length,u++[(aF,some (.arr t ys false))])
  |none=>none
 | .load agg k x =>
  match x.ev env with
  | .ptr id off=>match aq id bl with
   |some (.cells cs _)=>match cut off k cs with
    |some vs=>match dG agg vs with
     |some v=>some ([],v,[])
     |none=>none
    |none=>none
   |_=>none
  | .bR cs=>match cut 0 k cs with
   |some vs=>match dG agg vs with
    |some v=>some ([],v,[])
    |none=>none
   |none=>none
  | .ep id t i p=>match aq id bl with
   |some (.arr t' xs _)=>if t=t' then
     match lA t' (ar.get t'.zero xs i) p with
     |some ⟨t2,y⟩=>match dF t2 y with
      |vs=>if vs.length=k then (match dG agg vs with
       |some v=>some ([ar.E1 i (ar.len xs)],v,[])
       |none=>none) else none
     |none=>none
    else none
   |some (.jo t' xs i' p' v)=>if t=t'/\p=p'/\k=1 then (match agg with
    |false=>some ([ar.eq (Int.ofNat i) (Int.ofNat i')],v,[])
    |true=>none) else none
   |_=>none
  | .ip t y=>match dF t y with
   |vs=>if vs.length=k then (match dG agg vs with
    |some v=>some ([],v,[])
    |none=>none) else none
  | .pa id t m=>match aq id bl with
   |some (.arr t' xs _)=>if t=t' then (match xq ar t' xs m 0 with
    |vs=>if vs.length=k then (match dG agg vs with
     |some v=>some ([],v,[])
     |none=>none) else none) else none
   |_=>none
  | .sp id o l=>match aq id bl with
   |some (.cells cs _)=>match k with
    |1=>match xw ar cs l o with
     |some v=>match dG agg [v] with
      |some v=>some ([],v,[])
      |none=>none
     |none=>none
    |_=>none
   |_=>none
  |_=>none
 | .store k a x =>
  match (x.ev env).cells? with
  |none=>none
  |some vs=>if vs.length=k then
   (match a.ev env with
   | .ptr id off=>match aq id bl with
    |some (.cells cs false)=>match mN off vs cs with
     |some cs'=>some ([],.any,[(id,some (.cells cs' false))])
     |none=>none
    |_=>none
   | .ep id t i p=>match aq id bl with
    |some (.arr t' xs false)=>if t=t' then
      match ck ar bl t' (ar.get t'.zero xs i) p vs with
      |some (y,u)=>match oZ id u with
       |true=>some ([ar.E1 i (ar.len xs)],.any,u++[(id,some (.arr t' (ar.set xs i y) false))])
       |false=>none
      |none=>none
     else none
    |_=>none
   | .pa id t m=>match aq id bl with
    |some (.arr t' xs false)=>if t=t' then
      match iQ ar bl t' m vs with
      |some (ys,u)=>match oZ id u with
       |true=>some ([],.any,u++[(id,some (.arr t' ys false))])
       |false=>none
      |none=>none
     else none
    |_=>none
   |_=>none) else none
 | .bin op x y =>
  match x.ev env,y.ev env with
  | .int k a,.int k' b=>match op with
   | .shl=>tH ar .shl k a b
   | .shr=>tH ar .shr k a b
   |_=>if k=k' then zQ ar op k a b else none
  | .str a,.str b=>zR ar op a b
  |_,_=>none
 | .JJ neg x y=>match C9 (x.ev env),C9 (y.ev env) with
  |some a,some b=>some ([],.bool (match neg with|true=>ar.nW (ar.beq a b)|false=>ar.beq a b),[])
  |_,_=>none
 | .eqs neg ks x y =>
  match x.ev env,y.ev env with
  | .agg xs,.agg ys=>match aI ar ks xs ys with
   |some c=>some ([],.bool (match neg with|true=>ar.nW c|false=>c),[])
   |none=>none
  |_,_=>none
 | .neg x=>match x.ev env with
  | .int k a=>match k.signed with
   |true=>match ar.sub 0 a with|z=>some ([ar.cS k z],.int k z,[])
   |false=>some ([],.int k (ar.wr k (ar.sub 0 a)),[])
  |_=>none
 | .not x=>match x.ev env with
  | .tf b=>some ([],.tf (!b),[])
  | .bool b=>some ([],.bool (ar.nW b),[])
  |_=>none
 | .conv k x=>match x.ev env with
  | .int _ n=>some ([ar.cS k n],.int k n,[])
  |_=>none
 | .eY off path x=>match x.ev env with
  | .ptr id o=>some ([],.ptr id (o+off),[])
  | .bR cs=>if off<=cs.length then some ([],.bR (cs.drop off),[]) else none
  | .ep id t i p=>match t.mL p with
   |some t1=>if t1.bx path=off then (match t1.mL path with
    |some _=>some ([],.ep id t i (p++path),[])
    |none=>none) else none
   |none=>none
  | .ip t y=>if t.bx path=off then (match lA t y path with
   |some ⟨t2,z⟩=>some ([],.ip t2 z,[])
   |none=>none) else none
  | .pa id t m=>if (off / t.sz) * t.sz=off/\off / t.sz<m then some ([],.ep id t (off / t.sz) [],[]) else none
  | .iN t xs=>if (off / t.sz) * t.sz=off then some ([ar.E1 (off / t.sz) (ar.len xs)],.ip t (ar.get t.zero xs (off / t.sz)),[]) else none
  | .sp id o l=>some ([],.sp id (o+off) l,[])
  |_=>none
 | .field agg off k x=>match x.ev env with
  | .agg cs=>match cut off k cs with
   |some vs=>match dG agg vs with
    |some v=>some ([],v,[])
    |none=>none
   |none=>none
  |_=>none
 | .idx dw x i =>
  match i.ev env with
  | .int _ n=>match x.ev env with
   | .sl id t lo m=>if t.sz=dw then some ([ar.cR n (Int.ofNat m)],.ep id t (ar.zO lo (ar.nX n)) [],[]) else none
   | .dS t xs=>if t.sz=dw then some ([ar.cR n (Int.ofNat (ar.len xs))],.ip t (ar.get t.zero xs (ar.nX n)),[]) else none
   |_=>none
  |_=>none
 | .tc len dw x i =>
  match x.ev env with
  | .pa id t m=>match i.ev env with
   | .int _ j=>if t.sz=dw/\m=len then some ([ar.cR j (Int.ofNat len)],.ep id t (ar.nX j) [],[]) else none
   |_=>none
  | .iN t xs=>match i.ev env with
   | .int _ j=>if t.sz=dw then some ([ar.cR j (Int.ofNat len),ar.cR j (Int.ofNat (ar.len xs))],.ip t (ar.get t.zero xs (ar.nX j)),[]) else none
   |_=>none
  | .ptr id o=>match i.ev env with
   | .int _ j=>some ([ar.cR j (Int.ofNat len)],.sp id o [(dw,len,j)],[])
   |_=>none
  | .sp id o l=>match i.ev env with
   | .int _ j=>some ([ar.cR j (Int.ofNat len)],.sp id o ((dw,len,j)::l),[])
   |_=>none
  | .bR cs=>match i.ev env with
   | .int _ (.ofNat n)=>if n<len then (if n * dw<=cs.length then some ([],.bR (cs.drop (n * dw)),[]) else none) else none
   |_=>none
  |_=>none
 | .ext k x=>match x.ev env with
  | .cq vs=>match vs[k]? with
   |some v=>some ([],v,[])
   |none=>none
  |_=>none
 | .len x=>match x.ev env with
  | .sl _ _ _ n=>some ([],.int .i64 (Int.ofNat n),[])
  | .dS _ xs=>some ([],.int .i64 (Int.ofNat (ar.len xs)),[])
  | .bK=>some ([],.int .i64 0,[])
  |_=>none
 | .lens x=>match x.ev env with
  | .str s=>some ([],.int .i64 (ar.C7 s),[])
  |_=>none
 | .td n=>some ([],.int .i64 (Int.ofNat n),[])
 | .append dw x y =>
  match x.ev env with
  | .bK=>match Fo (y.ev env) with
   |some t=>if t.sz=dw then
     (match elems ar bl t (y.ev env) with
     |some ys=>match ar.len ys with
      |m=>some ([ar.E1 m bU],.sl aF t 0 m,[(aF,some (.arr t ys false))])
     |none=>none) else none
   |none=>none
  | .sl id t lo n=>if t.sz=dw then
   (match aq id bl with
   |some (.arr t' xs false)=>if t'=t then
    (match iP t' t xs with
    |some xs'=>match elems ar bl t (y.ev env) with
     |some ys=>match ar.zO n (ar.len ys) with
      |m=>some ([ar.E1 m bU],.sl aF t 0 m,[(id,none),(aF,some (.arr t (ar.app (ar.sub' xs' lo n) ys) false))])
     |none=>none
    |none=>none) else none
   |_=>none) else none
  |_=>none
 | .fM t n=>match n.ev env with
  | .int _ z=>match ar.nX z with
   |m=>some ([ar.cR z (Int.ofNat bU)],.sl aF t 0 m,[(aF,some (.arr t (ar.rep m t.zero) false))])
  |_=>none
 | .nV f a b=>some ([],.fn f (a.map (·.ev env)) (b.map (·.ev env)),[])
 | .slice dw x lo hi mx =>
  match mx with
  |some m=>match hi with
   |some h=>match lS (m.ev env),lS (h.ev env),bT env 0 lo with
    |some a,some b,some c=>match x.ev env with
     | .sl _ _ _ _=>some ([ar.eq a 0,ar.eq b 0,ar.eq c 0],.bK,[])
     | .dS _ _=>some ([ar.eq a 0,ar.eq b 0,ar.eq c 0],.bK,[])
     | .bK=>some ([ar.eq a 0,ar.eq b 0,ar.eq c 0],.bK,[])
     |_=>none
    |_,_,_=>none
   |none=>none
  |none =>
   match x.ev env with
   | .sl id t l n=>if t.sz=dw then
    (match bT env 0 lo,bT env (Int.ofNat n) hi with
    |some a,some b=>some ([ar.le 0 a,ar.le a b,ar.le b (Int.ofNat n)],.sl id t (ar.zO l (ar.nX a)) (ar.Fm (ar.nX b) (ar.nX a)),[])
    |_,_=>none) else none
   | .dS t xs=>if t.sz=dw then
    (match bT env 0 lo,bT env (Int.ofNat (ar.len xs)) hi with
    |some a,some b=>some ([ar.le 0 a,ar.le a b,ar.le b (Int.ofNat (ar.len xs))],.dS t (ar.sub' xs (ar.nX a) (ar.Fm (ar.nX b) (ar.nX a))),[])
    |_,_=>none) else none
   | .bK=>(match bT env 0 lo,bT env 0 hi with
    |some a,some b=>some ([ar.eq a 0,ar.eq b 0],.bK,[])
    |_,_=>none)
   |_=>none
 | .ex e xs=>iO ar e (xs.map (·.ev env)) bl aF
 | .cF mx x ys=>match x.ev env with
  | .int k a=>match fO ar mx k a (ys.map (·.ev env)) with
   |some z=>some ([],.int k z,[])
   |none=>none
  |_=>none
def iD : Ty → List V → Option (List Bool × V × List V)
 | .list _,.sl id t lo n::r=>some ([],.sl id t lo n,.bK::r)
 | .prod a b,vs=>match iD a vs with
  |some (p,v,vs')=>some (false::p,v,vs')
  |none=>match iD b (vs.drop a.sz) with
   |some (p,v,vs')=>some (true::p,v,vs.take a.sz++vs')
   |none=>none
 |_,_=>none
def pQ : Ty → List V → Option (List Bool)
 | .list _,.bK::_=>some []
 | .prod a b,vs=>match pQ a vs with
  |some p=>some (false::p)
  |none=>match pQ b (vs.drop a.sz) with
   |some p=>some (true::p)
   |none=>none
 |_,_=>none
def tg (ar:Ar) (i:I) (env:List (Nat×V)) (bl:aj) (aF:Nat):Out:=match i with
 | .dy t xs=>match xs with
  |[x]=>match (x.ev env).cells? with
   |some vs=>match pQ t vs with
    |some p=>match bk ar bl t vs with
     |some (y,[],[])=>some ([],.sl aF t 0 1,[(aF,some (.jo t [y] 0 p .bK))])
     |_=>none
    |none=>none
   |none=>none
  |_=>none
 | .store k a x=>match (x.ev env).cells? with
  |none=>none
  |some vs=>if vs.length=k then (match a.ev env with
   | .ep id t i p=>match aq id bl with
    |some (.arr t' xs false)=>if t=t' then (match t'.mL p with
     |some t1=>match iD t1 vs with
      |some (q,v,vs')=>match ck ar bl t' (ar.get t'.zero xs i) p vs' with
       |some (y,[])=>some ([ar.E1 i (ar.len xs)],.any,[(id,some (.jo t' (ar.set xs i y) i (p++q) v))])
       |_=>none
      |none=>none
     |none=>none) else none
    |some (.jo t' xs i' p' _)=>if t=t'/\p=p' then (match vs with
     |[.sl id' s lo n]=>some ([ar.eq (Int.ofNat i) (Int.ofNat i')],.any,[(id,some (.jo t' xs i' p' (.sl id' s lo n)))])
     |_=>none) else none
    |_=>none
   |_=>none) else none
 |_=>none
def Ft : aj → List Nat
 |[]=>[]
 |(id,.jo _ _ _ _ _)::r=>id::Ft r
 |_::r=>Ft r
def u6 : aj → List Nat
 |[]=>[]
 |(id,.jo _ _ _ _ v)::r=>match v with
  | .bK=>u6 r
  |_=>id::u6 r
 |_::r=>u6 r
def Sr (ar:Ar) (id:Nat) (bl:aj):Option cU:=match aq id bl with
 |some (.jo t xs i p v)=>match ck ar bl t (ar.get t.zero xs i) p [v] with
  |some (y,u)=>match oZ id u with
   |true=>some (u++[(id,some (.arr t (ar.set xs i y) false))])
   |false=>none
  |none=>none
 |_=>some []
def E2 (ar : Ar) : List Nat → aj → Option cU
 |[],_=>some []
 |id::r,bl=>match Sr ar id bl with
  |some u=>match E2 ar r (bD u bl) with
   |some u'=>some (u++u')
   |none=>none
  |none=>none
def Fu (ar:Ar) (S:St) (k:St->Prop):Prop:=k S\/∃ids u,E2 ar ids S.H.bl=some u/\k ⟨S.env,⟨S.H.next,bD u S.H.bl⟩,S.ms⟩
def I.dU : I → Bool
 | .alloc _ | .box _ | .dy _ _ | .append _ _ _ | .fM _ _=>true
 | .ex e _=>e.dU
 |_=>false
def E3 (l:Bool) (n:Nat):Nat:=match l with
 |true=>n+1
 |false=>n
def u7 (t:Nat) (v:V) (r:List (Nat×V)):List (Nat×V):=(t,v)::r
def put (d:Option Nat) (v:V) (env:List (Nat×V)):List (Nat×V) :=
 match d with
 |some t=>u7 t v env
 |none=>env
def pR : List Bool → Prop
 |[]=>True
 |[b]=>b=true
 |b::r=>b=true/\pR r
def Br (c:Bool) (t e:Unit->Prop):Prop:=(c=true->t ())/\(c=false->e ())
def JM (s:Nat) (b:Bool) (S:St):St:={ S with env:=u7 s (.tf b) S.env }
def mP (o:Out) (l:Bool) (dst:Option Nat) (S:St) (K:St->Prop):Prop :=
 match o with
 |some ([],v,u)=>K ⟨put dst v S.env,⟨E3 l S.H.next,bD u S.H.bl⟩,S.ms⟩
 |some (ob,v,u)=>pR ob/\K ⟨put dst v S.env,⟨E3 l S.H.next,bD u S.H.bl⟩,S.ms⟩
 |none=>False
def wpOp (ar:Ar) (dst:Option Nat) (i:I) (S:St) (K:St->Prop):Prop :=
 mP (cg ar i S.env S.H.bl S.H.next) i.dU dst S K\/mP (tg ar i S.env S.H.bl S.H.next) i.dU dst S K \/
  ∃ids u,E2 ar ids S.H.bl=some u/\mP (cg ar i S.env (bD u S.H.bl) S.H.next) i.dU dst ⟨S.env,⟨S.H.next,bD u S.H.bl⟩,S.ms⟩ K
def Bv : Ty → V → V
 | .list t,.bK=>.dS t []
 | .bool,.tf b=>.bool b
 |_,v=>v
def qh : Ty → List Ty
 | .unit=>[]
 | .prod a b=>qh a++qh b
 |t=>[t]
def u9 : List Ty → List V → List V
 |t::ts,c::cs=>Bv t c::u9 ts cs
 |_,cs=>cs
def Fv (ty:Option Ty) (v:V):V:=match ty with
 |none=>v
 |some t=>match v with
  | .agg cs=>.agg (u9 (qh t) cs)
  |v=>Bv t v
def hT : Ty → Ty
 | .list _=>.str
 | .prod a b=>.prod (hT a) (hT b)
 |t=>t
def XQ (ts:List (Option Ty)):List (Option Ty):=ts.map (·.map hT)
def bX : List (Option Ty) → List V → List V
 |t::ts,v::vs=>Fv t v::bX ts vs
 |_,vs=>vs
def qi (ar:Ar) (dst:Option Nat) (f:O) (args:List O) (tys:List (Option Ty)) (S:St) (K:St->Prop):Prop :=
 match f.ev S.env with
 | .fn f first cap=>ar.call f (first++bX tys (args.map (·.ev S.env))++cap) S.H fun v H=>K ⟨put dst v S.env,H,S.ms⟩
 | .yl id=>ar.round id (bX tys (args.map (·.ev S.env))) S.H fun v H=>K ⟨put dst v S.env,H,S.ms⟩
 |_=>False
def zS (ar:Ar) (dst:Option Nat) (f:O) (args:List O) (tys:List (Option Ty)) (S:St) (K:St->Prop):Prop:=Fu ar S fun S=>qi ar dst f args tys S K
def kR (g:Option (Nat×Bool)) (dst:Option Nat) (S:St) (K:St->Prop) (run:St->Prop):Prop :=
 match g with
 |none=>run S
 |some (s,b)=>match get s S.env with
  | .tf c=>match c,b with
   |true,true=>run S
   |false,false=>run S
   |true,false=>K ⟨put dst (.cq []) S.env,S.H,S.ms⟩
   |false,true=>K ⟨put dst (.cq []) S.env,S.H,S.ms⟩
  | .bool c => Br c
   (fun _=>match b with
    |true=>run (JM s true S)
    |false=>K ⟨put dst (.cq []) (JM s true S).env,S.H,S.ms⟩)
   (fun _=>match b with
    |false=>run (JM s false S)
    |true=>K ⟨put dst (.cq []) (JM s false S).env,S.H,S.ms⟩)
  | .cq _=>K ⟨put dst (.cq []) S.env,S.H,S.ms⟩
  |_=>False
def ef (ar : Ar) : List dB → St → (St → Prop) → Prop
 |[],S,K=>K S
 | .op d g i::r,S,K=>kR g d S (fun S=>ef ar r S K) (fun S=>wpOp ar d i S (fun S=>ef ar r S K))
 | .call d g f a tys::r,S,K=>kR g d S (fun S=>ef ar r S K) (fun S=>zS ar d f a tys S (fun S=>ef ar r S K))
end Go.AM
end
section
namespace Go.AM
abbrev aA:=Nat->Nat->Option Value
structure Loc where
 b:Nat
 ba:Nat
 tot:Nat
 len:Nat
abbrev Mu:=Nat->Option Loc
def aA.le (i j:aA):Prop:=∀b o x,i b o=some x->j b o=some x
def Mu.le (m n:Mu):Prop:=∀id L,m id=some L->n id=some L
theorem aA.le_refl (i:aA):i.le i:=fun _ _ _ h=>h
theorem Mu.le_refl (i:Mu):i.le i:=fun _ _ h=>h
theorem aA.le_trans {i j k:aA} (h:i.le j) (h':j.le k):i.le k:=fun _ _ _ hx=>h' _ _ _ (h _ _ _ hx)
theorem Mu.le_trans {i j k:Mu} (h:i.le j) (h':j.le k):i.le k:=fun _ _ hx=>h' _ _ (h _ _ hx)
def Reads (ι:aA) (b o:Nat) (vs:List Value):Prop:=∀j v,vs[j]?=some v->ι b (o+j)=some v
def bu {α : Type} (D : α → List Value → Prop) : List α → List Value → Prop
 |[],vs=>vs=[]
 |x::xs,vs=>∃us ws,vs=us++ws/\D x us/\bu D xs ws
def lE : Bool → List Value → Option Value
 |true,xs=>some (.agg xs.toArray)
 |false,[x]=>some x
 |false,_=>none
def af (ι : aA) : (t : Ty) → t.den → List Value → Prop
 | .unit,_,vs=>vs=[]
 | .bool,b,vs=>vs=[.bool b]
 | .str,s,vs=>vs=[.string s]
 | .int k,n,vs=>vs=[.int k n]
 | .list t,xs,vs=>∃a cap,vs=[.slice a xs.length cap]/\xs.length<=cap /\
   (xs=[]\/∃b o us,a=some ⟨b,o,none⟩/\Reads ι b o us/\bu (af ι t) xs us)
 | .prod a b,x,vs=>∃us ws,vs=us++ws/\af ι a x.1 us/\af ι b x.2 ws
 | .cn d g t,x,vs=>∃xs v,af ι t x xs/\lE g xs=some v/\vs=[.iface d v]
def fP (ι:aA) (g:Bool) (t:Ty) (x:t.den) (v:Value):Prop:=∃xs,af ι t x xs/\lE g xs=some v
theorem Reads.mono {ι ι':aA} (h:ι.le ι') {b o:Nat} {vs:List Value} (hr:Reads ι b o vs):Reads ι' b o vs :=
 fun j v hj=>h _ _ _ (hr j v hj)
theorem bu.mono {α : Type} {D E : α → List Value → Prop} (h : ∀ x us, D x us → E x us) : ∀ {xs : List α} {vs : List Value}, bu D xs vs → bu E xs vs
 |[],_,hc=>hc
 |_::_,_,⟨us,ws,e,h1,h2⟩=>⟨us,ws,e,h _ _ h1,bu.mono h h2⟩
theorem af.mono {ι ι' : aA} (h : ι.le ι') : ∀ {t : Ty} {x : t.den} {vs : List Value}, af ι t x vs → af ι' t x vs
 | .unit,_,_,hc=>hc
 | .bool,_,_,hc=>hc
 | .str,_,_,hc=>hc
 | .int _,_,_,hc=>hc
 | .list t,xs,vs,⟨a,cap,e,hl,hx⟩=>⟨a,cap,e,hl,hx.imp id fun ⟨b,o,us,ha,hr,hc⟩ =>
   ⟨b,o,us,ha,hr.mono h,bu.mono (fun x us hd=>af.mono (t:=t) h hd) hc⟩⟩
 | .prod _ _,_,_,⟨us,ws,e,h1,h2⟩=>⟨us,ws,e,af.mono h h1,af.mono h h2⟩
 | .cn _ _ _,_,_,⟨xs,v,h1,h2,h3⟩=>⟨xs,v,af.mono h h1,h2,h3⟩
theorem af.length {ι : aA} : ∀ {t : Ty} {x : t.den} {vs : List Value}, af ι t x vs → vs.length = t.sz
 | .unit,_,_,hc=>by simp [af] at hc;subst hc;rfl
 | .bool,_,_,hc=>by simp [af] at hc;subst hc;rfl
 | .str,_,_,hc=>by simp [af] at hc;subst hc;rfl
 | .int _,_,_,hc=>by simp [af] at hc;subst hc;rfl
 | .list _,_,_,⟨_,_,e,_,_⟩=>by subst e;rfl
 | .prod _ _,_,_,⟨us,ws,e,h1,h2⟩=>by subst e;simp [Ty.sz,af.length h1,af.length h2]
 | .cn _ _ _,_,_,⟨xs,v,h1,h2,h3⟩=>by subst h3;rfl
theorem af.one {ι : aA} : ∀ {t : Ty} {x : t.den} {vs : List Value}, af ι t x vs → ∀ v ∈ vs, v.oneCell' = true
 | .unit,_,_,hc=>by simp [af] at hc;subst hc;simp
 | .bool,_,_,hc=>by simp [af] at hc;subst hc;simp [Value.oneCell']
 | .str,_,_,hc=>by simp [af] at hc;subst hc;simp [Value.oneCell']
 | .int _,_,_,hc=>by simp [af] at hc;subst hc;simp [Value.oneCell']
 | .list _,_,_,⟨_,_,e,_,_⟩=>by subst e;simp [Value.oneCell']
 | .prod _ _,_,_,⟨us,ws,e,h1,h2⟩=>by
  subst e;intro v hv;rcases List.mem_append.1 hv with h|h
  ·exact af.one h1 v h
  ·exact af.one h2 v h
 | .cn _ _ _,_,_,⟨xs,v,h1,h2,h3⟩=>by subst h3;simp [Value.oneCell']
theorem fP.mono {ι ι':aA} (h:ι.le ι') {g:Bool} {t:Ty} {x:t.den} {v:Value} (hv:fP ι g t x v):fP ι' g t x v:=by
 obtain ⟨xs,h1,h2⟩:=hv
 exact ⟨xs,h1.mono h,h2⟩
def fE (ι : aA) (kt : Ty) (kg : Bool) (vt : Ty) (vg : Bool) : List (kt.den × vt.den) → List MapEntry → Prop
 |[],ms=>ms=[]
 |e::es,ms=>∃m r,ms=m::r/\fP ι kg kt e.1 m.key/\fP ι vg vt e.2 m.val/\fE ι kt kg vt vg es r
theorem fE.mono {ι ι' : aA} (h : ι.le ι') {kt vt : Ty} {kg vg : Bool} : ∀ {es : List (kt.den × vt.den)} {ms : List MapEntry}, fE ι kt kg vt vg es ms → fE ι' kt kg vt vg es ms
 |[],_,he=>he
 |_::_,_,⟨m,r,e,h1,h2,h3⟩=>⟨m,r,e,h1.mono h,h2.mono h,fE.mono h h3⟩
theorem fE.length {ι : aA} {kt vt : Ty} {kg vg : Bool} : ∀ {es : List (kt.den × vt.den)} {ms : List MapEntry}, fE ι kt kg vt vg es ms → ms.length = es.length
 |[],_,he=>by simp [fE] at he;subst he;rfl
 |_::_,_,⟨m,r,e,h1,h2,h3⟩=>by subst e;simp [fE.length h3]
section cat
variable {α:Type} {D:α->List Value->Prop} {n:Nat}
theorem bu.length (hD : ∀ x us, D x us → us.length = n) : ∀ {xs : List α} {vs : List Value}, bu D xs vs → vs.length = xs.length * n
 |[],_,hc=>by simp [bu] at hc;subst hc;simp
 |x::xs,_,⟨us,ws,e,h1,h2⟩=>by
  subst e;simp [hD _ _ h1,bu.length hD h2,Nat.add_mul];omega
theorem bu.one (hD : ∀ x us, D x us → ∀ v ∈ us, Value.oneCell' v = true) : ∀ {xs : List α} {vs : List Value}, bu D xs vs → ∀ v ∈ vs, Value.oneCell' v = true
 |[],_,hc=>by simp [bu] at hc;subst hc;simp
 |x::xs,_,⟨us,ws,e,h1,h2⟩=>by
  subst e;intro v hv;rcases List.mem_append.1 hv with h|h
  ·exact hD _ _ h1 v h
  ·exact bu.one hD h2 v h
theorem bu.append : ∀ {xs ys : List α} {vs ws : List Value}, bu D xs vs → bu D ys ws → bu D (xs ++ ys) (vs ++ ws)
 |[],_,_,_,hc,h=>by simp [bu] at hc;subst hc;simpa using h
 |x::xs,_,_,_,⟨us,ws,e,h1,h2⟩,h=>by subst e;exact ⟨us,_,List.append_assoc ..,h1,h2.append h⟩
theorem bu.drop (hD : ∀ x us, D x us → us.length = n) : ∀ (k : Nat) {xs : List α} {vs : List Value}, bu D xs vs → bu D (xs.drop k) (vs.drop (k * n))
 |0,xs,vs,h=>by simpa using h
 |k+1,[],vs,h=>by simp [bu] at h;subst h;simp [bu]
 |k+1,x::xs,vs,⟨us,ws,e,h1,h2⟩=>by
  subst e
  have hl:=hD _ _ h1
  have:(us++ws).drop ((k+1) * n)=ws.drop (k * n):=by
   rw [List.drop_append,List.drop_eq_nil_of_le (by rw [hl,Nat.add_mul];omega),hl]
   simp [Nat.add_mul]
  rw [this]
  exact bu.drop hD k h2
theorem bu.take (hD : ∀ x us, D x us → us.length = n) : ∀ (k : Nat) {xs : List α} {vs : List Value}, bu D xs vs → bu D (xs.take k) (vs.take (k * n))
 |0,xs,vs,h=>by simp [bu]
 |k+1,[],vs,h=>by simp [bu] at h;subst h;simp [bu]
 |k+1,x::xs,vs,⟨us,ws,e,h1,h2⟩=>by
  subst e
  have hl:=hD _ _ h1
  refine ⟨us,ws.take (k * n),?_,h1,bu.take hD k h2⟩
  rw [List.take_append,List.take_of_length_le (by rw [hl,Nat.add_mul];omega),hl]
  simp [Nat.add_mul]
theorem bu.at (hD:∀x us,D x us->us.length=n) {xs:List α} {vs:List Value} (h:bu D xs vs) {i:Nat} {x:α} (hx:xs[i]?=some x) :
  D x ((vs.drop (i * n)).take n):=by
 have h1:=h.drop hD i
 obtain ⟨hi,rfl⟩:=List.getElem?_eq_some_iff.1 hx
 rw [List.drop_eq_getElem_cons hi] at h1
 obtain ⟨us,ws,e,hd,_⟩:=h1
 rw [e,List.take_append,List.take_of_length_le (by rw [hD _ _ hd];exact Nat.le_refl _),hD _ _ hd]
 simpa using hd
theorem bu.set (hD:∀x us,D x us->us.length=n) {xs:List α} {vs:List Value} (h:bu D xs vs) {i:Nat} (hi:i<xs.length) {y:α} {us:List Value} (hy:D y us) :
  bu D (xs.set i y) (vs.take (i * n)++us++vs.drop ((i+1) * n)):=by
 have h1:=h.take hD i
 have h2:=h.drop hD (i+1)
 rw [List.set_eq_take_append_cons_drop,if_pos hi,List.append_assoc]
 exact h1.append ⟨us,_,rfl,hy,h2⟩
theorem bu.rep {y : α} {us : List Value} (hy : D y us) : ∀ k : Nat, bu D (List.replicate k y) (List.flatten (List.replicate k us))
 |0=>rfl
 |k+1=>⟨us,_,by simp [List.replicate_succ],hy,bu.rep hy k⟩
end cat
def iR : List (Nat × Nat × Int) → Nat
 |[]=>0
 |(dw,_,j)::r=>j.toNat * dw+iR r
inductive Rel (ι : aA) (μ : Mu) : V → Value → Prop
 |any (x):Rel ι μ .any x
 |tf (b):Rel ι μ (.tf b) (.bool b)
 |bool (b):Rel ι μ (.bool b) (.bool b)
 |int (k n):Rel ι μ (.int k n) (.int k n)
 |str (s):Rel ι μ (.str s) (.string s)
 |ee:Rel ι μ .ee (.pointer none)
 |cw:Rel ι μ .cw .nilFunc
 |ek:Rel ι μ .ek .nilIface
 |dS (t xs x) (h:af ι (.list t) xs [x]):Rel ι μ (.dS t xs) x
 |bK (a):Rel ι μ .bK (.slice a 0 0)
 |sl (id t lo n cap L) (h:μ id=some L) (h1:n<=cap) (h2:L.ba+(lo+cap) * t.sz<=L.tot) (h3:lo+n<=L.len) :
   Rel ι μ (.sl id t lo n) (.slice (some ⟨L.b,L.ba+lo * t.sz,none⟩) n cap)
 |bO (id t lo a):Rel ι μ (.sl id t lo 0) (.slice a 0 0)
 |ptr (id off L) (h:μ id=some L):Rel ι μ (.ptr id off) (.pointer (some ⟨L.b,L.ba+off,none⟩))
 |bR (cs b o) (g:Nat->Value) (h1:∀i,i<cs.length->ι b (o+i)=some (g i)) (h2:∀i v,cs[i]?=some v->Rel ι μ v (g i)) (h3:∀i,(g i).oneCell'=true) :
   Rel ι μ (.bR cs) (.pointer (some ⟨b,o,none⟩))
 |ep (id t i p L) (h:μ id=some L):Rel ι μ (.ep id t i p) (.pointer (some ⟨L.b,L.ba+i * t.sz+t.bx p,none⟩))
 |ip (t x b o us) (h1:Reads ι b o us) (h2:af ι t x us):Rel ι μ (.ip t x) (.pointer (some ⟨b,o,none⟩))
 | fn (f fs cs) (xs ys : Array Value) (h1 : fs.length = xs.size) (h2 : ∀ (i : Nat) v x, fs[i]? = some v → xs[i]? = some x → Rel ι μ v x)
   (h3:cs.length=ys.size) (h4:∀(i:Nat) v x,cs[i]?=some v->ys[i]?=some x->Rel ι μ v x):Rel ι μ (.fn f fs cs) (.func (.func f) xs ys)
 |yl (id L) (h:μ id=some L):Rel ι μ (.yl id) (.func (.yield L.b) #[] #[])
 |agg (cs) (xs:Array Value) (h1:cs.length=xs.size) (h2:∀(i:Nat) v x,cs[i]?=some v->xs[i]?=some x->Rel ι μ v x) (h3:∀x∈xs.toList,x.oneCell'=true):Rel ι μ (.agg cs) (.agg xs)
 |cq (cs) (xs:Array Value) (h1:cs.length=xs.size) (h2:∀(i:Nat) v x,cs[i]?=some v->xs[i]?=some x->Rel ι μ v x):Rel ι μ (.cq cs) (.tuple xs)
 |cn (t v x) (h:Rel ι μ v x):Rel ι μ (.cn t v) (.iface t x)
 |cb (c b) (h:b=true->c=true):Rel ι μ (.cb c) (.bool b)
 |mp (id L) (h:μ id=some L):Rel ι μ (.mp id) (.map (some L.b))
 |dA:Rel ι μ .dA (.map none)
 |pa (id t n L) (h:μ id=some L) (hn:L.len=n):Rel ι μ (.pa id t n) (.pointer (some ⟨L.b,L.ba,none⟩))
 |iN (t xs b o us) (h1:Reads ι b o us) (h2:bu (af ι t) xs us):Rel ι μ (.iN t xs) (.pointer (some ⟨b,o,none⟩))
 |sp (id o l L) (h:μ id=some L) (hb:∀x∈l,0<=x.2.2/\x.2.2<(x.2.1:Int)):Rel ι μ (.sp id o l) (.pointer (some ⟨L.b,L.ba+(o+iR l),none⟩))
theorem Rel.mono {ι ι':aA} {μ μ':Mu} (hi:ι.le ι') (hm:μ.le μ') {v:V} {x:Value} (h:Rel ι μ v x):Rel ι' μ' v x:=by
 induction h with
 |any x=>exact .any x
 |tf b=>exact .tf b
 |bool b=>exact .bool b
 |int k n=>exact .int k n
 |str s=>exact .str s
 |ee=>exact .ee
 |cw=>exact .cw
 |ek=>exact .ek
 |dS t xs x h=>exact .dS t xs x (af.mono (t:=.list t) hi h)
 |bK a=>exact .bK a
 |sl id t lo n cap L h h1 h2 h3=>exact .sl id t lo n cap L (hm _ _ h) h1 h2 h3
 |bO id t lo a=>exact .bO id t lo a
 |ptr id off L h=>exact .ptr id off L (hm _ _ h)
 |bR cs b o g h1 h2 h3 ih=>exact .bR cs b o g (fun i h=>hi _ _ _ (h1 i h)) ih h3
 |ep id t i p L h=>exact .ep id t i p L (hm _ _ h)
 |ip t x b o us h1 h2=>exact .ip t x b o us (h1.mono hi) (af.mono hi h2)
 |fn f fs cs xs ys h1 h2 h3 h4 ih1 ih2=>exact .fn f fs cs xs ys h1 ih1 h3 ih2
 |yl id L h=>exact .yl id L (hm _ _ h)
 |agg cs xs h1 h2 h3 ih=>exact .agg cs xs h1 ih h3
 |cq cs xs h1 h2 ih=>exact .cq cs xs h1 ih
 |cn t v x h ih=>exact .cn t v x ih
 |cb c b h=>exact .cb c b h
 |mp id L h=>exact .mp id L (hm _ _ h)
 |dA=>exact .dA
 |pa id t n L h hn=>exact .pa id t n L (hm _ _ h) hn
 |iN t xs b o us h1 h2=>exact .iN t xs b o us (h1.mono hi) (bu.mono (fun _ _=>af.mono hi) h2)
 |sp id o l L h hb=>exact .sp id o l L (hm _ _ h) hb
def aG (ι:aA) (μ:Mu) (cs:List V) (xs:List Value):Prop :=
 cs.length=xs.length/\∀(i:Nat) v x,cs[i]?=some v->xs[i]?=some x->Rel ι μ v x
section Yx
variable {ι ι':aA} {μ μ':Mu}
theorem aG.nil:aG ι μ [] []:=⟨rfl,fun i v x h=>by simp at h⟩
theorem aG.cons {v:V} {x:Value} {cs:List V} {xs:List Value} (h:Rel ι μ v x) (hl:aG ι μ cs xs):aG ι μ (v::cs) (x::xs) :=
 ⟨by simp [hl.1],fun i w y hw hy=>by
  cases i with
  |zero=>simp at hw hy;subst hw;subst hy;exact h
  |succ i=>exact hl.2 i w y (by simpa using hw) (by simpa using hy)⟩
theorem aG.bF {v:V} {cs:List V} {xs:List Value} (h:aG ι μ (v::cs) xs):∃x r,xs=x::r/\Rel ι μ v x/\aG ι μ cs r:=by
 cases xs with
 |nil=>exact absurd h.1 (by simp)
 |cons x r=>exact ⟨x,r,rfl,h.2 0 v x rfl rfl,by have:=h.1;simpa using this,fun i w y hw hy=>h.2 (i+1) w y (by simpa using hw) (by simpa using hy)⟩
theorem aG.of_nil {xs:List Value} (h:aG ι μ [] xs):xs=[]:=by have:=h.1;cases xs<;>simp_all
theorem aG.mono (hi:ι.le ι') (hm:μ.le μ') {cs:List V} {xs:List Value} (h:aG ι μ cs xs):aG ι' μ' cs xs :=
 ⟨h.1,fun i v x hv hx=>(h.2 i v x hv hx).mono hi hm⟩
theorem aG.append {cs ds:List V} {xs ys:List Value} (h:aG ι μ cs xs) (h':aG ι μ ds ys):aG ι μ (cs++ds) (xs++ys):=by
 induction cs generalizing xs with
 |nil=>rw [h.of_nil];simpa using h'
 |cons c cs ih=>obtain ⟨x,r,rfl,h1,h2⟩:=h.bF;exact .cons h1 (ih h2)
theorem aG.drop {cs:List V} {xs:List Value} (h:aG ι μ cs xs) (k:Nat):aG ι μ (cs.drop k) (xs.drop k) :=
 ⟨by simp [h.1],fun i v x hv hx=>h.2 (k+i) v x (by simpa using hv) (by simpa using hx)⟩
theorem aG.take {cs:List V} {xs:List Value} (h:aG ι μ cs xs) (k:Nat):aG ι μ (cs.take k) (xs.take k) :=
 ⟨by simp [h.1],fun i v x hv hx=>by
  rw [List.getElem?_take] at hv hx
  split at hv
  ·rename_i hk;rw [if_pos hk] at hx;exact h.2 i v x hv hx
  ·simp at hv⟩
theorem aG.at {cs:List V} {xs:List Value} (h:aG ι μ cs xs) {i:Nat} {v:V} (hv:cs[i]?=some v):∃x,xs[i]?=some x/\Rel ι μ v x:=by
 have hi:=(List.getElem?_eq_some_iff.1 hv).1
 exact ⟨xs[i]'(by rw [<-h.1];exact hi),by simp,h.2 i v _ hv (by simp)⟩
theorem aG.mQ {cs vs:List V} {off k:Nat} {xs:List Value} (h:aG ι μ cs xs) (hc:cut off k cs=some vs):aG ι μ vs ((xs.drop off).take k)/\vs.length=k/\off+k<=xs.length:=by
 unfold cut at hc
 split at hc
 ·rename_i hk
  cases hc
  exact ⟨(h.drop off).take k,by simp;omega,by rw [<-h.1];exact hk⟩
 ·cases hc
end Yx
theorem Rel.cells {ι:aA} {μ:Mu} {v:V} {x:Value} (h:Rel ι μ v x) {cs:List V} (hv:v.cells?=some cs):aG ι μ cs x.cells.toList/\∀u∈x.cells.toList,u.oneCell'=true:=by
 cases h
 case any=>cases hv
 case cq=>cases hv
 case cb=>cases hv
 case agg cs xs h1 h2 h3 =>
  cases hv
  exact ⟨⟨by simpa [Value.cells] using h1,fun i v x hv hx=>h2 i v x hv (by simpa [Value.cells] using hx)⟩,h3⟩
 case dS t xs h =>
  obtain ⟨a,cap,e,hl,hx⟩:=h
  cases e
  cases hv
  exact ⟨.cons (.dS t xs _ ⟨a,cap,rfl,hl,hx⟩) .nil,by simp [Value.cells,Value.oneCell']⟩
 case bR cs b o g h1 h2 h3=>cases hv;exact ⟨.cons (.bR cs b o g h1 h2 h3) .nil,by simp [Value.cells,Value.oneCell']⟩
 case fn f fs cs xs ys h1 h2 h3 h4=>cases hv;exact ⟨.cons (.fn f fs cs xs ys h1 h2 h3 h4) .nil,by simp [Value.cells,Value.oneCell']⟩
 all_goals
  cases hv
  refine ⟨.cons ?_ .nil,by simp [Value.cells,Value.oneCell']⟩
  first
   |(constructor;done)
   |(constructor<;>assumption)
theorem tK {ι:aA} {μ:Mu} {g:Bool} {cs:List V} {xs:List Value} {v:Value} (h:lE g xs=some v) (hr:aG ι μ cs xs) (h1:∀u∈xs,u.oneCell'=true):Rel ι μ (dF.jY g cs) v:=by
 cases g with
 |true =>
  cases h
  exact .agg _ _ (by simpa using hr.1) (fun i v x hv hx=>hr.2 i v x hv (by simpa using hx)) (by simpa using h1)
 |false =>
  match xs,h with
  |[c],h =>
   cases h
   match cs,hr with
   |[v'],hr=>exact hr.2 0 v' _ rfl rfl
   |[],hr=>exact absurd hr.1 (by simp)
   |_::_::_,hr=>exact absurd hr.1 (by simp)
theorem eo {ι : aA} {μ : Mu} : ∀ {t : Ty} {x : t.den} {vs : List Value}, af ι t x vs → aG ι μ (dF t x) vs
 | .unit,_,_,h=>by simp [af] at h;subst h;exact .nil
 | .bool,_,_,h=>by simp [af] at h;subst h;exact .cons (.bool _) .nil
 | .str,_,_,h=>by simp [af] at h;subst h;exact .cons (.str _) .nil
 | .int _,_,_,h=>by simp [af] at h;subst h;exact .cons (.int _ _) .nil
 | .list t,xs,_,h=>by
  obtain ⟨a,cap,e,hl,hx⟩:=h
  subst e
  exact .cons (.dS t xs _ ⟨a,cap,rfl,hl,hx⟩) .nil
 | .prod _ _,_,_,⟨us,ws,e,h1,h2⟩=>by subst e;exact (eo h1).append (eo h2)
 | .cn d g t,x,_,⟨xs,v,h1,h2,h3⟩=>by
  subst h3
  exact .cons (.cn d _ v (tK h2 (eo h1) (af.one h1))) .nil
def ga (ι:aA) (μ:Mu) (id:Nat) (t:Ty) (xs:List t.den):Prop :=
 (xs=[]/\μ id=none)\/∃L vs,μ id=some L/\Reads ι L.b L.ba vs/\bu (af ι t) xs vs/\xs.length=L.len
def zT:List Int:=[0,1,56,2,57,49,28,3,61,58,42,50,38,29,17,4,62,47,59,36,45,43,51,22,53,39,33,30,24,18,12,5,63,55,48,27,60,41,37,16,46,35,44,21,52,32,23,11,54,26,40,15,34,20,31,10,25,14,19,9,13,8,7,6]
def kS (P:Program) (g:Nat):Option (List Int):=match P.globals[g]? with
 |some gl=>if gl.name == "math/bits.deBruijn64tab" then some zT else none
 |none=>none
def gb (P:Program) (ι:aA):Prop:=∀g jL,kS P g=some jL->Reads ι g 0 (jL.map fun z=>Value.int .u8 z)
theorem gb.mono {P:Program} {ι ι':aA} (h:gb P ι) (hi:ι.le ι'):gb P ι':=fun g jL hg=>(h g jL hg).mono hi
theorem gb.rel {P:Program} {ι:aA} (h:gb P ι) (μ:Mu) {g:Nat} {jL:List Int} (hg:kS P g=some jL):Rel ι μ (.iN (.int .u8) jL) (.pointer (some ⟨g,0,none⟩)):=by
 refine .iN (.int .u8) jL g 0 (jL.map fun z=>Value.int .u8 z) (h g jL hg) ?_
 clear hg
 induction jL with
 |nil=>rfl
 |cons z r ih=>exact ⟨[.int .u8 z],_,rfl,rfl,ih⟩
theorem gb.none {P:Program} (h:(List.range P.globals.size).all (fun g=>(kS P g).isNone)=true) (ι:aA):gb P ι:=fun g jL hg=>by
 have hs:g<P.globals.size:=by
  unfold kS at hg
  split at hg
  ·rename_i gl h';exact (Array.getElem?_eq_some_iff.1 h').1
  ·cases hg
 have:=List.all_eq_true.1 h g (List.mem_range.2 hs)
 rw [hg] at this;cases this
theorem dh {t t':Ty} {xs:List t.den} {ys:List t'.den} (h:iP t t' xs=some ys):∃e:t=t',ys=e▸xs:=by
 unfold iP at h
 split at h
 ·rename_i e;cases h;exact ⟨e,rfl⟩
 ·cases h
theorem tM {ι:aA} {μ:Mu} {t:Ty} {v:V} {x:Value} (h:Rel ι μ v x):Rel ι μ (Bv t v) x:=by
 unfold Bv
 split
 ·cases h;exact .dS _ _ _ ⟨_,0,rfl,Nat.le_refl _,.inl rfl⟩
 ·cases h;exact .bool _
 ·exact h
theorem o3 {ι : aA} {μ : Mu} : ∀ {ts : List Ty} {cs : List V} {xs : List Value}, aG ι μ cs xs → aG ι μ (u9 ts cs) xs
 |[],cs,xs,h=>by cases cs<;>exact h
 |t::ts,[],xs,h=>h
 |t::ts,c::cs,xs,h=>by
  obtain ⟨x,r,rfl,h1,h2⟩:=h.bF
  exact .cons (tM h1) (o3 h2)
theorem Da {ι:aA} {μ:Mu} {ty:Option Ty} {v:V} {x:Value} (h:Rel ι μ v x):Rel ι μ (Fv ty v) x:=by
 unfold Fv
 split
 ·exact h
 ·rename_i t
  split
  ·rename_i cs
   cases h with
   |agg _ xs h1 h2 h3 =>
    have:=o3 (ts:=qh t) (ι:=ι) (μ:=μ) (cs:=cs) (xs:=xs.toList) ⟨by simpa using h1,fun i v x hv hx=>h2 i v x hv (by simpa using hx)⟩
    exact .agg _ _ (by simpa using this.1) (fun i v x hv hx=>this.2 i v x hv (by simpa using hx)) h3
  ·exact tM h
theorem gw {ι : aA} {μ : Mu} : ∀ {ts : List (Option Ty)} {cs : List V} {xs : List Value}, aG ι μ cs xs → aG ι μ (bX ts cs) xs
 |[],cs,xs,h=>by cases cs<;>exact h
 |t::ts,[],xs,h=>h
 |t::ts,c::cs,xs,h=>by
  obtain ⟨x,r,rfl,h1,h2⟩:=h.bF
  exact .cons (Da h1) (gw h2)
end Go.AM
end
section
namespace Go.AM
def Fw : Value → Option V
 | .bool b=>some (.tf b)
 | .int k n=>some (.int k n)
 | .string s=>some (.str s)
 | .slice none 0 0=>some .bK
 | .pointer none=>some .ee
 | .nilFunc=>some .cw
 | .nilIface=>some .ek
 | .map none=>some .dA
 |_=>none
def th : List Value → Option (List V)
 |[]=>some []
 |v::r=>match Fw v,th r with
  |some x,some xs=>some (x::xs)
  |_,_=>none
def Yy : Value → Option V
 | .agg cs=>match th cs.toList with
  |some vs=>some (.agg vs)
  |none=>none
 |v=>Fw v
def cZ : Operand → Option O
 | .tmp t=>some (.t t)
 | .const v=>match Yy v with
  |some x=>some (.c x)
  |none=>none
 | .func f=>some (.c (.fn f [] []))
 | .global _=>none
def pS : List Operand → Option (List O)
 |[]=>some []
 |x::r=>match cZ x,pS r with
  |some y,some ys=>some (y::ys)
  |_,_=>none
def OE : Operand → Operand → Option O
 | .tmp n,.tmp m=>if n=m then some (.t n) else none
 | .const (.int k n),.const (.int k' m)=>if k=k'/\n=m then some (.c (.int k n)) else none
 |_,_=>none
def xy (g : TypeId → Option Ty) : List Field → Option Ty
 |[]=>some .unit
 |[f]=>g f.type
 |f::r=>match g f.type,xy g r with
  |some a,some b=>some (.prod a b)
  |_,_=>none
def Ns : Nat → Ty → Ty
 |0,_=>.unit
 |1,t=>t
 |n+2,t=>.prod t (Ns (n+1) t)
def S6 (P:Program) (ms:Array (String×TypeId)):Option Nat:=(List.range P.types.size).find? fun t=>match P.underlying t with
 |some (.struct _)=>match P.info? t with
  |some i => !ms.isEmpty&&ms.all fun (n,_)=>i.methods.any fun m=>m.name==n&&m.path.isEmpty&&(match m.func with
   |some (_,false)=>true
   |_=>false)
  |none=>false
 |_=>false
def lB (P : Program) : Nat → TypeId → Option Ty
 |0,_=>none
 |n+1,t=>match P.underlying t with
  |some .bool=>some .bool
  |some (.int k)=>some (.int k)
  |some .string=>some .str
  |some (.slice e)=>(lB P n e).map .list
  |some (.struct fs)=>match fs.toList with
   |[f]=>(lB P n f.type).map fun a=>.prod a .unit
   |fs=>xy (lB P n) fs
  |some (.array m e)=>(lB P n e).map (Ns m)
  |some (.interface ms)=>match S6 P ms with
   |some d=>(lB P n d).map (.cn d true)
   |none=>none
  |_=>none
def cm (P:Program) (t:TypeId):Option Nat:=(P.info? t).map (·.size)
def nZ (P:Program) (t:TypeId):Option Bool:=match P.underlying t with
 |some (.struct _)=>some true
 |some (.array _ _)=>some true
 |some _=>some false
 |none=>none
def tN : Ty → Value → Bool
 | .bool,.bool b => !b
 | .str,.string s=>s.size==0
 | .int k,.int k' n=>decide (k=k')&&n==0
 | .list _,.slice none 0 0=>true
 |_,_=>false
def dH : Ty → List Value → Option (List Value)
 | .unit,vs=>some vs
 | .prod a b,vs=>match dH a vs with
  |some r=>dH b r
  |none=>none
 | .bool,v::r=>if tN .bool v then some r else none
 | .str,v::r=>if tN .str v then some r else none
 | .int k,v::r=>if tN (.int k) v then some r else none
 | .list t,v::r=>if tN (.list t) v then some r else none
 | .cn _ _ _,_::_=>none
 |_,[]=>none
def Bw (t : Ty) : Nat → List Value → Option (List Value)
 |0,vs=>some vs
 |n+1,vs=>match dH t vs with
  |some r=>Bw t n r
  |none=>none
def vc : Ty → Bool
 | .unit=>true
 | .bool=>true
 | .str=>true
 | .int _=>true
 | .prod a b=>vc a&&vc b
 |_=>false
def Nt (P:Program) (e:TypeId):Option (Ty×Nat):=match P.underlying e with
 |some (.array m el)=>match lB P 8 el,cm P el with
  |some ty,some k=>if ty.sz=k/\1<=k/\m<=64/\vc ty=true/\cm P e=some (m * k) then some (ty,m) else none
  |_,_=>none
 |_=>none
def Fx : Value → Bool
 | .agg _=>true
 |_=>false
def Bx (P:Program) (e:TypeId):Option (Ty×Bool):=match lB P 8 e,nZ P e,P.info? e with
 |some ty,some g,some i=>match i.zero with
  |some z=>match dH ty z.cells.toList with
   |some []=>if Fx z=g then some (ty,g) else none
   |_=>none
  |none=>none
 |_,_,_=>none
def JN (P:Program) (name:String):List (Nat×Nat):=(List.range P.types.size).filterMap fun t=>match P.info? t with
 |some i=>match i.methods.find? (·.name==name) with
  |some m=>if m.path.isEmpty then (match m.func,P.underlying t with
   |some (f,true),some (.pointer _)=>some (t,f)
   |some (_,true),_=>none
   |some (_,false),some (.pointer _)=>none
   |some (f,false),some _=>some (t,f)
   |_,_=>none) else none
  |none=>none
 |none=>none
def Nu (n f:Nat):List Bool:=if n=1 then [false] else if f+1=n then List.replicate f true else List.replicate f true++[false]
def qE : BinOp → Option sZ
 | .add=>some .add
 | .sub=>some .sub
 | .mul=>some .mul
 | .quo=>some .quo
 | .rem=>some .rem
 | .and=>some .and
 | .or=>some .or
 | .xor=>some .xor
 | .andNot=>some .andNot
 | .shl=>some .shl
 | .shr=>some .shr
 | .eql=>some .eql
 | .neq=>some .neq
 | .lss=>some .lss
 | .leq=>some .leq
 | .gtr=>some .gtr
 | .geq=>some .geq
def iS:Nat:=1024
def gE (P:Program) (e:TypeId):Option Nat:=match P.info? e with
 |some i=>match i.zero with
  |some z=>if i.bytes<=iS/\z.cells.size=i.size then some i.size else none
  |none=>none
 |none=>none
def partsOf (place : Nat → Option (Nat × Nat)) : List (Nat × Operand) → Option (List (Nat × Nat × O))
 |[]=>some []
 |(i,x)::r=>match place i,cZ x,partsOf place r with
  |some (off,k),some y,some ys=>some ((off,k,y)::ys)
  |_,_,_=>none
def qj : Nat → List (Nat × Operand) → Option (List O)
 |_,[]=>some []
 |n,(i,x)::r=>if i=n then (match cZ x,qj (n+1) r with
  |some y,some ys=>some (y::ys)
  |_,_=>none) else none
def ve : Option Operand → Option (Option O)
 |none=>some none
 |some x=>(cZ x).map some
def mR (P:Program) (s:TypeId) (f:Nat):Option (Field×Nat):=match P.underlying s with
 |some (.struct fs)=>match fs[f]? with
  |some fd=>some (fd,fs.size)
  |none=>none
 |_=>none
def gZ : BinOp → Option Bool
 | .eql=>some false
 | .neq=>some true
 |_=>none
def o4 (P : Program) : Nat → List Field → Option (List Kd)
 |_,[]=>some []
 |n,f::r=>if f.name ≠ "_" /\ f.offset=n then (match P.underlying f.type,o4 P (n+1) r with
  |some .bool,some ks=>some (.b::ks)
  |some (.int _),some ks=>some (.i::ks)
  |some .string,some ks=>some (.s::ks)
  |_,_=>none) else none
def Fy (P:Program) (t:TypeId):Option (List Kd):=match P.underlying t with
 |some (.struct fs)=>if P.stoodInHeld t=false/\(P.info? t).isSome then (match o4 P 0 fs.toList with
  |some ks=>if P.cellsOf t=ks.length then some ks else none
  |none=>none) else none
 |_=>none
def JO (P:Program) (t:TypeId):Option (List Kd):=match P.underlying t with
 |some (.array m e)=>(match P.underlying e with
  |some (.int _)=>if P.cellsOf e=1/\(P.info? e).isSome/\(P.info? t).isSome/\P.cellsOf t=m then some (List.replicate m .i) else none
  |_=>none)
 |_=>none
def fF (P : Program) : Nat → List Field → Option (List Kd)
 |_,[]=>some []
 |n,f::r=>if f.name ≠ "_" /\ f.offset=n then (match P.underlying f.type with
  |some .bool=>(fF P (n+1) r).map (.b::·)
  |some (.int _)=>(fF P (n+1) r).map (.i::·)
  |some .string=>(fF P (n+1) r).map (.s::·)
  |some (.struct _)=>(match Fy P f.type with
   |some ks=>(fF P (n+ks.length) r).map (ks++·)
   |none=>none)
  |some (.array _ _)=>(match JO P f.type with
   |some ks=>(fF P (n+ks.length) r).map (ks++·)
   |none=>none)
  |_=>none) else none
def structEq (P:Program) (t:TypeId):Option (List Kd):=match P.underlying t with
 |some (.struct fs)=>if P.eqGuardType P.depth t=false/\P.stoodInHeld t=false then fF P 0 fs.toList else none
 |some (.array _ _)=>if P.eqGuardType P.depth t=false then JO P t else none
 |_=>none
def mS : Ty → Option (List Kd)
 | .unit=>some []
 | .bool=>some [.b]
 | .str=>some [.s]
 | .int _=>some [.i]
 | .prod a b=>match mS a,mS b with
  |some x,some y=>some (x++y)
  |_,_=>none
 |_=>none
def Bz (P:Program) (k:TypeId):Option (Ty×Bool):=match P.underlying k with
 |some (.int i)=>some (.int i,false)
 |some .string=>some (.str,false)
 |some (.struct fs)=>match lB P 8 k,o4 P 0 fs.toList with
  |some ty,some ks=>if mS ty=some ks/\P.stoodInHeld k=false then some (ty,true) else none
  |_,_=>none
 |_=>none
def o5 (P:Program) (t:TypeId):Option (Ty×Bool×Ty×Bool):=match P.underlying t with
 |some (.map k e)=>match Bz P k,Bx P e with
  |some (kt,kg),some (vt,vg)=>some (kt,kg,vt,vg)
  |_,_=>none
 |_=>none
def XR (P:Program) (b:Builtin) (tys:List TypeId) (args:List Operand):Option I :=
 match b,tys,args with
 | .len,[t],[x]=>match P.underlying t with
  |some .string=>(cZ x).map .lens
  |some (.slice _)=>(cZ x).map .len
  |some (.array n _)=>some (.td n)
  |some (.map _ _)=>(cZ x).map fun x=>.ex .JG [x]
  |some (.pointer a)=>match P.underlying a with
   |some (.array n _)=>some (.td n)
   |_=>none
  |_=>none
 | .append,[t,u],[x,y]=>match P.underlying t,P.underlying u with
  |some (.slice e),some (.slice _)=>match gE P e,cZ x,cZ y with
   |some k,some x,some y=>some (.append k x y)
   |_,_,_=>none
  |some (.slice e),some (.int _)=>match lB P 8 e,gE P e,P.info? e with
   |some ty,some k,some i=>match i.zero with
    |some z=>match dH ty z.cells.toList with
     |some []=>match cZ x,cZ y with
      |some x,some y=>if ty.sz=k/\z.cells.size=k then some (.ex (.OD ty) [x,y]) else none
      |_,_=>none
     |_=>none
    |none=>none
   |_,_,_=>none
  |_,_=>none
 | .cap,[t],[x]=>match P.underlying t with
  |some (.slice _)=>(cZ x).map fun x=>.ex .S2 [x]
  |_=>none
 | .clear,[t],[x]=>match P.underlying t with
  |some (.slice e)=>match lB P 8 e,gE P e,P.info? e with
   |some ty,some k,some i=>match i.zero with
    |some z=>match dH ty z.cells.toList with
     |some []=>if ty.sz=k/\z.cells.size=k then (cZ x).map fun x=>.ex (.clear ty) [x] else none
     |_=>none
    |none=>none
   |_,_,_=>none
  |_=>none
 | .max,_,x::r=>match cZ x,pS r with
  |some x,some ys=>some (.cF true x ys)
  |_,_=>none
 | .min,_,x::r=>match cZ x,pS r with
  |some x,some ys=>some (.cF false x ys)
  |_,_=>none
 |_,_,_=>none
def BA (P:Program) (op:BinOp) (t:TypeId) (x y:Operand):Option I:=match y with
 | .const (.slice none 0 0)=>match P.underlying t,cZ x,gZ op with
  |some (.slice _),some x,some n=>some (.ex (.Fj n) [x])
  |_,_,_=>none
 | .const (.map none)=>match P.underlying t,cZ x,gZ op with
  |some (.map _ _),some x,some n=>some (.ex (.zL n) [x])
  |_,_,_=>none
 | .const (.pointer none)=>match P.underlying t,cZ x,gZ op with
  |some (.pointer _),some x,some n=>some (.ex (.zM n) [x])
  |_,_,_=>none
 |y=>match cZ x,cZ y with
  |some x,some y=>match structEq P t with
   |some ks=>match gZ op with
    |some n=>some (.eqs n ks x y)
    |none=>none
   |none=>match P.underlying t with
    |some .bool=>(gZ op).map (.JJ · x y)
    |some (.int _)=>(qE op).map (.bin · x y)
    |some .string=>(qE op).map (.bin · x y)
    |_=>none
  |_,_=>none
def vf (P:Program) (t:TypeId) (x i:Operand):Option I:=match x with
 | .global g=>match P.underlying t,kS P g,cZ i with
  |some (.array n e),some jL,some i=>match P.underlying e,cm P e with
   |some (.int .u8),some 1=>if jL.length=n then some (.tc n 1 (.c (.iN (.int .u8) jL)) i) else none
   |_,_=>none
  |_,_,_=>none
 |_=>none
def E4 (P:Program) (o:Op):Option I :=
 match o with
 | .move x=>(cZ x).map .mv
 | .assign x=>(cZ x).map .mv
 | .pick c a b=>match cZ c,cZ a,cZ b with
  |some c,some a,some b=>some (.pick c a b)
  |_,_,_=>none
 | .alloc e=>match P.info? e with
  |some i=>match i.zero with
   |some z=>match Nt P e with
    |some (ty,m)=>match Bw ty m z.cells.toList with
     |some []=>some (.ex (.lQ ty m) [])
     |_=>none
    |none=>(th z.cells.toList).map .alloc
   |none=>none
  |none=>none
 | .box e x=>match Nt P e with
  |some (ty,m)=>(cZ x).map fun x=>.ex (.JI ty m) [x]
  |none=>(cZ x).map .box
 | .build t parts=>match P.info? t,P.underlying t with
  |some it,some (.struct fields)=>match it.zero,fields.toList.mapM (fun f=>(P.info? f.type).map fun i=>(f.offset,i.size)) with
   |some z,some places=>match th z.cells.toList,partsOf (places.toArray[·]?) parts.toList with
    |some z,some ps=>some (.build z ps)
    |_,_=>none
   |_,_=>none
  |some it,some (.array _ e)=>match it.zero,P.info? e with
   |some z,some ie=>match th z.cells.toList,partsOf (fun i=>some (i * ie.size,ie.size)) parts.toList with
    |some z,some ps=>some (.build z ps)
    |_,_=>none
   |_,_=>none
  |_,_=>none
 | .buildSlice t n parts=>match P.underlying t with
  |some (.slice e)=>match lB P 8 e,gE P e,qj 0 parts.toList with
   |some ty,some k,some xs=>if ty.sz=k/\xs.length=n/\n * k<=2 ^ 20 then some (.dy ty xs) else none
   |_,_,_=>none
  |_=>none
 | .load t x=>match cm P t,nZ P t,cZ x with
  |some k,some g,some x=>some (.load g k x)
  |_,_,_=>none
 | .store t a x=>match cm P t,cZ a,cZ x with
  |some k,some a,some x=>some (.store k a x)
  |_,_,_=>none
 | .binOp op t x y _=>BA P op t x y
 | .nilCheck x=>(cZ x).map fun x=>.ex .SZ [x]
 | .unOp .neg _ x=>(cZ x).map .neg
 | .unOp .not _ x=>(cZ x).map .not
 | .convert s d x=>match P.underlying s,P.underlying d with
  |some (.int _),some (.int k)=>(cZ x).map (.conv k)
  |some .string,some (.slice e)=>match P.underlying e with
   |some (.int .u8)=>(cZ x).map fun x=>.ex .bytes [x]
   |_=>none
  |some (.slice e),some .string=>match P.underlying e with
   |some (.int .u8)=>(cZ x).map fun x=>.ex .text [x]
   |_=>none
  |_,_=>none
 | .makeFunc (.func f) a b=>match pS a.toList,pS b.toList with
  |some a,some b=>some (.nV f a b)
  |_,_=>none
 | .makeSlice t n m=>match OE n m with
  |some xn=>(match P.underlying t with
  |some (.slice e)=>match lB P 8 e,gE P e,P.info? e with
   |some ty,some k,some i=>match i.zero with
    |some z=>match dH ty z.cells.toList with
     |some []=>if ty.sz=k/\z.cells.size=k then some (.fM ty xn) else none
     |_=>none
    |none=>none
   |_,_,_=>none
  |_=>none)
  |none=>none
 | .slice t x lo hi mx=>match P.underlying t with
  |some (.slice e)=>match cm P e,cZ x,ve lo,ve hi,ve mx with
   |some k,some x,some lo,some hi,some mx=>some (.slice k x lo hi mx)
   |_,_,_,_,_=>none
  |some (.array n e)=>match lo,hi,mx,cm P e with
   |none,none,none,some _=>(cZ x).map fun x=>.ex (.JH n) [x]
   |_,_,_,_=>none
  |_=>none
 | .fieldAddr s x f=>match mR P s f with
  |some (fd,n)=>match cm P fd.type,cZ x with
   |some (_+1),some x=>some (.eY fd.offset (Nu n f) x)
   |_,_=>none
  |none=>none
 | .field s x f=>match mR P s f with
  |some (fd,_)=>match cm P fd.type,nZ P fd.type,cZ x with
   |some k,some g,some x=>some (.field g fd.offset k x)
   |_,_,_=>none
  |none=>none
 | .indexAddr t x i=>match P.underlying t,cZ x,cZ i with
  |some (.slice e),some x,some i=>(cm P e).map fun k=>.idx k x i
  |some (.array n e),some x,some (.c (.int _ (.ofNat m)))=>match cm P e with
   |some (k+1)=>if m<n then some (.eY (m * (k+1)) (Nu n m) x) else none
   |_=>none
  |some (.array n e),some x,some i=>(cm P e).map fun k=>.tc n k x i
  |_,_,_=>vf P t x i
 | .index t x i=>match P.underlying t,cZ x,cZ i with
  |some (.array n e),some x,some i=>match cm P e,nZ P e with
   |some (k+1),some g=>some (.ex (.qD n (k+1) g) [x,i])
   |_,_=>none
  |some .string,some x,some i=>some (.ex .qC [x,i])
  |_,_,_=>none
 | .makeMap t none=>match o5 P t with
  |some (kt,kg,vt,vg)=>some (.ex (.Fk kt kg vt vg) [])
  |none=>none
 | .lookup t x i ok=>match o5 P t,cZ x,cZ i with
  |some (kt,kg,vt,vg),some x,some i=>some (.ex (.zN kt kg vt vg ok) [x,i])
  |_,_,_=>none
 | .mapUpdate t m k v=>match o5 P t,cZ m,cZ k,cZ v with
  |some (kt,kg,vt,vg),some m,some k,some v=>some (.ex (.ta kt kg vt vg) [m,k,v])
  |_,_,_,_=>none
 | .makeInterface t x=>match P.underlying t with
  |some (.interface _)=>none
  |some _=>(cZ x).map fun x=>.ex (.S0 t) [x]
  |none=>none
 | .panic _=>some (.ex .qC [])
 | .range _ _=>some (.ex .qC [])
 | .next _ _=>some (.ex .qC [])
 | .entry _=>some (.ex .qC [])
 | .extract x k=>(cZ x).map (.ext k)
 | .call { callee:=.builtin b,args,argTypes }=>XR P b argTypes.toList args.toList
 |_=>none
def S7 (ops : Array Oper) : Option (Nat × Bool) → Option (Option (Nat × Bool))
 |none=>some none
 |some (j,b)=>match ops[j]? with
  |some o=>match o.dst with
   |some d=>some (some (d,b))
   |none=>none
  |none=>none
def tO (N : Nat) : Option Nat → Bool
 |none=>true
 |some d=>d<N
def hN (P : Program) : Callee → Option O
 | .value f=>cZ f
 | .invoke (.tmp t) name=>some (.m t (JN P name))
 |_=>none
def Yz (P:Program) (f:Nat):Bool:=match P.funcs[f]? with
 |some f=>(Nat.beq f.targs.size 1||(Nat.beq f.params.size 2&&(match f.params[1]? with
   |some t=>(match P.underlying t with
    |some (.int _)=>true
    |some (.func _ rs _)=>Nat.beq rs.size 0
    |_=>false)
   |none=>false)))&&Nat.beq f.resultTypes.size 1&&(match f.params[0]?,f.resultTypes[0]? with
  |some a,some b=>Nat.beq a b
  |_,_=>false)
 |none=>false
def dV (P:Program) (f:O) (tys:Array TypeId):List (Option Ty):=match f with
 | .c (.fn f [] [])=>match Yz P f with
  |true=>XQ (tys.toList.map (lB P 8))
  |false=>tys.toList.map (lB P 8)
 |_=>tys.toList.map (lB P 8)
def xz (P:Program) (N:Nat) (ops:Array Oper) (o:Oper):Option dB :=
 if tO N o.dst then
  match S7 ops o.guard with
  |none=>none
  |some g =>
   match o.op with
   | .call { callee:=.value f,args,argTypes }=>match cZ f,pS args.toList with
    |some f,some args=>some (.call o.dst g f args (dV P f argTypes))
    |_,_=>none
   | .call { callee:=.invoke r name,args,argTypes }=>match hN P (.invoke r name),pS args.toList with
    |some f,some args=>some (.call o.dst g f args (dV P f argTypes))
    |_,_=>none
   |op=>match E4 P op with
    |some i=>some (.op o.dst g i)
    |none=>none
 else none
def eA (P : Program) (N : Nat) (ops : Array Oper) : List Oper → Option (List dB)
 |[]=>some []
 |o::r=>match xz P N ops o,eA P N ops r with
  |some i,some is=>some (i::is)
  |_,_=>none
def bQ (ops:Array Oper):List (List Nat):=(Region.before ops).toList.map fun m=>(List.range ops.size).filter fun j=>m.testBit j
def I.os : I → List O
 | .mv x=>[x]
 | .pick c a b=>[c,a,b]
 | .alloc _=>[]
 | .box x=>[x]
 | .build _ ps=>ps.map (·.2.2)
 | .dy _ xs=>xs
 | .load _ _ x=>[x]
 | .store _ a x=>[a,x]
 | .bin _ x y=>[x,y]
 | .JJ _ x y=>[x,y]
 | .eqs _ _ x y=>[x,y]
 | .neg x=>[x]
 | .not x=>[x]
 | .conv _ x=>[x]
 | .eY _ _ x=>[x]
 | .field _ _ _ x=>[x]
 | .idx _ x i=>[x,i]
 | .tc _ _ x i=>[x,i]
 | .ext _ x=>[x]
 | .len x=>[x]
 | .lens x=>[x]
 | .td _=>[]
 | .append _ x y=>[x,y]
 | .fM _ n=>[n]
 | .nV _ a b=>a++b
 | .slice _ x lo hi mx=>x::(lo.toList++hi.toList++mx.toList)
 | .cF _ x ys=>x::ys
 | .ex _ xs=>xs
def BB : O → List Nat
 | .t n=>[n]
 | .c _=>[]
 | .m n _=>[n]
def dB.dst : dB → Option Nat
 | .op d _ _=>d
 | .call d _ _ _ _=>d
def dB.Nv : dB → Option (Nat × Bool)
 | .op _ g _=>g
 | .call _ g _ _ _=>g
def dB.os : dB → List O
 | .op _ _ i=>i.os
 | .call _ _ f as _=>f::as
def dB.uses (i:dB):List Nat:=i.os.flatMap BB++(match i.Nv with
 |some (s,_)=>[s]
 |none=>[])
def vh (d:Option Nat) (l:List Nat):Bool:=match d with
 |some t => !(l.contains t)
 |none=>true
def jt (a b:dB):Bool:=vh a.dst b.uses&&vh b.dst a.uses&&(match a.dst with
 |some t=>b.dst != some t
 |none=>true)
def kT (bN:List (List Nat)) (is:List dB):Bool :=
 (List.range is.length).all fun j=>(List.range j).all fun i=>((bN.getD j []).contains i)||(match is[i]?,is[j]? with
  |some a,some b=>jt a b
  |_,_=>true)
def gq (ops:Array Oper):Bool:=ops.toList.zipIdx.all fun (o,i)=>o.after.all fun e => !(Region.binds .any e)||decide (e.on<i)
def OG : dB → Bool
 | .call _ _ _ _ _=>true
 |_=>false
def JP (bN:List (List Nat)) (n c:Nat):Bool:=(List.range n).all fun i=>decide (i<c)||(List.range i).all fun j=>(bN.getD i []).contains j
def xA : List dB → Nat → Option Nat → Option Nat
 |[],_,r=>r
 |i::l,k,r=>xA l (k+1) (match OG i with
  |true=>some k
  |false=>r)
def Nw (bN:List (List Nat)) (is:List dB):Option Nat:=match xA is 0 none with
 |some c=>match JP bN is.length c&&decide (c<=is.length) with
  |true=>some c
  |false=>none
 |none=>none
def eH : dB → Bool
 | .call _ none (.c (.fn _ _ _)) _ (none::_)=>true
 |_=>false
def S8 (bN:List (List Nat)) (is:List dB):Option (Nat×Nat):=none
def Fz (is:List dB) (c e:Nat):List dB:=is.take c++(is.drop (c+1)).take (e - (c+1))
def FA (is:List dB) (c e:Nat):List dB:=(is.drop c).take 1++is.drop e
structure S9 where
 pre:List dB
 m:O
 it:Nat
 cl:List Nat
 e:Option Nat
 kt:Ty
 kg:Bool
 vt:Ty
 vg:Bool
 Ju:Nat
def OH (P : Program) (N : Nat) : Code → Option (List dB × O × Nat × Ty × Bool × Ty × Bool)
 | .region _ ops false=>match ops.toList.reverse with
  |o::r=>match o.op with
   | .range t x=>match o.dst with
    |some it=>if o.guard=none/\it<N then (match o5 P t,cZ x,eA P N ops r.reverse with
     |some (kt,kg,vt,vg),some m,some is=>some (is,m,it,kt,kg,vt,vg)
     |_,_,_=>none) else none
    |none=>none
   |_=>none
  |[]=>none
 |_=>none
def OI (N it : Nat) : Code → Option (Nat × Nat)
 | .region _ ops false=>match ops.toList with
  |[o,o']=>match o.op with
   | .next (.tmp i) false=>match o.dst with
    |some n=>match o'.op with
     | .extract (.tmp n') 0=>match o'.dst with
      |some ok=>if o.guard=none/\o'.guard=none/\i=it/\n'=n/\n<N/\ok<N/\n≠it/\ok≠it then some (n,ok) else none
      |none=>none
     |_=>none
    |none=>none
   |_=>none
  |_=>none
 |_=>none
def OJ (N it : Nat) : Code → Option Nat
 | .seq (.region _ ops false) _=>match ops.toList with
  |o::_=>match o.op with
   | .entry (.tmp i)=>match o.dst with
    |some e=>if o.guard=none/\i=it/\e<N/\e≠it then some e else none
    |none=>none
   |_=>none
  |[]=>none
 |_=>none
def Nx (P:Program) (N:Nat) (a b:Code):Option S9:=match b with
 | .block b1 (.loop (.seq x (.seq (.cond (.tmp t) .skip (.exit b2)) (.block _ y))))=>match OH P N a with
  |some (is,m,it,kt,kg,vt,vg)=>match OI N it x with
   |some (n,ok)=>if t=ok/\b1=b2 then some ⟨is,m,it,[n,ok],OJ N it y,kt,kg,vt,vg,b1⟩ else none
   |none=>none
  |none=>none
 |_=>none
def Ta (e : Option Nat) : C → Option C
 | .block _ (.loop (.seq _ (.seq _ (.block b x))))=>match e with
  |none=>some (.block b x)
  |some _=>match x with
   | .seq (.dg (_::is)) r=>some (.block b (.seq (.dg is) r))
   |_=>none
 |_=>none
def pT (P : Program) (N : Nat) : Code → Option C
 | .skip=>some .skip
 | .label _=>some .skip
 | .scope c=>pT P N c
 | .region _ ops draw=>match eA P N ops ops.toList with
  |some is=>match draw with
   |true=>if kT (bQ ops) is=true/\gq ops=true then some (match S8 (bQ ops) is with
    |some (c,e)=>.seq (.draw [] (Fz is c e)) (.dg (FA is c e))
    |none=>match Nw (bQ ops) is with
     |some c=>.seq (.draw (bQ ops) (is.take c)) (.dg (is.drop c))
     |none=>.draw (bQ ops) is) else none
   |false=>some (.dg is)
  |none=>none
 | .seq a b=>match pT P N a,pT P N b with
  |some ca,some cb=>match Nx P N a b with
   |none=>some (.seq ca cb)
   |some h=>match Ta h.e cb with
    |some bd=>some (.gD h.pre h.m h.it h.cl h.e h.kt h.kg h.vt h.vg h.Ju bd)
    |none=>none
  |_,_=>none
 | .cond c a b=>match cZ c,pT P N a,pT P N b with
  |some c,some a,some b=>some (.cond c a b)
  |_,_,_=>none
 | .block id c=>(pT P N c).map (.block id)
 | .loop c=>(pT P N c).map .loop
 | .exit id=>some (.exit id)
 | .ret=>some .ret
 | .rangeFunc f ps a b=>match cZ f,pT P N a,pT P N b with
  |some f,some a,some b=>some (.cA f ps.toList a b)
  |_,_,_=>none
 |_=>none
inductive RV where
 |t (n:Nat)
 |cell (n:Nat) (agg:Bool) (k:Nat)
structure Fn where
 N:Nat
 np:Nat
 body:C
 res:List RV
 tys:List (Option Ty)
def FB (P : Program) : List ResultVar → Option (List RV)
 |[]=>some []
 | .tmp t::r=>(FB P r).map (.t t::·)
 | .cell a t::r=>match cm P t,nZ P t,FB P r with
  |some k,some g,some rs=>some (.cell a g k::rs)
  |_,_,_=>none
def cD (P:Program) (f:Func):Option Fn:=match f.body with
 |some c=>match pT P f.ntmps c,FB P f.results.toList with
  |some b,some rs=>if f.params.size+f.nfree<=f.ntmps then some ⟨f.ntmps,f.params.size+f.nfree,b,rs,f.resultTypes.toList.map (lB P 8)⟩ else none
  |_,_=>none
 |none=>none
end Go.AM
end
section
namespace Go.AM
def JQ (c:O) (b:Bool) (S:St):St:=match c with
 | .t n=>JM n b S
 | .c _=>S
 | .m _ _=>S
def cV : Nat → V → Bool
 |0,_=>false
 |n+1,v=>match v with
  | .sl _ _ _ _=>false
  | .ptr _ _=>false
  | .ep _ _ _ _=>false
  | .yl _=>false
  | .mp _=>false
  | .pa _ _ _=>false
  | .sp _ _ _=>false
  | .bR cs=>cs.all (cV n)
  | .fn _ a b=>a.all (cV n)&&b.all (cV n)
  | .agg cs=>cs.all (cV n)
  | .cq cs=>cs.all (cV n)
  | .cn _ v=>cV n v
  |_=>true
def cM (g : V → Option V) : List V → Option (List V)
 |[]=>some []
 |v::r=>match g v with
  |some x=>match cM g r with
   |some xs=>some (x::xs)
   |none=>none
  |none=>none
def fin (ar : Ar) (bl : aj) : Nat → V → Option V
 |0,_=>none
 |n+1,v=>match v with
  | .sl id t lo m=>match aq id bl with
   |some (.arr t' xs _)=>if t=t' then some (.dS t' (ar.sub' xs lo m)) else none
   |_=>none
  | .ptr id off=>match aq id bl with
   |some (.cells cs _)=>match cM (fin ar bl n) cs with
    |some ds=>if off<=ds.length then some (.bR (ds.drop off)) else none
    |none=>none
   |_=>none
  | .ep _ _ _ _=>none
  | .yl _=>none
  | .mp _=>none
  | .sp _ _ _=>none
  | .pa id t m=>match aq id bl with
   |some (.arr t' xs _)=>if t=t' then some (.iN t' xs) else none
   |_=>none
  | .fn f a b=>match cM (fin ar bl n) a,cM (fin ar bl n) b with
   |some a,some b=>some (.fn f a b)
   |_,_=>none
  | .agg cs=>match cM (fin ar bl n) cs with
   |some cs=>some (.agg cs)
   |none=>none
  | .cq cs=>match cM (fin ar bl n) cs with
   |some cs=>some (.cq cs)
   |none=>none
  | .cn t v=>match fin ar bl n v with
   |some v=>some (.cn t v)
   |none=>none
  | .bR cs=>if cs.all (cV n) then some (.bR cs) else none
  |v=>some v
def o6 : V → List Nat
 | .sl id _ _ _=>[id]
 | .ptr id _=>[id]
 | .ep id _ _ _=>[id]
 | .mp id=>[id]
 | .pa id _ _=>[id]
 | .sp id _ _=>[id]
 |_=>[]
def lT : V → List Nat
 | .agg cs=>cs.flatMap o6
 |v=>o6 v
def jT (i:I) (env:List (Nat×V)):List Nat:=match i with
 | .load _ _ x=>o6 (x.ev env)
 | .store _ a x=>o6 (a.ev env)++lT (x.ev env)
 | .dy _ xs=>(xs.map (·.ev env)).flatMap lT
 | .append _ x y=>o6 (x.ev env)++o6 (y.ev env)
 | .ex _ xs=>(xs.map (·.ev env)).flatMap lT
 |_=>[]
def tj (x : Nat) : List Nat → Bool
 |[]=>false
 |y::r=>match Nat.beq y x with
  |true=>true
  |false=>tj x r
def tP : List Nat → List Nat → Bool
 |[],_=>true
 |x::r,l=>match tj x l with
  |true=>false
  |false=>tP r l
structure DR where
 k:Nat
 rd:List Nat
 wr:List Nat
def vj (bN:List (List Nat)) (a b:DR):Bool :=
 match tj a.k (bN.getD b.k []) with
 |true=>true
 |false=>match tP a.wr b.rd with
  |false=>false
  |true=>match tP a.wr b.wr with
   |false=>false
   |true=>tP a.rd b.wr
def BC (bN : List (List Nat)) (a : DR) : List DR → Bool
 |[]=>true
 |b::r=>match vj bN a b with
  |true=>BC bN a r
  |false=>false
def FC (bN : List (List Nat)) : List DR → Bool
 |[]=>true
 |a::r=>match BC bN a r with
  |true=>FC bN r
  |false=>false
def BD (bN:List (List Nat)) (bW:List DR):Bool:=match bN with
 |[]=>match bW with
  |[]=>true
  |_::_=>false
 |_::_=>FC bN bW
theorem FD {bN:List (List Nat)} {bW:List DR} (h:BD bN bW=true):FC bN bW=true:=by
 unfold BD at h
 split at h
 ·split at h
  ·rfl
  ·cases h
 ·exact h
def n3 (k:Nat) (rd wr:List Nat) (bW:List DR):List DR:=match rd,wr with
 |[],[]=>bW
 |_,_=>bW++[⟨k,rd,wr⟩]
def BE : V → Bool
 | .bool _=>true
 | .tf _=>true
 | .int _ _=>true
 | .str _=>true
 |_=>false
def FE : V → Bool
 | .bool _=>true
 | .tf _=>true
 | .int _ _=>true
 | .str _=>true
 | .agg vs=>vs.all BE
 |_=>false
def xB : V → Bool
 | .bool _=>true
 | .tf _=>true
 | .int _ _=>true
 | .str _=>true
 | .agg vs=>vs.all BE
 | .cq vs=>vs.all FE
 |_=>false
def vk (gs:List Nat) (d:Option Nat) (v:V) (env:List (Nat×V)) (K:List (Nat×V)->Prop):Prop:=match d with
 |none=>K env
 |some t=>match tj t gs with
  |false=>K (u7 t v env)
  |true=>match v with
   | .bool c=>Br c (fun _=>K (u7 t (.tf true) env)) (fun _=>K (u7 t (.tf false) env))
   |v=>K (u7 t v env)
def zU (g:Option (Nat×Bool)) (env:List (Nat×V)):Option Bool:=match g with
 |none=>some true
 |some (s,b)=>match get s env with
  | .tf c=>match c,b with
   |true,true=>some true
   |false,false=>some true
   |_,_=>some false
  | .cq _=>some false
  |_=>none
def ei (bl : aj) : Nat → V → List Nat
 |0,_=>[]
 |n+1,v=>match v with
  | .sl id _ _ _=>[id]
  | .pa id _ _=>[id]
  | .ptr id _=>id::(match aq id bl with
   |some (.cells cs _)=>cs.flatMap (ei bl n)
   |_=>[])
  | .fn _ a b=>a.flatMap (ei bl n)++b.flatMap (ei bl n)
  | .agg cs=>cs.flatMap (ei bl n)
  | .cq cs=>cs.flatMap (ei bl n)
  | .cn _ v=>ei bl n v
  |_=>[]
def gj (bl:aj) (vs:List V):List Nat:=vs.flatMap (ei bl 8)
def qF : List Nat → aj → Option cU
 |[],_=>some []
 |id::r,bl=>match aq id bl with
  |some (.arr t xs _)=>match qF r ((id,.arr t xs true)::bH id bl) with
   |some u=>some ((id,some (.arr t xs true))::u)
   |none=>none
  |some (.cells cs _)=>match qF r ((id,.cells cs true)::bH id bl) with
   |some u=>some ((id,some (.cells cs true))::u)
   |none=>none
  |_=>none
def BF (b:Bool) (ids:List Nat) (bl:aj):Option cU:=match b with
 |true=>some []
 |false=>qF ids bl
def qG (o:Out) (K:V->cU->Prop):Prop:=match o with
 |some (ob,v,u)=>pR ob/\K v u
 |none=>False
theorem qH {o:Out} {K:V->cU->Prop} (h:qG o K):∃ob v u,o=some (ob,v,u)/\pR ob/\K v u:=by
 unfold qG at h
 split at h
 ·exact ⟨_,_,_,rfl,h.1,h.2⟩
 ·exact h.elim
theorem tQ {o:Out} {K:V->cU->Prop} {ob:List Bool} {v:V} {u:cU} (h:o=some (ob,v,u)) (cE:pR ob) (hk:K v u):qG o K:=by
 subst h;exact ⟨cE,hk⟩
def lU (ar : Ar) (gs : List Nat) (b : Nat) : List dB → Nat → List (Nat × V) → aj → List DR → (List (Nat × V) → aj → List DR → Prop) → Prop
 |[],_,env,bl,bW,K=>K env bl bW
 | .op d g i::r,k,env,bl,bW,K=>match zU g env with
  |some true=>qG (cg ar i env bl (b+k)) (fun v u=>vk gs d v env fun env'=>lU ar gs b r (k+1) env' (bD u bl) (n3 k (jT i env) (u.map (·.1)) bW) K) \/
   qG (tg ar i env bl (b+k)) (fun v u=>vk gs d v env fun env'=>lU ar gs b r (k+1) env' (bD u bl) (n3 k (jT i env) (u.map (·.1)) bW) K)
  |some false=>lU ar gs b r (k+1) (put d (.cq []) env) bl bW K
  |none=>False
 | .call d g f a tys::r,k,env,bl,bW,K=>match zU g env with
  |some true=>match f.ev env with
   | .fn f fs cs=>match fs++bX tys (a.map (·.ev env))++cs with
    |vs=>(match cM (fin ar bl 8) vs with
     |some vs'=>∃x u,ar.gY f vs' x/\BF (xB x||vs.all (cV 8)) (gj bl vs) bl=some u/\vk gs d x env fun env'=>lU ar gs b r (k+1) env' (bD u bl) (n3 k (gj bl vs) (u.map (·.1)) bW) K
     |none=>False)\/∃jV x u,(∀bG,(∀id∈jV,aq id bG=aq id bl)->ar.xj f vs bG (b+k) x u)/\vk gs d x env fun env'=>lU ar gs b r (k+1) env' (bD u bl) (n3 k jV (u.map (·.1)) bW) K
   |_=>False
  |some false=>lU ar gs b r (k+1) (put d (.cq []) env) bl bW K
  |none=>False
def qI : List dB → List Nat
 |[]=>[]
 | .op _ (some (s,_)) _::r=>s::qI r
 | .call _ (some (s,_)) _ _ _::r=>s::qI r
 |_::r=>qI r
def zV (ar:Ar) (bN:List (List Nat)) (is:List dB) (S:St) (K:St->Prop):Prop :=
 lU ar (qI is) S.H.next is 0 S.env S.H.bl [] fun env bl bW=>BD bN bW=true/\K ⟨env,⟨S.H.next+is.length,bl⟩,S.ms⟩
def pU (ar : Ar) : C → St → (Ex → St → Prop) → Prop
 | .skip,S,K=>K .normal S
 | .dg is,S,K=>ef ar is S fun S=>K .normal S
 | .draw ps is,S,K=>zV ar ps is S fun S=>K .normal S
 | .seq a b,S,K=>pU ar a S fun e S=>match e with
  | .normal=>pU ar b S K
  | .exit id=>K (.exit id) S
  | .ret=>K .ret S
 | .cond c a b,S,K=>match c.ev S.env with
  | .tf true=>pU ar a S K
  | .tf false=>pU ar b S K
  | .bool x=>Br x (fun _=>pU ar a (JQ c true S) K) (fun _=>pU ar b (JQ c false S) K)
  | .cb x=>(x=true->pU ar a (JQ c true S) K)/\pU ar b (JQ c false S) K
  |_=>False
 | .block id c,S,K=>pU ar c S fun e S=>match e with
  | .normal=>K .normal S
  | .exit id'=>match Nat.beq id' id with
   |true=>K .normal S
   |false=>K (.exit id') S
  | .ret=>K .ret S
 | .loop c,S,K=>Fu ar S fun S=>ar.loop c S K
 | .exit id,S,K=>K (.exit id) S
 | .ret,S,K=>K .ret S
 | .cA f ps a b,S,K=>Fu ar S fun S=>ar.cA f ps a b S K
 | .gD pre m it cl e kt kg vt vg Ju b,S,K=>Fu ar S fun S=>ar.gD (.gD pre m it cl e kt kg vt vg Ju b) S K
def args : Nat → List V → List (Nat × V)
 |_,[]=>[]
 |n,v::r=>(n,v)::args (n+1) r
end Go.AM
end
section
namespace Go.AM
structure Ctx where
  w0:World
  ι0:aA
  m0:Mu
  ro:Option Nat
  x:Nat->Prop
  hid:List Nat
def Ctx.own (Y:Ctx) (b:Nat):Prop:=Y.w0.heap.size<=b\/Y.x b
theorem Ctx.jZ {Y:Ctx} {b k:Nat} (h:Y.own b) (hk:k<Y.w0.heap.size) (hx:¬Y.x k):k≠b:=fun e=>by
  subst e;rcases h with h|h
  · omega
  · exact hx h
def ia (o o':Option Obj):Prop:=∀ms c,o=some (.map ms c)->∃ms' c',o'=some (.map ms' c')/\(ms.toList.map fun m=>(m.born,m.key)) <+: (ms'.toList.map fun m=>(m.born,m.key))/\c<=c'
theorem ia.eq {o o':Option Obj} (h:o'=o):ia o o':=fun ms c e=>⟨ms,c,h.trans e,List.prefix_refl _,Nat.le_refl _⟩
theorem ia.trans {a b c:Option Obj} (h:ia a b) (k:ia b c):ia a c:=fun ms n e=>by
  obtain ⟨ms1,n1,e1,p1,q1⟩:=h ms n e
  obtain ⟨ms2,n2,e2,p2,q2⟩:=k ms1 n1 e1
  exact ⟨ms2,n2,e2,p1.trans p2,Nat.le_trans q1 q2⟩
theorem ia.no {o o':Option Obj} (h:∀ms c,o≠some (.map ms c)):ia o o':=fun ms c e=>absurd e (h ms c)
structure E5 (x:Nat->Prop) (w0 w:World):Prop where
  os:w.os=w0.os
  tape:w.tape=w0.tape
  output:w.output=w0.output
  size:w0.heap.size<=w.heap.size
  block:∀k,k<w0.heap.size->¬x k->w.heap[k]?=w0.heap[k]?
  dr:w0.drawn<=w.drawn
  maps:∀k,k<w0.heap.size->ia w0.heap[k]? w.heap[k]?
structure Dw (w w':World):Prop where
  b:RowKit.Below w.heap.size w w'
  dr:w.drawn<=w'.drawn
theorem E5.refl (x:Nat->Prop) (w:World):E5 x w w:=⟨rfl,rfl,rfl,Nat.le_refl _,fun _ _ _=>rfl,Nat.le_refl _,fun _ _=>.eq rfl⟩
theorem E5.to {x:Nat->Prop} {w0 w:World} (h:E5 x w0 w) (hx:∀k,¬x k):Dw w0 w:=⟨⟨h.os,h.tape,h.output,h.size,fun k hk=>h.block k hk (hx k)⟩,h.dr⟩
theorem E5.then {x:Nat->Prop} {w0 w w':World} (h:E5 x w0 w) (k:Dw w w'):E5 x w0 w' :=
  ⟨k.b.os.trans h.os,k.b.tape.trans h.tape,k.b.output.trans h.output,Nat.le_trans h.size k.b.size,fun i hi hx=>(k.b.block i (Nat.lt_of_lt_of_le hi h.size)).trans (h.block i hi hx),Nat.le_trans h.dr k.dr,
    fun i hi=>(h.maps i hi).trans (.eq (k.b.block i (Nat.lt_of_lt_of_le hi h.size)))⟩
structure Mem (B:Nat->Prop) (ι:aA) (μ:Mu) (id:Nat) (fz:Bool) (w:World) (L:Loc) (vs:List Value):Prop where
  mu:μ id=some L
  old:B L.b
  row:∃c e,w.heap[L.b]?=some (.cells c e (0,0))/\c.size=L.tot/\∀(j:Nat) v,vs[j]?=some v->c[L.ba+j]?=some v
  fits:L.ba+vs.length<=L.tot
  one:∀v∈vs,v.oneCell'=true
  zW:fz=true->Reads ι L.b L.ba vs
  n4:fz=false->∀o,ι L.b o=none
def xC : Option Ex → Option Code → Prop
  |none,c=>c=none
  |some .normal,_=>False
  |some (.exit id),c=>c=some (.exit id)
  |some .ret,c=>c=some .ret
def YA : lR → LoopState
  | .ready=>.ready
  | .busy=>.busy
  | .done=>.done
  | .exhausted=>.exhausted
def fG (ι:aA) (μ:Mu) (env:List (Nat×V)) (tmps:Array Value):Prop:=∀t,Rel ι μ (get t env) (tmps.getD t undef)
def eu (P : Program) (B : Nat → Prop) (ι : aA) (μ : Mu) (id : Nat) (w : World) : js → Prop
  | .cells cs fz=>∃L vs,Mem B ι μ id fz w L vs/\aG ι μ cs vs
  | .arr t xs fz=>(xs=[]/\μ id=none)\/∃L vs,Mem B ι μ id fz w L vs/\bu (af ι t) xs vs/\xs.length=L.len
  | .loop st j d env ps as bd N=>∃L r Ld,μ id=some L/\B L.b/\w.heap[L.b]?=some (.loop r)/\r.state=YA st/\xC j r.pending/\fG ι μ env r.tmps /\
      r.params.toList=ps/\r.tmps.size=N/\(∀p∈ps,p<N)/\pT P N r.assign=some as/\pT P N r.body=some bd/\μ d=some Ld/\r.defers=Ld.b
  | .gi=>∃L,μ id=some L/\B L.b/\w.heap[L.b]?=some (.deferred (some []))
  | .map kt kg vt vg es=>∃L ms clock qJ,μ id=some L/\B L.b/\w.heap[L.b]?=some (.map ms clock)/\fE ι kt kg vt vg qJ ms.toList/\(∀m∈ms.toList,m.born<clock)/\(ms.toList.map (·.born)).Nodup/\qJ.Perm es/\KD kt qJ
  | .jo t xs i p v=>∃L us vs c,Mem B ι μ id false w L vs/\bu (af ι t) xs us/\xs.length=L.len/\i<xs.length/\i * t.sz+t.bx p<us.length/\vs=us.set (i * t.sz+t.bx p) c/\Rel ι μ v c
structure Inv (P:Program) (Y:Ctx) (ι:aA) (μ:Mu) (H:aK) (w:World):Prop where
  below:E5 Y.x Y.w0 w
  i0:Y.ι0.le ι
  iB:∀b o,b<Y.w0.heap.size->¬Y.x b->ι b o=Y.ι0 b o
  rd:∀b o x,ι b o=some x->w.cell? ⟨b,o,none⟩=some x
  m0:Y.m0.le μ
  nx:∀id,H.next<=id->μ id=none
  live:∀id B,aq id H.bl=some B->eu P Y.own ι μ id w B
  inj:∀id id' B B' L L',aq id H.bl=some B->aq id' H.bl=some B'->μ id=some L->μ id'=some L'->L.b=L'.b->id=id'
  lt:∀id B,aq id H.bl=some B->id<H.next
  gl:gb P Y.ι0
theorem Inv.jL {P:Program} {Y:Ctx} {ι:aA} {μ:Mu} {H:aK} {w:World} (h:Inv P Y ι μ H w):gb P ι:=h.gl.mono h.i0
theorem bf (i j : Nat) : ∀ bl : aj, aq i (bH j bl) = if i = j then none else aq i bl
  |[]=>by simp [bH,aq]
  |(s,b)::r=>by
    have ih:=bf i j r
    by_cases h:s=j
    · subst h
      have:Nat.beq s s=true:=Nat.beq_refl s
      simp only [bH,this,ih]
      by_cases hi:i=s
      · simp [hi]
      · have h2 : Nat.beq s i = false := by rw [Bool.eq_false_iff]; intro e; exact hi (Nat.eq_of_beq_eq_true e).symm
        simp [hi,aq,h2]
    · have h1 : Nat.beq s j = false := by rw [Bool.eq_false_iff]; intro e; exact h (Nat.eq_of_beq_eq_true e)
      simp only [bH,h1,aq]
      by_cases hi:s=i
      · subst hi;simp [Nat.beq_refl,h]
      · have h2 : Nat.beq s i = false := by rw [Bool.eq_false_iff]; intro e; exact hi (Nat.eq_of_beq_eq_true e)
        simp [h2,ih]
theorem aS (i s:Nat) (b:js) (r:aj):aq i ((s,b)::r)=if s=i then some b else aq i r:=by
  by_cases h:s=i
  · subst h;simp [aq,Nat.beq_refl]
  · have h2 : Nat.beq s i = false := by rw [Bool.eq_false_iff]; intro e; exact h (Nat.eq_of_beq_eq_true e)
    simp [aq,h2,h]
theorem iT (i s:Nat) (b:V) (r:List (Nat×V)):get i ((s,b)::r)=if s=i then b else get i r:=by
  by_cases h:s=i
  · subst h;simp [get,Nat.beq_refl]
  · have h2 : Nat.beq s i = false := by rw [Bool.eq_false_iff]; intro e; exact h (Nat.eq_of_beq_eq_true e)
    simp [get,h2,h]
theorem iU (i s:Nat) (b:V) (r:List (Nat×V)):get i (u7 s b r)=if s=i then b else get i r:=by simp only [u7,iT]
theorem aU (i s:Nat) (b:js) (bl:aj):aq i ((s,b)::bH s bl)=if i=s then some b else aq i bl:=by
  rw [aS,bf]
  by_cases h:s=i
  · simp [h]
  · simp [h,Ne.symm h,fun e:i=s=>h e.symm]
section
variable {P:Program} {Y:Ctx} {ι ι':aA} {μ μ':Mu} {H:aK} {w w':World}
theorem Mem.mono {B : Nat → Prop} {id : Nat} {fz : Bool} {L : Loc} {vs : List Value} (h : Mem B ι μ id fz w L vs) (hi : ι.le ι') (hm : μ.le μ') (hw : w'.heap[L.b]? = w.heap[L.b]?)
    (hf:fz=false->∀o,ι' L.b o=none):Mem B ι' μ' id fz w' L vs :=
  ⟨hm _ _ h.mu,h.old,by rw [hw];exact h.row,h.fits,h.one,fun e=>(h.zW e).mono hi,hf⟩
theorem fG.mono (hi:ι.le ι') (hm:μ.le μ') {env:List (Nat×V)} {t:Array Value} (h:fG ι μ env t):fG ι' μ' env t:=fun i=>(h i).mono hi hm
theorem eu.mono {B : Nat → Prop} {id : Nat} {b : js} (h : eu P B ι μ id w b) (hi : ι.le ι') (hm : μ.le μ') (hn : μ id = none → μ' id = none)
    (hw:∀L,μ id=some L->w'.heap[L.b]?=w.heap[L.b]?) (hf:∀L,μ id=some L->(∀o,ι L.b o=none)->∀o,ι' L.b o=none):eu P B ι' μ' id w' b:=by
  cases b with
  |cells cs fz =>
    obtain ⟨L,vs,hM,hR⟩:=h
    exact ⟨L,vs,hM.mono hi hm (hw L hM.mu) (fun e=>hf L hM.mu (hM.n4 e)),hR.mono hi hm⟩
  |arr t xs fz =>
    rcases h with ⟨rfl,h⟩|⟨L,vs,hM,hR,hl⟩
    · exact .inl ⟨rfl,hn h⟩
    · exact .inr ⟨L,vs,hM.mono hi hm (hw L hM.mu) (fun e=>hf L hM.mu (hM.n4 e)),bu.mono (fun _ _=>af.mono hi) hR,hl⟩
  |loop st j d env ps as bd N =>
    obtain ⟨L,r,Ld,h1,h2,h3,h4,h5,h6,h7,h8,h9,YB,YC,h12,h13⟩:=h
    exact ⟨L,r,Ld,hm _ _ h1,h2,by rw [hw L h1];exact h3,h4,h5,h6.mono hi hm,h7,h8,h9,YB,YC,hm _ _ h12,h13⟩
  |gi =>
    obtain ⟨L,h1,h2,h3⟩:=h
    exact ⟨L,hm _ _ h1,h2,by rw [hw L h1];exact h3⟩
  |map kt kg vt vg es =>
    obtain ⟨L,ms,clock,qJ,h1,h2,h3,h4,h5,h6,h7⟩:=h
    exact ⟨L,ms,clock,qJ,hm _ _ h1,h2,by rw [hw L h1];exact h3,h4.mono hi,h5,h6,h7⟩
  |jo t xs i p v =>
    obtain ⟨L,us,vs,c,hM,hR,hl,h1,h2,h3,h4⟩:=h
    exact ⟨L,us,vs,c,hM.mono hi hm (hw L hM.mu) (fun e=>hf L hM.mu (hM.n4 e)),bu.mono (fun _ _=>af.mono hi) hR,hl,h1,h2,h3,h4.mono hi hm⟩
theorem eu.loc {B:Nat->Prop} {id:Nat} {b:js} (h:eu P B ι μ id w b) {L:Loc} (hL:μ id=some L):B L.b/\L.b<w.heap.size:=by
  have lt:∀{o:Obj},w.heap[L.b]?=some o->L.b<w.heap.size:=fun h=>(Array.getElem?_eq_some_iff.1 h).1
  cases b with
  |cells cs fz =>
    obtain ⟨L',vs,hM,_⟩:=h
    have:=hM.mu;rw [hL] at this;cases this
    obtain ⟨c,e,h1,_⟩:=hM.row
    exact ⟨hM.old,lt h1⟩
  |arr t xs fz =>
    rcases h with ⟨_,h⟩|⟨L',vs,hM,_⟩
    · rw [h] at hL;cases hL
    · have := hM.mu; rw [hL] at this; cases this
      obtain ⟨c,e,h1,_⟩:=hM.row
      exact ⟨hM.old,lt h1⟩
  |loop st j d env ps as bd N =>
    obtain ⟨L',r,Ld,h1,h2,h3,_⟩:=h
    rw [hL] at h1;cases h1
    exact ⟨h2,lt h3⟩
  |gi =>
    obtain ⟨L',h1,h2,h3⟩:=h
    rw [hL] at h1;cases h1
    exact ⟨h2,lt h3⟩
  |map kt kg vt vg es =>
    obtain ⟨L',ms,clock,qJ,h1,h2,h3,_⟩:=h
    rw [hL] at h1;cases h1
    exact ⟨h2,lt h3⟩
  |jo t xs i p v =>
    obtain ⟨L',us,vs,c,hM,_⟩:=h
    have:=hM.mu;rw [hL] at this;cases this
    obtain ⟨c,e,h1,_⟩:=hM.row
    exact ⟨hM.old,lt h1⟩
theorem Inv.congr {bl:aj} {n:Nat} (h:Inv P Y ι μ H w) (hb:∀id,aq id bl=aq id H.bl) (hn:H.next=n):Inv P Y ι μ ⟨n,bl⟩ w :=
  ⟨h.below,h.i0,h.iB,h.rd,h.m0,by rw [<-hn];exact h.nx,fun id B hB=>h.live id B (by rw [<-hb];exact hB),
   fun id id' B B' L L' h1 h2=>h.inj id id' B B' L L' (by rw [<-hb];exact h1) (by rw [<-hb];exact h2),fun id B hB=>by rw [<-hn];exact h.lt id B (by rw [<-hb];exact hB),h.gl⟩
theorem Inv.sub {bl:aj} (h:Inv P Y ι μ H w) (hb:∀id B,aq id bl=some B->aq id H.bl=some B):Inv P Y ι μ ⟨H.next,bl⟩ w :=
  ⟨h.below,h.i0,h.iB,h.rd,h.m0,h.nx,fun id B hB=>h.live id B (hb _ _ hB),
   fun id id' B B' L L' h1 h2=>h.inj id id' B B' L L' (hb _ _ h1) (hb _ _ h2),fun id B hB=>h.lt id B (hb _ _ hB),h.gl⟩
theorem Inv.del (h:Inv P Y ι μ H w) (i:Nat):Inv P Y ι μ ⟨H.next,bH i H.bl⟩ w :=
  h.sub fun id B hB=>by rw [bf] at hB;split at hB<;>simp_all
theorem Inv.drew (h:Inv P Y ι μ H w):Inv P Y ι μ H w.drew :=
  ⟨⟨h.below.os,h.below.tape,h.below.output,h.below.size,h.below.block,Nat.le_succ_of_le h.below.dr,h.below.maps⟩,h.i0,h.iB,h.rd,h.m0,h.nx,
   fun id B hB=>(h.live id B hB).mono (aA.le_refl _) (Mu.le_refl _) (fun h=>h) (fun _ _=>rfl) (fun _ _ h=>h),h.inj,h.lt,h.gl⟩
def Mu.set (μ:Mu) (n:Nat) (L:Loc):Mu:=fun id=>if id=n then some L else μ id
theorem Mu.gF {n:Nat} {L:Loc} (h:μ n=none):μ.le (μ.set n L):=fun id L' hL=>by
  unfold Mu.set;split
  · rename_i e;subst e;rw [h] at hL;cases hL
  · exact hL
theorem Inv.lay (h : Inv P Y ι μ H w) {aF : Nat} (hn : μ aF = none) {o : Obj} {b : js} {L : Loc} (hL : L.b = w.heap.size)
    (hb:eu P Y.own ι (μ.set aF L) aF (w.alloc o) b):Inv P Y ι (μ.set aF L) ⟨max H.next (aF+1),(aF,b)::bH aF H.bl⟩ (w.alloc o):=by
  have hle:=Mu.gF (L:=L) hn
  have heap:∀k,k<w.heap.size->(w.alloc o).heap[k]?=w.heap[k]?:=fun k hk=>by
    show (w.heap.push o)[k]?=_
    rw [Array.getElem?_push];split
    · omega
    · rfl
  refine ⟨⟨h.below.os,h.below.tape,h.below.output,by have:=h.below.size;simp;omega,fun k hk hx=>?_,h.below.dr,fun k hk=>(h.below.maps k hk).trans (.eq (heap k (Nat.lt_of_lt_of_le hk h.below.size)))⟩,h.i0,h.iB,fun b o x hx=>?_,Mu.le_trans h.m0 hle,fun id hid=>?_,fun id B hB=>?_,?_,?_,h.gl⟩
  · have := h.below.size
    rw [heap k (by omega)];exact h.below.block k hk hx
  · have := h.rd b o x hx
    rw [World.cell?_alloc_lt _ _ _ (World.block_lt_of_cell? _ _ this)];exact this
  · simp only at hid
    unfold Mu.set;rw [if_neg (by omega)];exact h.nx id (by omega)
  · rw [aU] at hB
    split at hB
    · rename_i e;subst e;cases hB;exact hb
    · rename_i e
      refine (h.live id B hB).mono (aA.le_refl _) hle (fun hm=>by unfold Mu.set;rw [if_neg e];exact hm) (fun L' hL'=>?_) (fun _ _ h=>h)
      exact heap _ ((h.live id B hB).loc hL').2
  · intro id id' B B' L1 L2 h1 h2 jM hm2 e
    rw [aU] at h1 h2
    unfold Mu.set at jM hm2
    by_cases e1:id=aF<;>by_cases e2:id'=aF
    · rw [e1,e2]
    · rw [if_pos e1] at jM; rw [if_neg e2] at hm2 h2
      cases jM
      have:=((h.live id' B' h2).loc hm2).2;omega
    · rw [if_pos e2] at hm2; rw [if_neg e1] at jM h1
      cases hm2
      have:=((h.live id B h1).loc jM).2;omega
    · rw [if_neg e1] at jM h1; rw [if_neg e2] at hm2 h2
      exact h.inj id id' B B' L1 L2 h1 h2 jM hm2 e
  · intro id B hB
    rw [aU] at hB
    split at hB
    · rename_i e;subst e;simp only;omega
    · have:=h.lt id B hB;simp only;omega
theorem Inv.turn (h : Inv P Y ι μ H w) {id : Nat} {b0 b : js} (hb0 : aq id H.bl = some b0) {L : Loc} (hL : μ id = some L) (hfree : ∀ o, ι L.b o = none)
    (hos:w'.os=w.os) (FF:w'.tape=w.tape) (hout:w'.output=w.output) (OK:w'.drawn=w.drawn) (hsz:w'.heap.size=w.heap.size) (hk:∀k,k≠L.b->w'.heap[k]?=w.heap[k]?)
    (Tb:ia w.heap[L.b]? w'.heap[L.b]?) (hb:eu P Y.own ι μ id w' b):Inv P Y ι μ ⟨H.next,(id,b)::bH id H.bl⟩ w':=by
  have hold:=((h.live id b0 hb0).loc hL).1
  refine ⟨⟨hos.trans h.below.os, FF.trans h.below.tape, hout.trans h.below.output, by rw [hsz]; exact h.below.size, fun k hk' hx => ?_, by rw [OK]; exact h.below.dr, fun k hk' => (h.below.maps k hk').trans (by
      by_cases e:k=L.b
      · subst e;exact Tb
      · exact .eq (hk k e))⟩,h.i0,h.iB,fun b o x hx=>?_,h.m0,h.nx,fun i B hB=>?_,?_,?_,h.gl⟩
  · rw [hk k (Ctx.jZ hold hk' hx)];exact h.below.block k hk' hx
  · have := h.rd b o x hx
    have hne:b≠L.b:=fun e=>by subst e;rw [hfree] at hx;cases hx
    unfold World.cell? at this ⊢
    simp only at this ⊢
    rw [hk b hne];exact this
  · rw [aU] at hB
    split at hB
    · rename_i e;subst e;cases hB;exact hb
    · rename_i e
      refine (h.live i B hB).mono (aA.le_refl _) (Mu.le_refl _) (fun h=>h) (fun L' hL'=>hk _ (fun e'=>e (h.inj i id B b0 L' L hB hb0 hL' hL e'))) (fun _ _ h=>h)
  · intro i i' B B' L1 L2 h1 h2 jM hm2 e
    have:∀{j B},aq j ((id,b)::bH id H.bl)=some B->∃OL,aq j H.bl=some OL:=fun {j B} hj=>by
      rw [aU] at hj
      split at hj
      · rename_i e;subst e;exact ⟨b0,hb0⟩
      · exact ⟨B,hj⟩
    obtain ⟨C,hC⟩:=this h1
    obtain ⟨C',JR⟩:=this h2
    exact h.inj i i' C C' L1 L2 hC JR jM hm2 e
  · intro i B hB
    rw [aU] at hB
    split at hB
    · rename_i e;subst e;exact h.lt _ _ hb0
    · exact h.lt i B hB
theorem Inv.same (h:Inv P Y ι μ H w) {id:Nat} {b0 b:js} (hb0:aq id H.bl=some b0) (hb:eu P Y.own ι μ id w b):Inv P Y ι μ ⟨H.next,(id,b)::bH id H.bl⟩ w:=by
  refine ⟨h.below,h.i0,h.iB,h.rd,h.m0,h.nx,fun i B hB=>?_,?_,?_,h.gl⟩
  · rw [aU] at hB
    split at hB
    · rename_i e;subst e;cases hB;exact hb
    · exact h.live i B hB
  · intro i i' B B' L1 L2 h1 h2 jM hm2 e
    have:∀{j B},aq j ((id,b)::bH id H.bl)=some B->∃OL,aq j H.bl=some OL:=fun {j B} hj=>by
      rw [aU] at hj
      split at hj
      · rename_i e;subst e;exact ⟨b0,hb0⟩
      · exact ⟨B,hj⟩
    obtain ⟨C,hC⟩:=this h1
    obtain ⟨C',JR⟩:=this h2
    exact h.inj i i' C C' L1 L2 hC JR jM hm2 e
  · intro i B hB
    rw [aU] at hB
    split at hB
    · rename_i e;subst e;exact h.lt _ _ hb0
    · exact h.lt i B hB
def aA.add (ι:aA) (L:Loc) (vs:List Value):aA:=fun b o=>if b=L.b then (if L.ba<=o then vs[o - L.ba]? else none) else ι b o
theorem aA.zX {L:Loc} {vs:List Value} (h:∀o,ι L.b o=none):ι.le (ι.add L vs):=fun b o x hx=>by
  unfold aA.add;split
  · rename_i e;subst e;rw [h] at hx;cases hx
  · exact hx
theorem Reads.add {L:Loc} {vs:List Value}:Reads (ι.add L vs) L.b L.ba vs:=fun j v hj=>by
  unfold aA.add;rw [if_pos rfl,if_pos (by omega)];simpa using hj
theorem Inv.JS (h:Inv P Y ι μ H w) {c:Array Value} {e:TypeId} {f:Nat×Nat} {vs:List Value} (hvs:∀(j:Nat) v,vs[j]?=some v->c[j]?=some v) :
    ∃ι',ι.le ι'/\Inv P Y ι' μ H (w.alloc (.cells c e f))/\Reads ι' w.heap.size 0 vs:=by
  have hfree:∀o,ι w.heap.size o=none:=fun o=>by
    cases FG:ι w.heap.size o with
    |none=>rfl
    |some y=>have:=World.block_lt_of_cell? _ _ (h.rd _ _ _ FG);simp at this
  let L:Loc:=⟨w.heap.size,0,0,0⟩
  have hle:=aA.zX (L:=L) (vs:=vs) hfree
  have heap:∀k,k<w.heap.size->(w.alloc (.cells c e f)).heap[k]?=w.heap[k]?:=fun k hk=>by
    show (w.heap.push _)[k]?=_
    rw [Array.getElem?_push];split
    · omega
    · rfl
  have hnew:(w.alloc (.cells c e f)).heap[w.heap.size]?=some (.cells c e f):=by
    show (w.heap.push _)[w.heap.size]?=_
    simp
  refine ⟨ι.add L vs,hle,⟨⟨h.below.os,h.below.tape,h.below.output,by have:=h.below.size;simp;omega,fun k hk hx=>?_,h.below.dr,fun k hk=>(h.below.maps k hk).trans (.eq (heap k (Nat.lt_of_lt_of_le hk h.below.size)))⟩,aA.le_trans h.i0 hle,fun b o hb' hx=>?_,fun b o x hx=>?_,h.m0,h.nx,fun i B hB=>?_,h.inj,h.lt,h.gl⟩,Reads.add (L:=L)⟩
  · have := h.below.size
    rw [heap k (by omega)];exact h.below.block k hk hx
  · have := h.below.size
    unfold aA.add;rw [if_neg (show b≠L.b by simp only [L];omega)];exact h.iB b o hb' hx
  · unfold aA.add at hx
    split at hx
    · rename_i e'; subst e'
      split at hx
      · have := hvs _ _ hx
        simp only [L,Nat.sub_zero] at this
        show (match (w.alloc (.cells c e f)).heap[w.heap.size]? with|some (.cells c _ _)=>if (⟨w.heap.size,o,none⟩:Addr).spot.isSome then none else c[o]? | _=>none)=some x
        rw [hnew];simpa using this
      · cases hx
    · have := h.rd b o x hx
      rw [World.cell?_alloc_lt _ _ _ (World.block_lt_of_cell? _ _ this)];exact this
  · refine (h.live i B hB).mono hle (Mu.le_refl _) (fun h => h) (fun L' hL' => heap _ ((h.live i B hB).loc hL').2) (fun L' hL' ho o => ?_)
    have:=((h.live i B hB).loc hL').2
    unfold aA.add;rw [if_neg (show L'.b≠L.b by simp only [L];omega)];exact ho o
theorem Inv.freeze (h:Inv P Y ι μ H w) {id:Nat} {t:Ty} {xs:List t.den} {fz:Bool} (hb:aq id H.bl=some (.arr t xs fz)) :
    ∃ι',ι.le ι'/\Inv P Y ι' μ ⟨H.next,(id,.arr t xs true)::bH id H.bl⟩ w/\ga ι' μ id t xs:=by
  rcases h.live id _ hb with ⟨rfl,hn⟩|⟨L,vs,hM,hR,hl⟩
  · exact ⟨ι,aA.le_refl _,h.same hb (.inl ⟨rfl,hn⟩),.inl ⟨rfl,hn⟩⟩
  · cases fz with
    |true=>exact ⟨ι,aA.le_refl _,h.same hb (.inr ⟨L,vs,hM,hR,hl⟩),.inr ⟨L,vs,hM.mu,hM.zW rfl,hR,hl⟩⟩
    |false =>
      have hfree:=hM.n4 rfl
      have hle:=aA.zX (vs:=vs) hfree
      have fy:bu (af (ι.add L vs) t) xs vs:=bu.mono (fun _ _=>af.mono hle) hR
      refine ⟨ι.add L vs,hle,?_,.inr ⟨L,vs,hM.mu,Reads.add,fy,hl⟩⟩
      refine ⟨h.below,aA.le_trans h.i0 hle,fun b o hb' hx=>?_,fun b o x hx=>?_,h.m0,h.nx,fun i B hB=>?_,?_,?_,h.gl⟩
      · unfold aA.add;rw [if_neg (fun e=>Ctx.jZ hM.old hb' hx e)];exact h.iB b o hb' hx
      · unfold aA.add at hx
        split at hx
        · rename_i e; subst e
          split at hx
          · rename_i ho
            obtain ⟨c,e,h1,h2,h3⟩:=hM.row
            have:=h3 _ _ hx
            rw [show L.ba+(o - L.ba)=o by omega] at this
            simp [World.cell?,h1,this]
          · cases hx
        · exact h.rd b o x hx
      · rw [aU] at hB
        split at hB
        · rename_i e; subst e; cases hB
          exact .inr ⟨L,vs,⟨hM.mu,hM.old,hM.row,hM.fits,hM.one,fun _=>Reads.add,fun e=>by cases e⟩,fy,hl⟩
        · rename_i e
          refine (h.live i B hB).mono hle (Mu.le_refl _) (fun h=>h) (fun _ _=>rfl) (fun L' hL' ho o=>?_)
          unfold aA.add
          rw [if_neg (fun e'=>e (h.inj i id B _ L' L hB hb hL' hM.mu e'))]
          exact ho o
      · intro i i' B B' L1 L2 h1 h2 jM hm2 e
        have:∀{j B},aq j ((id,.arr t xs true)::bH id H.bl)=some B->∃OL,aq j H.bl=some OL:=fun {j B} hj=>by
          rw [aU] at hj
          split at hj
          · rename_i e;subst e;exact ⟨_,hb⟩
          · exact ⟨B,hj⟩
        obtain ⟨C,hC⟩:=this h1
        obtain ⟨C',JR⟩:=this h2
        exact h.inj i i' C C' L1 L2 hC JR jM hm2 e
      · intro i B hB
        rw [aU] at hB
        split at hB
        · rename_i e;subst e;exact h.lt _ _ hb
        · exact h.lt i B hB
end
end Go.AM
end
section
namespace Go.AM
section
variable {P:Program} {Y:Ctx} {ι ι':aA} {μ μ':Mu} {H:aK} {w w':World}
@[reducible] def aZ (call : Nat → List V → aK → (V → aK → Prop) → Prop) (gY : Nat → List V → V → Prop) (loop : C → St → (Ex → St → Prop) → Prop)
  (round:Nat->List V->aK->(V->aK->Prop)->Prop) (cA:O->List Nat->C->C->St->(Ex->St->Prop)->Prop) (gD:C->St->(Ex->St->Prop)->Prop) (xj:GC):Ar where
 add a b:=a+b
 sub a b:=a - b
 mul a b:=a * b
 quo a b:=a.tdiv b
 rem a b:=a.tmod b
 bits op k a b:=match op with
  | .and=>k.wrap (BitVec.ofInt k.bits a &&& BitVec.ofInt k.bits b).toNat
  | .or=>k.wrap (BitVec.ofInt k.bits a ||| BitVec.ofInt k.bits b).toNat
  | .xor=>k.wrap (BitVec.ofInt k.bits a ^^^ BitVec.ofInt k.bits b).toNat
  |_=>k.wrap (BitVec.ofInt k.bits a &&& ~~~(BitVec.ofInt k.bits b)).toNat
 shr a b:=a.fdiv (2 ^ b.toNat)
 shl a b:=a * 2 ^ b.toNat
 en a b:=if b<a then b else a
 imax a b:=if b > a then b else a
 eq a b:=a==b
 lt a b:=decide (a<b)
 le a b:=decide (a<=b)
 beq a b:=a==b
 seq a b:=a.toList==b.toList
 slt a b:=Op.bytesLess a.toList b.toList
 C7 s:=(s.size:Int)
 JK a b:=a&&b
 nW a := !a
 C8 c a b:=if c then a else b
 cS k z:=k.min<=z&&z<=k.max
 cR i n:=decide (0<=i/\i<n)
 E1 a b:=decide (a<b)
 len xs:=xs.length
 get d xs i:=xs.getD i d
 set xs i v:=xs.set i v
 sub' xs lo n:=(xs.drop lo).take n
 app xs ys:=xs++ys
 rep n x:=List.replicate n x
 zO a b:=a+b
 Fm a b:=a - b
 nX z:=z.toNat
 sat:=zP
 XO:=mM
 Yw:=xk
 wr k z:=k.wrap z
 clr:=xp
 S4:=cH
 zN:=dD
 ta:=jX
 call:=call
 gY:=gY
 loop:=loop
 round:=round
 cA:=cA
 gD:=gD
 xj:=xj
theorem gG {k:IntKind} {z:Int} (h:(decide (k.min<=z)&&decide (z<=k.max))=true):k.wrap z=z:=by
 simp only [Bool.and_eq_true,decide_eq_true_eq] at h
 obtain ⟨h1,h2⟩:=h
 cases k<;>simp only [IntKind.wrap,IntKind.min,IntKind.max,IntKind.bits,IntKind.signed] at *<;>simp at *<;>first|omega|(rw [Int.bmod_eq_of_le]<;>omega)
theorem xD {x:Value} {v:V} (h:Fw x=some v):Rel ι μ v x:=by
 unfold Fw at h
 split at h<;>first|cases h|skip
 ·exact .tf _
 ·exact .int _ _
 ·exact .str _
 ·exact .bK _
 ·exact .ee
 ·exact .cw
 ·exact .ek
 ·exact .dA
theorem j7 : ∀ {xs : List Value} {vs : List V}, th xs = some vs → aG ι μ vs xs
 |[],vs,h=>by cases h;exact .nil
 |x::xs,vs,h=>by
  unfold th at h
  split at h
  ·rename_i a b ha hb;cases h;exact .cons (xD ha) (j7 hb)
  ·cases h
theorem j8 : ∀ {xs : List Value} {vs : List V}, th xs = some vs → ∀ x ∈ xs, x.oneCell' = true
 |[],vs,h=>by simp
 |x::xs,vs,h=>by
  unfold th at h
  split at h
  ·rename_i a b ha hb; cases h
   intro y hy
   rcases List.mem_cons.1 hy with rfl|hy
   ·unfold Fw at ha
    split at ha<;>first|rfl|cases ha
   ·exact j8 hb y hy
  ·cases h
theorem JT {x:Value} {v:V} (h:Yy x=some v):Rel ι μ v x:=by
 unfold Yy at h
 split at h
 ·rename_i cs
  split at h
  ·rename_i vs hv; cases h
   have:=j7 (ι:=ι) (μ:=μ) hv
   exact .agg _ _ (by simpa using this.1) (fun i v x hv hx=>this.2 i v x hv (by simpa using hx)) (j8 hv)
  ·cases h
 ·exact xD h
theorem aD {env:List (Nat×V)} {a:Act} (he:fG ι μ env a.tmps) {x:Operand} {y:O} (h:cZ x=some y):Rel ι μ (y.ev env) (a.eval x):=by
 cases x with
 |tmp t=>cases h;exact he t
 |const v =>
  simp only [cZ] at h
  split at h
  ·rename_i u hu;cases h;exact JT hu
  ·cases h
 |func f=>cases h;exact .fn _ _ _ #[] #[] rfl (fun i v x h=>by simp at h) rfl (fun i v x h=>by simp at h)
 |global g=>cases h
theorem fQ {env : List (Nat × V)} {a : Act} (he : fG ι μ env a.tmps) : ∀ {xs : List Operand} {ys : List O}, pS xs = some ys → aG ι μ (ys.map (·.ev env)) (xs.map a.eval)
 |[],ys,h=>by cases h;exact .nil
 |x::xs,ys,h=>by
  unfold pS at h
  split at h
  ·rename_i y ys' h1 h2;cases h;exact .cons (aD he h1) (fQ he h2)
  ·cases h
theorem Mem.rangeAt {B:Nat->Prop} {id:Nat} {fz:Bool} {L:Loc} {vs:List Value} (h:Mem B ι μ id fz w L vs):w.rangeAt L.b L.ba vs:=fun j v hv=>by
 obtain ⟨c,e,h1,_,h3⟩:=h.row
 simp [World.cell?,h1,h3 j v hv]
theorem dc {b o:Nat} {vs:List Value} (h:w.rangeAt b o vs) (d k:Nat):w.rangeAt b (o+d) ((vs.drop d).take k):=fun j v hv=>by
 rw [List.getElem?_take] at hv
 split at hv
 ·rw [List.getElem?_drop] at hv
  have:=h (d+j) v hv
  rw [<-Nat.add_assoc] at this;exact this
 ·cases hv
theorem Reads.rangeAt {b o:Nat} {vs:List Value} (hr:Reads ι b o vs) (hi:∀b o x,ι b o=some x->w.cell? ⟨b,o,none⟩=some x):w.rangeAt b o vs:=fun j v hv=>hi _ _ _ (hr j v hv)
theorem Reads.sub {b o:Nat} {vs:List Value} (h:Reads ι b o vs) (d k:Nat):Reads ι b (o+d) ((vs.drop d).take k):=fun j v hv=>by
 rw [List.getElem?_take] at hv
 split at hv
 ·rw [List.getElem?_drop] at hv
  have:=h (d+j) v hv
  rw [<-Nat.add_assoc] at this;exact this
 ·cases hv
theorem World.xE {b o:Nat} {v:Value} (h:w.rangeAt b o [v]):w.cell? ⟨b,o,none⟩=some v:=by simpa using h 0 v rfl
theorem n5 {g:Bool} {cs:List V} {v:V} {xs:List Value} (h:dG g cs=some v) (hr:aG ι μ cs xs) (h1:∀u∈xs,u.oneCell'=true):∃x,lE g xs=some x/\Rel ι μ v x:=by
 cases g with
 |true =>
  cases h
  exact ⟨_,rfl,.agg _ _ (by simpa using hr.1) (fun i v x hv hx=>hr.2 i v x hv (by simpa using hx)) (by simpa using h1)⟩
 |false =>
  match cs,h with
  |[c],h =>
   cases h
   obtain ⟨x,r,rfl,h1,h2⟩:=hr.bF
   rw [h2.of_nil]
   exact ⟨x,rfl,h1⟩
theorem zY {t : TypeId} {k : Nat} {g : Bool} (hk : cm P t = some k) (hg : nZ P t = some g) {b o : Nat} {vs : List Value} (hr : w.rangeAt b o vs) (hl : vs.length = k)
  {x:Value} (hx:lE g vs=some x):(Instr.loadAt t (.pointer (some ⟨b,o,none⟩))).run P w = .ok x w:=by
 unfold nZ at hg
 unfold cm at hk
 cases g with
 |true =>
  cases hx
  split at hg
  ·rename_i hu;exact run_loadAt_mid w b o t vs _ hr hu rfl (by rw [hk,hl])
  ·rename_i hu;exact run_loadAt_mid w b o t vs _ hr hu rfl (by rw [hk,hl])
  ·cases hg
  ·cases hg
 |false =>
  match vs,hx with
  |[c],hx =>
   cases hx
   have hc:=World.xE hr
   split at hg
   ·cases hg
   ·cases hg
   ·rename_i d h1 h2 hu
    have gH:(isAgg t).run P w = .ok false w:=by
     unfold isAgg
     rw [Sem.run_bind,run_underlying hu w]
     cases d<;>simp_all
    simp [Instr.loadAt,Instr.sureAddr,loadVar,gH,hc]
   ·cases hg
theorem fR {t:TypeId} {k:Nat} (hk:cm P t=some k) {b o:Nat} {v:Value} (ht:w.there b o k) (hl:v.cells.size=k) (h1:∀u∈v.cells.toList,u.oneCell'=true) :
  (Instr.storeAt t (.pointer (some ⟨b,o,none⟩)) v).run P w = .ok () (w.setCells b o v.cells.toList):=by
 have:=run_storeCells_cells (P:=P) b o v.cells.toList 0 w (fun j hj=>by simpa using (ht j (by simp at hj;omega)).1) (fun j hj=>by simpa using (ht j (by simp at hj;omega)).2) h1
 unfold cm at hk
 cases hq:P.info? t with
 |none=>simp [hq] at hk
 |some i =>
  have hs:v.cells.size=i.size:=by simp [hq] at hk;omega
  simp only [Nat.add_zero] at this
  simp [Instr.storeAt,Instr.sureAddr,storeVar,sizeOf,typeInfo,hq,hs,this]
theorem Mem.there {B:Nat->Prop} {id:Nat} {fz:Bool} {L:Loc} {vs:List Value} (h:Mem B ι μ id fz w L vs) {o k:Nat} (hk:L.ba<=o) (hf:o+k<=L.tot):w.there L.b o k:=fun j hj=>by
 obtain ⟨c,e,h1,h2,_⟩:=h.row
 simp only [World.cell?,World.frozen?,h1]
 refine ⟨?_,by simp⟩
 have:o+j<c.size:=by omega
 simp [this]
theorem Mem.write {B:Nat->Prop} {id:Nat} {L:Loc} {vs:List Value} (h:Mem B ι μ id false w L vs) {d:Nat} {us:List Value} (hd:d+us.length<=vs.length) (h1:∀u∈us,u.oneCell'=true) :
  Mem B ι μ id false (w.setCells L.b (L.ba+d) us) L (vs.take d++us++vs.drop (d+us.length)):=by
 obtain ⟨c,e,hc,hs,hr⟩:=h.row
 have OM:w.there L.b (L.ba+d) us.length:=h.there (by omega) (by have:=h.fits;omega)
 refine ⟨h.mu,h.old,?_,?_,?_,(fun e=>by cases e),h.n4⟩
 ·have key:∀(us:List Value) (o:Nat) (w:World) (c:Array Value),w.heap[L.b]?=some (.cells c e (0,0))->o+us.length<=c.size ->
    ∃c',(w.setCells L.b o us).heap[L.b]?=some (.cells c' e (0,0))/\c'.size=c.size/\∀i,c'[i]?=if o<=i/\i<o+us.length then us[i - o]? else c[i]?:=by
   intro us
   induction us with
   |nil=>intro o w c hc _;exact ⟨c,hc,rfl,fun i=>by rw [if_neg (by simp only [List.length_nil];omega)]⟩
   |cons u us ih =>
    intro o w c hc ho
    have Tc:(w.setCell ⟨L.b,o,none⟩ u).heap[L.b]?=some (.cells (c.setIfInBounds o u) e (0,0)):=by
     simp [World.setCell,Array.getElem?_modify,hc]
    obtain ⟨c',e1,e2,e3⟩:=ih (o+1) _ _ Tc (by simp at ho ⊢;omega)
    refine ⟨c',e1,by simpa using e2,fun i=>?_⟩
    rw [e3]
    simp only [List.length_cons] at ho ⊢
    by_cases hi:i=o
    ·subst hi
     rw [if_neg (by omega),if_pos (by omega)]
     have:i<c.size:=by omega
     simp [this]
    ·by_cases h2 : o + 1 ≤ i ∧ i < o + 1 + us.length
     ·rw [if_pos h2, if_pos (by omega)]
      obtain ⟨m,rfl⟩:∃m,i=o+1+m:=⟨i - (o+1),by omega⟩
      rw [show o+1+m - (o+1)=m by omega,show o+1+m - o=m+1 by omega];rfl
     ·rw [if_neg h2,if_neg (by omega),Array.getElem?_setIfInBounds_ne (by omega)]
  have hf:=h.fits
  obtain ⟨c',e1,e2,e3⟩:=key us (L.ba+d) w c hc (by omega)
  refine ⟨c',e,e1,by rw [e2];exact hs,fun j v hv=>?_⟩
  rw [e3]
  by_cases hj:d<=j/\j<d+us.length
  ·rw [if_pos (by omega)]
   rw [List.append_assoc,List.getElem?_append_right (by simp;omega),List.getElem?_append_left (by simp;omega)] at hv
   rw [<-hv];congr 1;simp;omega
  ·rw [if_neg (by omega)]
   by_cases hj2:j<d
   ·rw [List.append_assoc, List.getElem?_append_left (by simp; omega), List.getElem?_take, if_pos hj2] at hv
    exact hr j v hv
   ·rw [List.getElem?_append_right (by simp; omega), List.getElem?_drop] at hv
    refine hr j v ?_
    rw [<-hv];congr 1;simp;omega
 ·have := h.fits
  simp;omega
 ·intro v hv
  rcases List.mem_append.1 hv with hv|hv
  ·rcases List.mem_append.1 hv with hv | hv
   ·exact h.one v (List.mem_of_mem_take hv)
   ·exact h1 v hv
  ·exact h.one v (List.mem_of_mem_drop hv)
theorem fH (b : Nat) : ∀ (vs : List Value) (o : Nat) (w : World) (k : Nat), k ≠ b → (w.setCells b o vs).heap[k]? = w.heap[k]?
 |[],_,_,_,_=>rfl
 |v::r,o,w,k,h=>by
  rw [World.setCells,fH b r _ _ k h]
  simp [World.setCell,Array.getElem?_modify,Ne.symm h]
theorem iE (b : Nat) : ∀ (vs : List Value) (o : Nat) (w : World), (w.setCells b o vs).heap.size = w.heap.size
 |[],_,_=>rfl
 |v::r,o,w=>by rw [World.setCells,iE b r];simp
theorem cI (b : Nat) : ∀ (vs : List Value) (o : Nat) (w : World), (w.setCells b o vs).os = w.os ∧ (w.setCells b o vs).tape = w.tape ∧ (w.setCells b o vs).output = w.output ∧ (w.setCells b o vs).drawn = w.drawn
 |[],_,_=>⟨rfl,rfl,rfl,rfl⟩
 |v::r,o,w=>by rw [World.setCells];exact cI b r (o+1) (w.setCell ⟨b,o,none⟩ v)
theorem gI (b : Nat) : ∀ (vs : List Value) (o : Nat) (w : World) (k : Nat), ia w.heap[k]? (w.setCells b o vs).heap[k]?
 |[],_,_,_=>.eq rfl
 |v::r,o,w,k=>by
  rw [World.setCells]
  refine ia.trans ?_ (gI b r _ _ k)
  intro ms c e
  refine ⟨ms,c,?_,List.prefix_refl _,Nat.le_refl _⟩
  simp only [World.setCell,Array.getElem?_modify]
  split
  ·rw [e];rfl
  ·exact e
theorem Inv.store (h : Inv P Y ι μ H w) {id : Nat} {b0 b : js} (hb0 : aq id H.bl = some b0) {L : Loc} (hL : μ id = some L) (hfree : ∀ o, ι L.b o = none) {o : Nat} {us : List Value}
  (hb:eu P Y.own ι μ id (w.setCells L.b o us) b):Inv P Y ι μ ⟨H.next,(id,b)::bH id H.bl⟩ (w.setCells L.b o us) :=
 h.turn hb0 hL hfree (cI _ _ _ _).1 (cI _ _ _ _).2.1 (cI _ _ _ _).2.2.1 (cI _ _ _ _).2.2.2 (iE _ _ _ _) (fun k hk=>fH _ _ _ _ _ hk) (gI _ _ _ _ _) hb
theorem n6:∀{off:Nat} {vs cs cs':List V} {us xs:List Value},mN off vs cs=some cs'->aG ι μ cs xs->aG ι μ vs us ->
  off+us.length<=xs.length/\aG ι μ cs' (xs.take off++us++xs.drop (off+us.length))
 |0,vs,cs,cs',us,xs,h,hc,hv=>by
  unfold mN at h
  split at h
  ·rename_i hl; cases h
   refine ⟨by have:=hc.1;have:=hv.1;omega,?_⟩
   have:=hv.append (hc.drop vs.length)
   rw [hv.1] at this ⊢
   simpa using this
  ·cases h
 |off+1,vs,[],cs',us,xs,h,hc,hv=>by simp [mN] at h
 |off+1,vs,c::cs,cs',us,xs,h,hc,hv=>by
  unfold mN at h
  obtain ⟨x,r,rfl,h1,h2⟩:=hc.bF
  split at h
  ·rename_i r' hr'
   cases h
   obtain ⟨h3,h4⟩:=n6 hr' h2 hv
   refine ⟨by simp;omega,?_⟩
   have:=aG.cons h1 h4
   simpa [List.take_succ_cons,show off+1+us.length=(off+us.length)+1 by omega] using this
  ·cases h
end
end Go.AM
end
section
namespace Go.AM
section
variable {P : Program} {Y : Ctx} {ι ι' : aA} {μ μ' : Mu} {H : aK} {w w' : World}
 {c1:Nat->List V->aK->(V->aK->Prop)->Prop} {c2:Nat->List V->V->Prop} {c3:C->St->(Ex->St->Prop)->Prop}
 {c4:Nat->List V->aK->(V->aK->Prop)->Prop} {c5:O->List Nat->C->C->St->(Ex->St->Prop)->Prop} {c6:C->St->(Ex->St->Prop)->Prop} {c7:GC}
def iV (bl:aj) (u:cU):Prop:=∀e∈u,∃(id:Nat) (t:Ty) (xs:List t.den) (fz:Bool),e=(id,some (.arr t xs true))/\aq id bl=some (.arr t xs fz)
def FH (ι:aA) (μ:Mu) (u:cU):Prop:=∀(id:Nat) (t:Ty) (xs:List t.den),(id,some (.arr t xs true))∈u->ga ι μ id t xs
theorem iV.nil {bl:aj}:iV bl []:=fun e h=>by cases h
theorem iV.append {bl:aj} {u v:cU} (h:iV bl u) (h':iV bl v):iV bl (u++v):=fun e he=>(List.mem_append.1 he).elim (h e) (h' e)
theorem FH.left {u v:cU} (h:FH ι μ (u++v)):FH ι μ u:=fun id t xs hm=>h id t xs (List.mem_append_left _ hm)
theorem FH.right {u v:cU} (h:FH ι μ (u++v)):FH ι μ v:=fun id t xs hm=>h id t xs (List.mem_append_right _ hm)
theorem ga.mono (hi:ι.le ι') {id:Nat} {t:Ty} {xs:List t.den} (h:ga ι μ id t xs):ga ι' μ id t xs :=
 h.imp (fun h=>h) fun ⟨L,vs,h1,h2,h3,h4⟩=>⟨L,vs,h1,h2.mono hi,bu.mono (fun _ _=>af.mono hi) h3,h4⟩
theorem gy:∀{u:cU} {ι:aA} {bl:aj} {n:Nat},iV bl u->Inv P Y ι μ ⟨n,bl⟩ w ->
  ∃ι',ι.le ι'/\Inv P Y ι' μ ⟨n,bD u bl⟩ w/\FH ι' μ u
 |[],ι,bl,n,_,hI=>⟨ι,aA.le_refl _,hI,fun id t xs h=>by cases h⟩
 |e::r,ι,bl,n,hz,hI=>by
  obtain ⟨id,t,xs,fz,rfl,hb⟩:=hz e (List.mem_cons_self)
  obtain ⟨ι1,hle,ON,hF⟩:=hI.freeze hb
  have qk:iV ((id,.arr t xs true)::bH id bl) r:=fun e he=>by
   obtain ⟨FI,t2,Td,YD,rfl,iF⟩:=hz e (List.mem_cons_of_mem _ he)
   by_cases hid:FI=id
   ·subst hid
    rw [hb] at iF;cases iF
    exact ⟨FI,t,xs,true,rfl,by rw [aU,if_pos rfl]⟩
   ·exact ⟨FI,t2,Td,YD,rfl,by rw [aU,if_neg hid];exact iF⟩
  obtain ⟨ι2,Te,lV,hF2⟩:=gy qk ON
  refine ⟨ι2,aA.le_trans hle Te,lV,fun FI t2 Td hm=>?_⟩
  rcases List.mem_cons.1 hm with hm|hm
  ·cases hm;exact hF.mono Te
  ·exact hF2 FI t2 Td hm
theorem ga.slice {id:Nat} {t:Ty} {xs:List t.den} (h:ga ι' μ id t xs) {lo n:Nat} {x:Value} (hr:Rel ι μ (.sl id t lo n) x):af ι' (.list t) ((xs.drop lo).take n) [x]:=by
 cases hr with
 |bO _ _ _ a=>exact ⟨a,0,by simp,by simp,.inl (by simp)⟩
 |sl _ _ _ _ cap L hm h1 h2 h3 =>
  rcases h with ⟨_,hn⟩|⟨L',vs,h4,h5,h6,h7⟩
  ·rw [hn] at hm;cases hm
  ·rw [h4] at hm; cases hm
   have hl:((xs.drop lo).take n).length=n:=by simp;omega
   refine ⟨some ⟨L.b,L.ba+lo * t.sz,none⟩,cap,by rw [hl],by rw [hl];exact h1,.inr ⟨_,_,(vs.drop (lo * t.sz)).take (n * t.sz),rfl,h5.sub _ _,?_⟩⟩
   exact (h6.drop (fun _ _=>af.length) lo).take (fun _ _=>af.length) n
theorem gz : ∀ {t : Ty} {bl : aj} {cs : List V} {x : t.den} {u : cU} {r : List V}, bk (aZ c1 c2 c3 c4 c5 c6 c7) bl t cs = some (x, u, r) → iV bl u
 | .unit,bl,cs,x,u,r,h=>by simp [bk] at h;obtain ⟨rfl,rfl⟩:=h;exact .nil
 | .bool,bl,cs,x,u,r,h=>by
  cases cs with
  |nil=>simp [bk] at h
  |cons v r'=>cases v<;>simp [bk] at h<;>(obtain ⟨rfl,rfl,rfl⟩:=h;exact .nil)
 | .str,bl,cs,x,u,r,h=>by
  cases cs with
  |nil=>simp [bk] at h
  |cons v r'=>cases v<;>simp [bk] at h<;>(obtain ⟨rfl,rfl,rfl⟩:=h;exact .nil)
 | .int k,bl,cs,x,u,r,h=>by
  cases cs with
  |nil=>simp [bk] at h
  |cons v r'=>cases v<;>simp [bk] at h<;>(obtain ⟨rfl,rfl,rfl,rfl⟩:=h;exact .nil)
 | .list t,bl,cs,x,u,r,h=>by
  cases cs with
  |nil=>simp [bk] at h
  |cons v r' =>
   cases v<;>simp only [bk] at h<;>try (simp at h;done)
   case dS t' zs=>split at h<;>cases h;exact .nil
   case bK=>cases h;exact .nil
   case sl id t' lo n =>
    split at h
    ·rename_i t'' zs fz hb
     split at h
     ·split at h
      ·cases h
       intro e he;simp at he;subst he
       exact ⟨id,_,zs,fz,rfl,hb⟩
      ·cases h
     ·cases h
    ·cases h
 | .prod a b,bl,cs,x,u,r,h=>by
  simp only [bk] at h
  split at h
  ·rename_i x1 u1 r1 h1
   split at h
   ·rename_i x2 u2 r2 h2
    cases h
    exact (gz h1).append (gz h2)
   ·cases h
  ·cases h
 | .cn d g t,bl,cs,x,u,r,h=>by
  cases cs with
  |nil=>simp [bk] at h
  |cons v r' =>
   cases v<;>simp only [bk] at h<;>try (simp at h;done)
   case cn d' v' =>
    split at h
    ·split at h
     ·split at h
      ·cases h;exact .nil
      ·cases h
     ·cases h
    ·cases h
theorem xF {ι:aA} {g:Bool} {v:V} {cs:List V} {x:Value} (h:uZ g v=some cs) (hr:Rel ι μ v x):∃xs,aG ι μ cs xs/\lE g xs=some x:=by
 cases g with
 |true =>
  cases v<;>simp [uZ] at h
  subst h
  cases hr with
  |agg _ xs h1 h2 h3=>exact ⟨xs.toList,⟨by simpa using h1,fun i v x hv hx=>h2 i v x hv (by simpa using hx)⟩,by simp [lE]⟩
 |false =>
  have:cs=[v]:=by cases v<;>simp_all [uZ,V.cells?]
  subst this
  exact ⟨[x],.cons hr .nil,rfl⟩
theorem gJ:∀{ι:aA} {t:Ty} {bl:aj} {cs:List V} {x:t.den} {u:cU} {r:List V} {xs:List Value},bk (aZ c1 c2 c3 c4 c5 c6 c7) bl t cs=some (x,u,r)->aG ι μ cs xs ->
  iV bl u/\∀ι',ι.le ι'->FH ι' μ u->∃us ws,xs=us++ws/\af ι' t x us/\aG ι' μ r ws
 |ι,.unit,bl,cs,x,u,r,xs,h,hr=>by
  simp [bk] at h;obtain ⟨rfl,rfl⟩:=h
  exact ⟨.nil,fun ι' hi _=>⟨[],xs,rfl,rfl,hr.mono hi (Mu.le_refl _)⟩⟩
 |ι,.bool,bl,cs,x,u,r,xs,h,hr=>by
  cases cs with
  |nil=>simp [bk] at h
  |cons v r' =>
   cases v<;>simp [bk] at h
   all_goals
    obtain ⟨rfl,rfl,rfl⟩:=h
    obtain ⟨y,ys,rfl,h1,h2⟩:=hr.bF
    cases h1
    exact ⟨.nil,fun ι' hi _=>⟨[_],ys,rfl,rfl,h2.mono hi (Mu.le_refl _)⟩⟩
 |ι,.str,bl,cs,x,u,r,xs,h,hr=>by
  cases cs with
  |nil=>simp [bk] at h
  |cons v r' =>
   cases v<;>simp [bk] at h
   all_goals
    obtain ⟨rfl,rfl,rfl⟩:=h
    obtain ⟨y,ys,rfl,h1,h2⟩:=hr.bF
    cases h1
    exact ⟨.nil,fun ι' hi _=>⟨[_],ys,rfl,rfl,h2.mono hi (Mu.le_refl _)⟩⟩
 |ι,.int k,bl,cs,x,u,r,xs,h,hr=>by
  cases cs with
  |nil=>simp [bk] at h
  |cons v r' =>
   cases v<;>simp [bk] at h
   all_goals
    obtain ⟨rfl,rfl,rfl,rfl⟩:=h
    obtain ⟨y,ys,rfl,h1,h2⟩:=hr.bF
    cases h1
    exact ⟨.nil,fun ι' hi _=>⟨[_],ys,rfl,rfl,h2.mono hi (Mu.le_refl _)⟩⟩
 |ι,.list t,bl,cs,x,u,r,xs,h,hr=>by
  cases cs with
  |nil=>simp [bk] at h
  |cons v r' =>
   obtain ⟨y,ys,rfl,h1,h2⟩:=hr.bF
   cases v<;>simp only [bk] at h<;>try (simp at h;done)
   case dS t' zs =>
    split at h
    ·rename_i zs' hc; cases h
     obtain ⟨e,hz⟩:=dh hc
     subst e;subst hz
     cases h1 with
     |dS _ _ _ hd=>exact ⟨.nil,fun ι' hi _=>⟨[y],ys,rfl,af.mono hi hd,h2.mono hi (Mu.le_refl _)⟩⟩
    ·cases h
   case bK =>
    cases h
    cases h1 with
    |bK a=>exact ⟨.nil,fun ι' hi _=>⟨[_],ys,rfl,⟨a,0,rfl,Nat.le_refl _,.inl rfl⟩,h2.mono hi (Mu.le_refl _)⟩⟩
   case sl id t' lo n =>
    split at h
    ·rename_i t'' zs fz hb
     split at h
     ·rename_i e; subst e
      split at h
      ·rename_i zs' hc; cases h
       obtain ⟨e,hz⟩:=dh hc
       subst e;subst hz
       refine ⟨fun e he=>?_,fun ι' hi hf=>⟨[y],ys,rfl,(hf id _ zs' (by simp)).slice h1,h2.mono hi (Mu.le_refl _)⟩⟩
       simp at he;subst he
       exact ⟨id,_,zs',fz,rfl,hb⟩
      ·cases h
     ·cases h
    ·cases h
 |ι,.prod a b,bl,cs,x,u,r,xs,h,hr=>by
  simp only [bk] at h
  split at h
  ·rename_i x1 u1 r1 h1
   split at h
   ·rename_i x2 u2 r2 h2
    cases h
    obtain ⟨z1,f1⟩:=gJ h1 hr
    have z2:iV bl u2:=gz h2
    refine ⟨z1.append z2,fun ι' hi hf=>?_⟩
    obtain ⟨us,ws,rfl,hd,E6⟩:=f1 ι' hi hf.left
    obtain ⟨Jv,ws2,rfl,Ny,FJ⟩:=(gJ h2 E6).2 ι' (aA.le_refl _) hf.right
    exact ⟨us++Jv,ws2,by simp,⟨us,Jv,rfl,hd,Ny⟩,FJ⟩
   ·cases h
  ·cases h
 |ι,.cn d g t,bl,cs,x,u,r,xs,h,hr=>by
  cases cs with
  |nil=>simp [bk] at h
  |cons v r' =>
   obtain ⟨y,ys,rfl,h1,h2⟩:=hr.bF
   cases v<;>simp only [bk] at h<;>try (simp at h;done)
   case cn d' v' =>
    split at h
    ·rename_i e; subst e
     split at h
     ·rename_i cs hun
      split at h
      ·rename_i x0 ho
       cases h
       cases h1 with
       |cn _ _ z hz =>
        obtain ⟨zs,r1,r2⟩:=xF hun hz
        obtain ⟨_,f1⟩:=gJ ho r1
        refine ⟨.nil,fun ι' hi hf=>⟨[_],ys,rfl,?_,h2.mono hi (Mu.le_refl _)⟩⟩
        obtain ⟨us,ws,e1,hd,E6⟩:=f1 ι' hi (fun _ _ _ hm=>by cases hm)
        rw [E6.of_nil,List.append_nil] at e1
        exact ⟨us,z,hd,by rw [<-e1];exact r2,rfl⟩
      ·cases h
     ·cases h
    ·cases h
theorem mT : ∀ {t : Ty} {bl : aj} {cs : List V} {x : t.den} {u : cU} {r : List V}, bk (aZ c1 c2 c3 c4 c5 c6 c7) bl t cs = some (x, u, r) → cs.length = t.sz + r.length
 | .unit,bl,cs,x,u,r,h=>by simp [bk] at h;obtain ⟨_,rfl⟩:=h;simp [Ty.sz]
 | .bool,bl,cs,x,u,r,h=>by
  cases cs with
  |nil=>simp [bk] at h
  |cons v r'=>cases v<;>simp [bk] at h<;>(obtain ⟨_,_,rfl⟩:=h;simp [Ty.sz];omega)
 | .str,bl,cs,x,u,r,h=>by
  cases cs with
  |nil=>simp [bk] at h
  |cons v r'=>cases v<;>simp [bk] at h<;>(obtain ⟨_,_,rfl⟩:=h;simp [Ty.sz];omega)
 | .int k,bl,cs,x,u,r,h=>by
  cases cs with
  |nil=>simp [bk] at h
  |cons v r'=>cases v<;>simp [bk] at h<;>(obtain ⟨_,_,_,rfl⟩:=h;simp [Ty.sz];omega)
 | .list t,bl,cs,x,u,r,h=>by
  cases cs with
  |nil=>simp [bk] at h
  |cons v r' =>
   cases v<;>simp only [bk] at h<;>try (simp at h;done)
   case dS t' zs=>split at h<;>cases h;simp [Ty.sz];omega
   case bK=>cases h;simp [Ty.sz];omega
   case sl id t' lo n =>
    split at h
    ·split at h
     ·split at h
      ·cases h;simp [Ty.sz];omega
      ·cases h
     ·cases h
    ·cases h
 | .prod a b,bl,cs,x,u,r,h=>by
  simp only [bk] at h
  split at h
  ·rename_i x1 u1 r1 h1
   split at h
   ·rename_i x2 u2 r2 h2
    cases h
    have:=mT h1;have:=mT h2;simp only [Ty.sz];omega
   ·cases h
  ·cases h
 | .cn d g t,bl,cs,x,u,r,h=>by
  cases cs with
  |nil=>simp [bk] at h
  |cons v r' =>
   cases v<;>simp only [bk] at h<;>try (simp at h;done)
   case cn d' v' =>
    split at h
    ·split at h
     ·split at h
      ·cases h;simp [Ty.sz];omega
      ·cases h
     ·cases h
    ·cases h
theorem FK {t:Ty} {bl:aj} {cs:List V} {y:t.den} {u:cU} {x:Value} (h:bk (aZ c1 c2 c3 c4 c5 c6 c7) bl t cs=some (y,u,[])) (hr:aG ι μ cs x.cells.toList):x.cells.size=t.sz:=by
 have:=mT h;have:=hr.1;simp at *;omega
theorem mU:∀{t:Ty} {x:t.den} {p:List Bool} {t':Ty} {y:t'.den} {xs:List Value},lA t x p=some ⟨t',y⟩->af ι t x xs ->
  af ι t' y ((xs.drop (t.bx p)).take t'.sz)/\t.bx p+t'.sz<=t.sz/\t.mL p=some t'
 |t,x,[],t',y,xs,h,hc=>by
  have:t=t'/\HEq x y:=by cases t<;>(simp [lA] at h;exact ⟨h.1,h.2⟩)
  obtain ⟨rfl,hy⟩:=this
  cases hy
  have h0:t.bx []=0:=by cases t<;>rfl
  rw [h0]
  refine ⟨by simp [List.take_of_length_le (Nat.le_of_eq hc.length)];exact hc,by omega,by cases t<;>rfl⟩
 | .prod a b,x,false::p,t',y,xs,h,hc=>by
  simp only [lA] at h
  obtain ⟨us,ws,rfl,h1,h2⟩:=hc
  obtain ⟨h3,h4,h5⟩:=mU h h1
  refine ⟨?_,by simp only [Ty.bx,Ty.sz];omega,by simpa [Ty.mL] using h5⟩
  have hl:=h1.length
  rw [Ty.bx,List.drop_append_of_le_length (by omega),List.take_append_of_le_length (by simp;omega)]
  exact h3
 | .prod a b,x,true::p,t',y,xs,h,hc=>by
  simp only [lA] at h
  obtain ⟨us,ws,rfl,h1,h2⟩:=hc
  obtain ⟨h3,h4,h5⟩:=mU h h2
  refine ⟨?_,by simp only [Ty.bx,Ty.sz];omega,by simpa [Ty.mL] using h5⟩
  have hl:=h1.length
  rw [Ty.bx,<-hl,List.drop_append,List.drop_eq_nil_of_le (by omega)]
  simpa using h3
 | .unit,x,b::p,t',y,xs,h,hc=>by cases b<;>simp [lA] at h
 | .bool,x,b::p,t',y,xs,h,hc=>by cases b<;>simp [lA] at h
 | .str,x,b::p,t',y,xs,h,hc=>by cases b<;>simp [lA] at h
 | .int k,x,b::p,t',y,xs,h,hc=>by cases b<;>simp [lA] at h
 | .list k,x,b::p,t',y,xs,h,hc=>by cases b<;>simp [lA] at h
 | .cn _ _ _,x,b::p,t',y,xs,h,hc=>by cases b<;>simp [lA] at h
theorem kU : ∀ {t : Ty} {bl : aj} {x y : t.den} {p : List Bool} {vs : List V} {u : cU}, ck (aZ c1 c2 c3 c4 c5 c6 c7) bl t x p vs = some (y, u) → iV bl u
 |t,bl,x,y,[],vs,u,h=>by
  have:bk (aZ c1 c2 c3 c4 c5 c6 c7) bl t vs=some (y,u,[]):=by
   cases t<;>(simp only [ck] at h;split at h<;>first|(cases h;assumption)|cases h)
  exact gz this
 | .prod a b,bl,x,y,false::p,vs,u,h=>by
  simp only [ck] at h
  split at h
  ·rename_i h';cases h;exact kU h'
  ·cases h
 | .prod a b,bl,x,y,true::p,vs,u,h=>by
  simp only [ck] at h
  split at h
  ·rename_i h';cases h;exact kU h'
  ·cases h
 | .unit,bl,x,y,b::p,vs,u,h=>by cases b<;>simp [ck] at h
 | .bool,bl,x,y,b::p,vs,u,h=>by cases b<;>simp [ck] at h
 | .str,bl,x,y,b::p,vs,u,h=>by cases b<;>simp [ck] at h
 | .int k,bl,x,y,b::p,vs,u,h=>by cases b<;>simp [ck] at h
 | .list k,bl,x,y,b::p,vs,u,h=>by cases b<;>simp [ck] at h
 | .cn _ _ _,bl,x,y,b::p,vs,u,h=>by cases b<;>simp [ck] at h
theorem j9:∀{t:Ty} {bl:aj} {x y:t.den} {p:List Bool} {vs:List V} {u:cU} {us xs:List Value},ck (aZ c1 c2 c3 c4 c5 c6 c7) bl t x p vs=some (y,u) ->
  aG ι μ vs us->ι.le ι'->FH ι' μ u->af ι' t x xs->t.bx p+us.length<=t.sz/\af ι' t y (xs.take (t.bx p)++us++xs.drop (t.bx p+us.length))
 |t,bl,x,y,[],vs,u,us,xs,h,hr,hi,hf,hc=>by
  have:bk (aZ c1 c2 c3 c4 c5 c6 c7) bl t vs=some (y,u,[]):=by
   cases t<;>(simp only [ck] at h;split at h<;>first|(cases h;assumption)|cases h)
  obtain ⟨us',ws,rfl,h1,h2⟩:=(gJ this hr).2 ι' hi hf
  rw [h2.of_nil]
  have h0:t.bx []=0:=by cases t<;>rfl
  have hl:=h1.length
  rw [h0]
  refine ⟨by simp;omega,?_⟩
  rw [List.drop_eq_nil_of_le (by simp;have:=hc.length;omega)]
  simpa using h1
 | .prod a b,bl,x,y,false::p,vs,u,us,xs,h,hr,hi,hf,hc=>by
  simp only [ck] at h
  split at h
  ·rename_i y1 u1 h'
   cases h
   obtain ⟨as,bs,rfl,h1,h2⟩:=hc
   obtain ⟨h3,h4⟩:=j9 h' hr hi hf h1
   have hl:=h1.length
   refine ⟨by simp only [Ty.bx,Ty.sz];omega,_,bs,?_,h4,h2⟩
   rw [Ty.bx,List.take_append_of_le_length (by omega),List.drop_append_of_le_length (by omega)]
   simp
  ·cases h
 | .prod a b,bl,x,y,true::p,vs,u,us,xs,h,hr,hi,hf,hc=>by
  simp only [ck] at h
  split at h
  ·rename_i y1 u1 h'
   cases h
   obtain ⟨as,bs,rfl,h1,h2⟩:=hc
   obtain ⟨h3,h4⟩:=j9 h' hr hi hf h2
   have hl:=h1.length
   refine ⟨by simp only [Ty.bx,Ty.sz];omega,as,_,?_,h1,h4⟩
   rw [Ty.bx,<-hl,List.take_append,List.take_of_length_le (by omega),List.drop_append,List.drop_eq_nil_of_le (by omega)]
   simp [show as.length+b.bx p+us.length - as.length=b.bx p+us.length by omega]
  ·cases h
 | .unit,bl,x,y,b::p,vs,u,us,xs,h,hr,hi,hf,hc=>by cases b<;>simp [ck] at h
 | .bool,bl,x,y,b::p,vs,u,us,xs,h,hr,hi,hf,hc=>by cases b<;>simp [ck] at h
 | .str,bl,x,y,b::p,vs,u,us,xs,h,hr,hi,hf,hc=>by cases b<;>simp [ck] at h
 | .int k,bl,x,y,b::p,vs,u,us,xs,h,hr,hi,hf,hc=>by cases b<;>simp [ck] at h
 | .list k,bl,x,y,b::p,vs,u,us,xs,h,hr,hi,hf,hc=>by cases b<;>simp [ck] at h
 | .cn _ _ _,bl,x,y,b::p,vs,u,us,xs,h,hr,hi,hf,hc=>by cases b<;>simp [ck] at h
theorem qK {t:Ty} {bl:aj}:∀{ι:aA} {n:Nat} {vs:List V} {ys:List t.den} {u:cU} {xs:List Value},iQ (aZ c1 c2 c3 c4 c5 c6 c7) bl t n vs=some (ys,u)->aG ι μ vs xs ->
  iV bl u/\ys.length=n/\vs.length=n * t.sz/\∀ι',ι.le ι'->FH ι' μ u->bu (af ι' t) ys xs
 |ι,0,vs,ys,u,xs,h,hr=>by
  cases vs with
  |nil=>simp [iQ] at h;obtain ⟨rfl,rfl⟩:=h;exact ⟨.nil,rfl,by simp,fun _ _ _=>hr.of_nil⟩
  |cons v r=>simp [iQ] at h
 |ι,n+1,vs,ys,u,xs,h,hr=>by
  simp only [iQ] at h
  split at h
  ·rename_i x u1 r h1
   split at h
   ·rename_i zs u2 h2
    cases h
    obtain ⟨z1,f1⟩:=gJ h1 hr
    have z2:iV bl u2:=by
     have:∀{n:Nat} {vs:List V} {ys:List t.den} {u:cU},iQ (aZ c1 c2 c3 c4 c5 c6 c7) bl t n vs=some (ys,u)->iV bl u:=by
      intro n
      induction n with
      |zero=>intro vs ys u h;cases vs<;>simp [iQ] at h;obtain ⟨_,rfl⟩:=h;exact .nil
      |succ n ih =>
       intro vs ys u h
       simp only [iQ] at h
       split at h
       ·rename_i h1
        split at h
        ·rename_i h2;cases h;exact (gz h1).append (ih h2)
        ·cases h
       ·cases h
     exact this h2
    have hlen:zs.length=n/\r.length=n * t.sz:=by
     have:∀{n:Nat} {vs:List V} {ys:List t.den} {u:cU},iQ (aZ c1 c2 c3 c4 c5 c6 c7) bl t n vs=some (ys,u)->ys.length=n/\vs.length=n * t.sz:=by
      intro n
      induction n with
      |zero=>intro vs ys u h;cases vs<;>simp [iQ] at h;obtain ⟨rfl,rfl⟩:=h;simp
      |succ n ih =>
       intro vs ys u h
       simp only [iQ] at h
       split at h
       ·rename_i h1
        split at h
        ·rename_i h2; cases h
         obtain ⟨q1,q2⟩:=ih h2
         have:=mT h1
         exact ⟨by simp [q1],by rw [this,q2,Nat.add_mul,Nat.one_mul,Nat.add_comm]⟩
        ·cases h
       ·cases h
     exact this h2
    refine ⟨z1.append z2,by simp [hlen.1],by rw [mT h1,hlen.2,Nat.add_mul,Nat.one_mul,Nat.add_comm],fun ι' hi hf=>?_⟩
    obtain ⟨us,ws,rfl,hd,E6⟩:=f1 ι' hi hf.left
    exact ⟨us,ws,rfl,hd,(qK h2 E6).2.2.2 ι' (aA.le_refl _) hf.right⟩
   ·cases h
  ·cases h
theorem xG {t : Ty} {xs : List t.den} {vs : List Value} (h : bu (af ι t) xs vs) : ∀ {n i : Nat}, i + n = xs.length → aG ι μ (xq (aZ c1 c2 c3 c4 c5 c6 c7) t xs n i) (vs.drop (i * t.sz))
 |0,i,e=>by
  have hl:=h.length (fun _ _=>af.length)
  have:vs.drop (i * t.sz)=[]:=List.drop_eq_nil_of_le (by rw [hl,<-e];simp)
  rw [this];exact .nil
 |n+1,i,e=>by
  have hi:xs[i]?=some (xs.getD i t.zero):=by simp [List.getD,show i<xs.length by omega]
  have hc:=h.at (fun _ _=>af.length) hi
  have ih:=xG h (n:=n) (i:=i+1) (by omega)
  have e1:vs.drop (i * t.sz)=(vs.drop (i * t.sz)).take t.sz++vs.drop ((i+1) * t.sz):=by
   rw [Nat.add_mul,Nat.one_mul,<-List.drop_drop,List.take_append_drop]
  rw [e1]
  exact (eo hc).append ih
theorem qL {t:Ty} {bl:aj}:∀{vs:List V} {ys:List t.den} {u:cU} {xs:List Value},nY (aZ c1 c2 c3 c4 c5 c6 c7) bl t vs=some (ys,u)->aG ι μ vs xs ->
  iV bl u/\ys.length=vs.length/\(∀x∈xs,x.cells.size=t.sz)/\∀ι',ι.le ι'->FH ι' μ u->bu (af ι' t) ys (xs.flatMap fun x=>x.cells.toList)
 |[],ys,u,xs,h,hr=>by
  cases h
  rw [hr.of_nil]
  exact ⟨.nil,rfl,by simp,fun ι' _ _=>rfl⟩
 |v::r,ys,u,xs,h,hr=>by
  unfold nY at h
  obtain ⟨x,xs',rfl,h1,h2⟩:=hr.bF
  split at h
  ·rename_i vs hvs
   obtain ⟨hc,_⟩:=h1.cells hvs
   split at h
   ·rename_i y u1 hy
    split at h
    ·rename_i ys' u2 hys
     cases h
     obtain ⟨a1,a2,a3,a4⟩:=qL hys h2
     have z1:=gz hy
     refine ⟨z1.append a1,by simp [a2],?_,fun ι' hi hf=>?_⟩
     ·intro x' hx'
      rcases List.mem_cons.1 hx' with rfl|hx'
      ·exact FK hy hc
      ·exact a3 x' hx'
     ·obtain ⟨us, ws, e, hd, hn⟩ := (gJ hy hc).2 ι' hi hf.left
      have:=hn.of_nil;subst this
      exact ⟨us,_,by simp [e],hd,a4 ι' hi hf.right⟩
    ·cases h
   ·cases h
  ·cases h
end
end Go.AM
end
section
namespace Go.AM
section
variable {P : Program} {Y : Ctx} {ι ι' : aA} {μ μ' : Mu} {H : aK} {w w' : World}
 {c1:Nat->List V->aK->(V->aK->Prop)->Prop} {c2:Nat->List V->V->Prop} {c3:C->St->(Ex->St->Prop)->Prop}
 {c4:Nat->List V->aK->(V->aK->Prop)->Prop} {c5:O->List Nat->C->C->St->(Ex->St->Prop)->Prop} {c6:C->St->(Ex->St->Prop)->Prop} {c7:GC}
def lW (ob:List Bool):Prop:=∀b∈ob,b=true
def ej (l:Bool) (n aF:Nat):Nat:=match l with
 |true=>max n (aF+1)
 |false=>n
def FL (P:Program) (Y:Ctx) (ι:aA) (μ:Mu) (H:aK) (w:World) (aF:Nat) (s:Sem Next) (v:V) (u:cU) (l:Bool):Prop :=
 ∃ι' μ' x w',(s.run P w = .ok (.value x) w'\/(s.run P w = .ok .skip w'/\x=undef))/\ι.le ι'/\μ.le μ'/\(∀id,id≠aF->μ' id=μ id) /\
  Inv P Y ι' μ' ⟨ej l H.next aF,bD u H.bl⟩ w'/\Rel ι' μ' v x
theorem FL.pure (h:Inv P Y ι μ H w) {aF:Nat} {s:Sem Next} {v:V} {x:Value} (hs:s.run P w = .ok (.value x) w) (hr:Rel ι μ v x):FL P Y ι μ H w aF s v [] false :=
 ⟨ι,μ,x,w,.inl hs,aA.le_refl _,Mu.le_refl _,fun _ _=>rfl,h,hr⟩
theorem Mu.n7 {μ:Mu} {n:Nat} {L:Loc}:∀id,id≠n->μ.set n L id=μ id:=fun id h=>by unfold Mu.set;rw [if_neg h]
theorem vl : ∀ (n : Nat) (r : List Nat), upTo n r = List.range n ++ r
 |0,r=>rfl
 |n+1,r=>by rw [upTo,vl n,List.range_succ,List.append_assoc];rfl
theorem xH {f : Nat → Option V} : ∀ {ns : List Nat} {vs : List V}, u5 f ns = some vs → ∀ (i : Nat) n, ns[i]? = some n → ∃ v, vs[i]? = some v ∧ f n = some v
 |[],vs,h,i,n,hi=>by simp at hi
 |m::ns,vs,h,i,n,hi=>by
  simp only [u5] at h
  split at h<;>try (cases h;done)
  rename_i v hv
  split at h<;>try (cases h;done)
  rename_i vs' hvs
  cases h
  cases i with
  |zero=>simp at hi;subst hi;exact ⟨v,rfl,hv⟩
  |succ i=>obtain ⟨u,hu,hf⟩:=xH hvs i n (by simpa using hi);exact ⟨u,by simpa using hu,hf⟩
theorem BG {k : IntKind} : ∀ {vs : List V} {ns : List Int}, Sq k vs = some ns → ∀ (i : Nat) v, vs[i]? = some v → ∃ n, ns[i]? = some n ∧ v = .int k n
 |[],ns,h,i,v,hv=>by simp at hv
 |w::vs,ns,h,i,v,hv=>by
  simp only [Sq] at h
  split at h<;>try (cases h;done)
  rename_i k' m
  split at h<;>try (cases h;done)
  rename_i e;subst e
  split at h<;>try (cases h;done)
  rename_i ns' YE
  cases h
  cases i with
  |zero=>simp at hv;subst hv;exact ⟨m,rfl,rfl⟩
  |succ i=>obtain ⟨n,hn,e⟩:=BG YE i v (by simpa using hv);exact ⟨n,by simpa using hn,e⟩
theorem FM {vs:List V} {j:Int} {v:V} (h:Fs (aZ c1 c2 c3 c4 c5 c6 c7) vs j=some v) (hj:j.toNat<vs.length):vs[j.toNat]?=some v:=by
 simp only [Fs] at h
 split at h<;>try (cases h;done)
 rename_i k n r
 split at h<;>try (cases h;done)
 rename_i ns YE
 cases h
 have hx:(V.int k n::r)[j.toNat]?=some (V.int k n::r)[j.toNat]:=by simp
 have hall:Sq k (V.int k n::r)=some (n::ns):=by simp [Sq,YE]
 obtain ⟨m,hm,e⟩:=BG hall j.toNat _ hx
 rw [hx,e]
 congr 2
 show m=(n::ns).getD j.toNat 0
 simp only [List.getD,hm,Option.getD_some]
theorem xI {cs : List V} : ∀ {l : List (Nat × Nat × Int)} {o : Nat} {v : V}, xw (aZ c1 c2 c3 c4 c5 c6 c7) cs l o = some v → (∀ x ∈ l, 0 ≤ x.2.2 ∧ x.2.2 < (x.2.1 : Int)) → cs[o + iR l]? = some v
 |[],o,v,h,_=>h
 |(dw,len,j)::r,o,v,h,hb=>by
  simp only [xw] at h
  split at h<;>try (cases h;done)
  rename_i vs hvs
  have h0:=hb _ (List.mem_cons_self ..)
  simp only at h0
  have hlen:vs.length=len:=by
   have:∀{f:Nat->Option V} {ns:List Nat} {vs:List V},u5 f ns=some vs->vs.length=ns.length:=by
    intro f ns
    induction ns with
    |nil=>intro vs h;cases h;rfl
    |cons n ns ih =>
     intro vs h
     simp only [u5] at h
     split at h<;>try (cases h;done)
     split at h<;>try (cases h;done)
     rename_i vs' hvs
     cases h
     simp [ih hvs]
   rw [this hvs,vl];simp
  have hv:=FM h (by omega)
  have hlt:j.toNat<len:=by omega
  have hr:(upTo len [])[j.toNat]?=some j.toNat:=by rw [vl,List.append_nil,List.getElem?_range hlt]
  obtain ⟨u,hu,hf⟩:=xH hvs _ _ hr
  rw [hu] at hv;cases hv
  have:=xI hf (fun x hx=>hb x (List.mem_cons_of_mem _ hx))
  rw [<-this]
  congr 1
  simp only [iR];omega
theorem JU {cs:List V} {o:Nat} {v:V} (h:cs[o]?=some v):cut o 1 cs=some [v]:=by
 have hl:=(List.getElem?_eq_some_iff.1 h).1
 have e:(cs.drop o).take 1=[v]:=by
  rw [List.drop_eq_getElem_cons hl]
  simp [(List.getElem?_eq_some_iff.1 h).2]
 unfold cut
 rw [if_pos (by omega),e]
theorem qM (h : Inv P Y ι μ H w) {env : List (Nat × V)} {t : TypeId} {g : Bool} {k : Nat} {x : O} {px : Value} {ob : List Bool} {v : V} {u : cU} {aF : Nat} (hk : cm P t = some k) (hg : nZ P t = some g)
  (hx:Rel ι μ (x.ev env) px) (ah:cg (aZ c1 c2 c3 c4 c5 c6 c7) (.load g k x) env H.bl aF=some (ob,v,u)) (cE:lW ob) :
  u=[]/\∃y,(Instr.loadAt t px).run P w = .ok y w/\Rel ι μ v y:=by
 have fin:∀{b o:Nat} {cs:List V} {vs:List Value},w.rangeAt b o vs->vs.length=k->aG ι μ cs vs->(∀u∈vs,u.oneCell'=true)->dG g cs=some v ->
   ∃y,(Instr.loadAt t (.pointer (some ⟨b,o,none⟩))).run P w = .ok y w/\Rel ι μ v y:=fun hr hl hR h1 hw=>by
  obtain ⟨y,hy,hv⟩:=n5 hw hR h1
  exact ⟨y,zY hk hg hr hl hy,hv⟩
 simp only [cg] at ah
 split at ah<;>try (cases ah;done)
 ·rename_i id off cT
  rw [cT] at hx
  split at ah<;>try (cases ah;done)
  rename_i cs fz hb
  split at ah<;>try (cases ah;done)
  rename_i vs' qN
  split at ah<;>try (cases ah;done)
  rename_i v' Db
  cases ah
  obtain ⟨L,vs,hM,hR⟩:=h.live _ _ hb
  cases hx with
  |ptr _ _ L' hL =>
   rw [hM.mu] at hL;cases hL
   obtain ⟨r1,r2,r3⟩:=hR.mQ qN
   exact ⟨rfl,fin (dc hM.rangeAt off k) (by rw [<-r1.1];exact r2) r1 (fun u hu=>hM.one u (List.mem_of_mem_drop (List.mem_of_mem_take hu))) Db⟩
 ·rename_i cs cT
  rw [cT] at hx
  split at ah<;>try (cases ah;done)
  rename_i vs' qN
  split at ah<;>try (cases ah;done)
  rename_i v' Db
  cases ah
  cases hx with
  |bR _ b o gf h1 h2 h3 =>
   have hR:aG ι μ cs ((List.range cs.length).map gf):=⟨by simp,fun i v x hv hx=>by
    have hi:=(List.getElem?_eq_some_iff.1 hv).1
    simp [hi] at hx;subst hx;exact h2 i v hv⟩
   have Ss:w.rangeAt b o ((List.range cs.length).map gf):=fun j v hv=>by
    have hj:j<cs.length:=by have:=(List.getElem?_eq_some_iff.1 hv).1;simpa using this
    simp [hj] at hv;subst hv;exact h.rd _ _ _ (h1 j hj)
   obtain ⟨r1,r2,r3⟩:=hR.mQ qN
   have:=dc Ss 0 k
   exact ⟨rfl,fin this (by rw [<-r1.1];exact r2) r1 (fun u hu=>by
    have hu:=List.mem_of_mem_drop (List.mem_of_mem_take hu)
    obtain ⟨i,_,rfl⟩:=List.mem_map.1 hu;exact h3 i) Db⟩
 ·rename_i id te i p cT
  rw [cT] at hx
  split at ah<;>try (cases ah;done)
  case h_2 =>
   rename_i t' xs i' p' v' hb
   split at ah<;>try (cases ah;done)
   rename_i e;obtain ⟨rfl,rfl,rfl⟩:=e
   split at ah<;>try (cases ah;done)
   cases ah
   have YF:i=i':=by
    have:=cE _ (List.mem_singleton.2 rfl)
    simp [aZ] at this;omega
   subst YF
   obtain ⟨L,us,vs,c,hM,hR,hl,h1,h2,h3,h4⟩:=h.live _ _ hb
   cases hx with
   |ep _ _ _ _ L' hL =>
    rw [hM.mu] at hL;cases hL
    have hlt:i * te.sz+te.bx p<vs.length:=by rw [h3];simpa using h2
    have hc:vs[i * te.sz+te.bx p]?=some c:=by rw [h3];simp [h2]
    have qN:(vs.drop (i * te.sz+te.bx p)).take 1=[c]:=by
     rw [List.drop_eq_getElem_cons hlt]
     simp [(List.getElem?_eq_some_iff.1 hc).2]
    have E6:=dc hM.rangeAt (i * te.sz+te.bx p) 1
    rw [qN] at E6
    have:=fin E6 rfl (aG.cons h4 aG.nil) (fun u hu=>by
     rw [List.mem_singleton.1 hu]
     exact hM.one c (List.mem_of_getElem? hc)) (show dG false [v]=some v from rfl)
    rw [<-Nat.add_assoc] at this
    exact ⟨rfl,this⟩
  rename_i t' xs fz hb
  split at ah<;>try (cases ah;done)
  rename_i e;subst e
  split at ah<;>try (cases ah;done)
  rename_i t2 y FN
  split at ah<;>try (cases ah;done)
  rename_i hlen
  split at ah<;>try (cases ah;done)
  rename_i v' Db
  cases ah
  have hi:i<xs.length:=by simpa using cE _ (List.mem_singleton.2 rfl)
  rcases h.live _ _ hb with ⟨rfl,_⟩|⟨L,vs,hM,hR,hl⟩
  ·simp at hi
  ·cases hx with
   |ep _ _ _ _ L' hL =>
    rw [hM.mu] at hL;cases hL
    have zZ:xs[i]?=some (xs.getD i te.zero):=by simp [List.getD,hi]
    have hc:=hR.at (fun _ _=>af.length) zZ
    obtain ⟨g1,g2,_⟩:=mU FN hc
    have E6:=dc hM.rangeAt (i * te.sz) te.sz
    have FJ:=dc E6 (te.bx p) t2.sz
    have w9:=eo (μ:=μ) g1
    exact ⟨rfl,fin FJ (by rw [<-w9.1];exact hlen) w9 (af.one g1) Db⟩
 ·rename_i ti y cT
  rw [cT] at hx
  split at ah<;>try (cases ah;done)
  rename_i hlen
  split at ah<;>try (cases ah;done)
  rename_i v' Db
  cases ah
  cases hx with
  |ip _ _ b o us h1 h2 =>
   have w9:=eo (μ:=μ) h2
   exact ⟨rfl,fin (h1.rangeAt h.rd) (by rw [<-w9.1];exact hlen) w9 (af.one h2) Db⟩
 ·rename_i id te m cT
  rw [cT] at hx
  split at ah<;>try (cases ah;done)
  rename_i t' xs fz hb
  split at ah<;>try (cases ah;done)
  rename_i e;subst e
  split at ah<;>try (cases ah;done)
  rename_i hlen
  split at ah<;>try (cases ah;done)
  rename_i v' Db
  cases ah
  cases hx with
  |pa _ _ _ L' hL hm =>
   rcases h.live _ _ hb with ⟨rfl,hn⟩|⟨L,vs,hM,hR,hl⟩
   ·rw [hn] at hL;cases hL
   ·rw [hM.mu] at hL; cases hL
    have w9:=xG (μ:=μ) (c1:=c1) (c2:=c2) (c3:=c3) (c4:=c4) (c5:=c5) (c6:=c6) (c7:=c7) hR (n:=m) (i:=0) (by omega)
    simp only [Nat.zero_mul,List.drop_zero] at w9
    exact ⟨rfl,fin hM.rangeAt (by rw [<-w9.1];exact hlen) w9 hM.one Db⟩
 ·rename_i id o l cT
  rw [cT] at hx
  split at ah<;>try (cases ah;done)
  rename_i cs fz hb
  split at ah<;>try (cases ah;done)
  split at ah<;>try (cases ah;done)
  rename_i v1 hga
  split at ah<;>try (cases ah;done)
  rename_i v' Db
  cases ah
  obtain ⟨L,vs,hM,hR⟩:=h.live _ _ hb
  cases hx with
  |sp _ _ _ L' hL Tf =>
   rw [hM.mu] at hL;cases hL
   have qN:cut (o+iR l) 1 cs=some [v1]:=JU (xI hga Tf)
   obtain ⟨r1,r2,r3⟩:=hR.mQ qN
   exact ⟨rfl,fin (dc hM.rangeAt (o+iR l) 1) (by rw [<-r1.1];exact r2) r1 (fun u hu=>hM.one u (List.mem_of_mem_drop (List.mem_of_mem_take hu))) Db⟩
theorem de : ∀ (u v : cU) (bl : aj), bD (u ++ v) bl = bD v (bD u bl)
 |[],v,bl=>rfl
 |(id,none)::r,v,bl=>de r v _
 |(id,some b)::r,v,bl=>de r v _
theorem iV.ju : ∀ {u : cU} {bl : aj} {id : Nat}, iV bl u → (∀ e ∈ u, e.1 ≠ id) → AM.aq id (bD u bl) = AM.aq id bl
 |[],bl,id,_,_=>rfl
 |e::r,bl,id,hz,h=>by
  obtain ⟨OO,t1,xs1,fz1,rfl,hb⟩:=hz e List.mem_cons_self
  have qk:iV ((OO,.arr t1 xs1 true)::bH OO bl) r:=fun e he=>by
   obtain ⟨FI,t2,Td,YD,rfl,iF⟩:=hz e (List.mem_cons_of_mem _ he)
   by_cases hid:FI=OO
   ·subst hid
    rw [hb] at iF;cases iF
    exact ⟨FI,t1,xs1,true,rfl,by rw [aU,if_pos rfl]⟩
   ·exact ⟨FI,t2,Td,YD,rfl,by rw [aU,if_neg hid];exact iF⟩
  have:=iV.ju qk (fun e he=>h e (List.mem_cons_of_mem _ he))
  simp only [bD]
  rw [this,aU,if_neg (fun e=>h _ List.mem_cons_self e.symm)]
theorem tR (h:Inv P Y ι μ H w) {aF:Nat} (hn:μ aF=none) {cs:List V} {xs:List Value} (hr:aG ι μ cs xs) (h1:∀u∈xs,u.oneCell'=true) (e:TypeId) :
  ∃μ',μ.le μ'/\(∀id,id≠aF->μ' id=μ id)/\Inv P Y ι μ' ⟨max H.next (aF+1),(aF,.cells cs false)::bH aF H.bl⟩ (w.alloc (.cells xs.toArray e))/\Rel ι μ' (.ptr aF 0) (.pointer (some ⟨w.heap.size,0,none⟩)):=by
 let L:Loc:=⟨w.heap.size,0,xs.length,0⟩
 have hle:=Mu.gF (L:=L) hn
 have iW:μ.set aF L aF=some L:=by simp [Mu.set]
 have hfree:∀o,ι w.heap.size o=none:=fun o=>by
  cases FG:ι w.heap.size o with
  |none=>rfl
  |some y=>have:=World.block_lt_of_cell? _ _ (h.rd _ _ _ FG);simp at this
 refine ⟨_,hle,Mu.n7,h.lay hn (L:=L) rfl ⟨L,xs,⟨iW,(.inl h.below.size),⟨xs.toArray,e,?_,by simp [L],fun j v hv=>by simpa [L] using hv⟩,by simp [L],h1,(fun e=>by cases e),fun _=>hfree⟩,hr.mono (aA.le_refl _) hle⟩,.ptr _ _ L iW⟩
 show (w.heap.push _)[w.heap.size]?=_
 simp
theorem ql (h:Inv P Y ι μ H w) {aF:Nat} (hn:μ aF=none) {t:Ty} {ys:List t.den} {xs rest:List Value} (hr:bu (af ι t) ys xs) (e:TypeId) (cap:Nat) (hc:ys.length<=cap) (hcap:cap * t.sz<=xs.length+rest.length) :
  ∃μ',μ.le μ'/\(∀id,id≠aF->μ' id=μ id)/\Inv P Y ι μ' ⟨max H.next (aF+1),(aF,.arr t ys false)::bH aF H.bl⟩ (w.alloc (.cells (xs++rest).toArray e)) /\
   Rel ι μ' (.sl aF t 0 ys.length) (.slice (some ⟨w.heap.size,0,none⟩) ys.length cap):=by
 let L:Loc:=⟨w.heap.size,0,xs.length+rest.length,ys.length⟩
 have hle:=Mu.gF (L:=L) hn
 have iW:μ.set aF L aF=some L:=by simp [Mu.set]
 have hfree:∀o,ι w.heap.size o=none:=fun o=>by
  cases FG:ι w.heap.size o with
  |none=>rfl
  |some y=>have:=World.block_lt_of_cell? _ _ (h.rd _ _ _ FG);simp at this
 refine ⟨_,hle,Mu.n7,h.lay hn (L:=L) rfl (.inr ⟨L,xs,⟨iW,(.inl h.below.size),⟨(xs++rest).toArray,e,?_,by simp [L],fun j v hv=>?_⟩,by simp [L],
  bu.one (fun _ _=>af.one) hr,(fun e=>by cases e),fun _=>hfree⟩,hr,rfl⟩),?_⟩
 ·show (w.heap.push _)[w.heap.size]? = _
  simp
 ·have := (List.getElem?_eq_some_iff.1 hv).1
  simp only [L,Nat.zero_add,List.getElem?_toArray]
  rw [List.getElem?_append_left this];exact hv
 ·have := Rel.sl (ι := ι) (μ := μ.set aF L) aF t 0 ys.length cap L iW hc (by simpa [L] using hcap) (by simp [L])
  simpa [L] using this
end
end Go.AM
end
section
namespace Go.AM
section
variable {P : Program} {Y : Ctx} {ι ι' : aA} {μ μ' : Mu} {H : aK} {w w' : World}
 {c1:Nat->List V->aK->(V->aK->Prop)->Prop} {c2:Nat->List V->V->Prop} {c3:C->St->(Ex->St->Prop)->Prop}
 {c4:Nat->List V->aK->(V->aK->Prop)->Prop} {c5:O->List Nat->C->C->St->(Ex->St->Prop)->Prop} {c6:C->St->(Ex->St->Prop)->Prop} {c7:GC}
theorem splice {α:Type} (ws us:List α) (a o sz:Nat) (h:o+us.length<=sz) :
  ws.take a++(((ws.drop a).take sz).take o++us++((ws.drop a).take sz).drop (o+us.length))++ws.drop (a+sz)=ws.take (a+o)++us++ws.drop (a+o+us.length):=by
 have h1:ws.take a++((ws.drop a).take sz).take o=ws.take (a+o):=by
  rw [List.take_take,Nat.min_eq_left (by omega),List.take_add]
 have h2:((ws.drop a).take sz).drop (o+us.length)++ws.drop (a+sz)=ws.drop (a+o+us.length):=by
  rw [List.drop_take,List.drop_drop,show ws.drop (a+sz)=(ws.drop (a+(o+us.length))).drop (sz - (o+us.length)) by rw [List.drop_drop];congr 1;omega,
   List.take_append_drop]
  congr 1;omega
 simp only [List.append_assoc]
 rw [<-List.append_assoc (ws.take a),h1,h2]
theorem mV {id : Nat} : ∀ {u : cU}, oZ id u = true → ∀ e ∈ u, e.1 ≠ id
 |[],_,e,h=>by cases h
 |(s,b)::r,h,e,he=>by
  unfold oZ at h
  split at h
  ·cases h
  ·rename_i hs
   rcases List.mem_cons.1 he with rfl|he
   ·intro e;simp only at e;subst e;rw [Nat.beq_refl] at hs;cases hs
   ·exact mV h e he
theorem xJ (h : Inv P Y ι μ H w) {env : List (Nat × V)} {t : TypeId} {k : Nat} {x a : O} {vx pa : Value} {ob : List Bool} {v : V} {u : cU} {aF : Nat} (hk : cm P t = some k)
  (hx:Rel ι μ (x.ev env) vx) (ha:Rel ι μ (a.ev env) pa) (ah:cg (aZ c1 c2 c3 c4 c5 c6 c7) (.store k a x) env H.bl aF=some (ob,v,u)) (cE:lW ob) :
  ∃ι' w',(Instr.storeAt t pa vx).run P w = .ok () w'/\ι.le ι'/\Inv P Y ι' μ ⟨H.next,bD u H.bl⟩ w'/\v = .any:=by
 simp only [cg] at ah
 split at ah<;>try (cases ah;done)
 rename_i vs hvs
 obtain ⟨hc,h1⟩:=hx.cells hvs
 split at ah<;>try (cases ah;done)
 rename_i hlen
 have hsz:vx.cells.size=k:=by have:=hc.1;simp at this;omega
 split at ah<;>try (cases ah;done)
 ·rename_i id off OP
  rw [OP] at ha
  split at ah<;>try (cases ah;done)
  rename_i cs hb
  split at ah<;>try (cases ah;done)
  rename_i cs' ke
  cases ah
  obtain ⟨L,ws,hM,hR⟩:=h.live _ _ hb
  cases ha with
  |ptr _ _ L' hL =>
   rw [hM.mu] at hL;cases hL
   obtain ⟨hle,fy⟩:=n6 ke hR hc
   have hf:=hM.fits
   have hl:vx.cells.toList.length=k:=by simpa using hsz
   refine ⟨ι,_,fR hk (hM.there (by omega) (by omega)) hsz h1,aA.le_refl _,?_,rfl⟩
   exact h.store hb hM.mu (hM.n4 rfl) ⟨L,_,hM.write hle h1,fy⟩
 ·rename_i id te i p OP
  rw [OP] at ha
  split at ah<;>try (cases ah;done)
  rename_i t' xs hb
  split at ah<;>try (cases ah;done)
  rename_i e;subst e
  split at ah<;>try (cases ah;done)
  rename_i y u0 ke
  split at ah<;>try (cases ah;done)
  rename_i hni
  cases ah
  have hi:i<xs.length:=by simpa using cE _ (List.mem_singleton.2 rfl)
  have hz:=kU ke
  obtain ⟨ι',hle,hI,hF⟩:=gy hz h
  have hb':aq id (bD u0 H.bl)=some (.arr te xs false):=by rw [hz.ju (mV hni)];exact hb
  rcases hI.live _ _ hb' with ⟨rfl,_⟩|⟨L,ws,hM,hR,hl⟩
  ·simp at hi
  ·cases ha with
   |ep _ _ _ _ L' hL =>
    rw [hM.mu] at hL;cases hL
    have zZ:xs[i]?=some (xs.getD i te.zero):=by simp [List.getD,hi]
    have hcell:=hR.at (fun _ _=>af.length) zZ
    obtain ⟨g1,g2⟩:=j9 ke hc hle hF hcell
    have YG:=hR.length (fun _ _=>af.length)
    have hf:=hM.fits
    have YH:vx.cells.toList.length=k:=by simpa using hsz
    have hmul:i * te.sz+te.sz<=xs.length * te.sz:=by
     have:=Nat.mul_le_mul_right te.sz (show i+1<=xs.length from hi)
     rwa [Nat.add_mul,Nat.one_mul] at this
    refine ⟨ι',_,fR hk (hM.there (by omega) (by omega)) hsz h1,hle,?_,rfl⟩
    rw [de]
    have hw:=hM.write (d:=i * te.sz+te.bx p) (us:=vx.cells.toList) (by omega) h1
    rw [<-Nat.add_assoc] at hw
    refine hI.store hb' hM.mu (hM.n4 rfl) (.inr ⟨L,_,hw,?_,by simpa using hl⟩)
    have o7:=hR.set (fun _ _=>af.length) hi g2
    have hsp:=splice ws vx.cells.toList (i * te.sz) (te.bx p) te.sz g1
    rw [show (i+1) * te.sz=i * te.sz+te.sz by rw [Nat.add_mul,Nat.one_mul],hsp] at o7
    exact o7
 ·rename_i id te m OP
  rw [OP] at ha
  split at ah<;>try (cases ah;done)
  rename_i t' xs hb
  split at ah<;>try (cases ah;done)
  rename_i e;subst e
  split at ah<;>try (cases ah;done)
  rename_i ys u0 ke
  split at ah<;>try (cases ah;done)
  rename_i hni
  cases ah
  obtain ⟨hz,hyl,hvl,dI⟩:=qK ke hc
  obtain ⟨ι',hle,hI,hF⟩:=gy hz h
  have hb':aq id (bD u0 H.bl)=some (.arr te xs false):=by rw [hz.ju (mV hni)];exact hb
  cases ha with
  |pa _ _ _ L' hL hm =>
   rcases hI.live _ _ hb' with ⟨rfl,hn⟩|⟨L,ws,hM,hR,hl⟩
   ·rw [hn] at hL;cases hL
   ·rw [hM.mu] at hL; cases hL
    have YG:=hR.length (fun _ _=>af.length)
    have hf:=hM.fits
    have YH:vx.cells.toList.length=k:=by simpa using hsz
    have hkk:k=xs.length * te.sz:=by rw [<-hlen,hvl,hl,hm]
    refine ⟨ι',_,fR hk (hM.there (Nat.le_refl _) (by omega)) hsz h1,hle,?_,rfl⟩
    rw [de]
    have hw:=hM.write (d:=0) (us:=vx.cells.toList) (by omega) h1
    rw [Nat.add_zero] at hw
    refine hI.store hb' hM.mu (hM.n4 rfl) (.inr ⟨_,_,hw,?_,by omega⟩)
    have:ws.drop (0+vx.cells.toList.length)=[]:=List.drop_eq_nil_of_le (by omega)
    rw [this]
    simpa using dI ι' hle hF
theorem qO : ∀ {t t1 : Ty} {p q : List Bool}, t.mL p = some t1 → t.bx (p ++ q) = t.bx p + t1.bx q
 |t,t1,[],q,h=>by
  have:t=t1:=by cases t<;>(simp [Ty.mL] at h;exact h)
  subst this
  have:t.bx []=0:=by cases t<;>rfl
  rw [this];simp
 | .prod a b,t1,false::p,q,h=>by
  simp only [Ty.mL] at h
  simp only [List.cons_append,Ty.bx]
  exact qO h
 | .prod a b,t1,true::p,q,h=>by
  simp only [Ty.mL] at h
  simp only [List.cons_append,Ty.bx]
  rw [qO h];omega
 | .unit,t1,b::p,q,h=>by cases b<;>simp [Ty.mL] at h
 | .bool,t1,b::p,q,h=>by cases b<;>simp [Ty.mL] at h
 | .str,t1,b::p,q,h=>by cases b<;>simp [Ty.mL] at h
 | .int k,t1,b::p,q,h=>by cases b<;>simp [Ty.mL] at h
 | .list k,t1,b::p,q,h=>by cases b<;>simp [Ty.mL] at h
 | .cn _ _ _,t1,b::p,q,h=>by cases b<;>simp [Ty.mL] at h
theorem qP : ∀ {t : Ty} {vs : List V} {q : List Bool} {cs : List Value}, pQ t vs = some q → aG ι μ vs cs → ∃ c, cs[t.bx q]? = some c ∧ Rel ι μ .bK c
 | .list s,[],q,cs,h,hr=>by simp [pQ] at h
 | .list s,x::r,q,cs,h,hr=>by
  obtain ⟨y,ys,rfl,h1,h2⟩:=hr.bF
  cases x<;>simp [pQ] at h
  subst h
  exact ⟨y,by simp [Ty.bx],h1⟩
 | .prod a b,vs,q,cs,h,hr=>by
  simp only [pQ] at h
  split at h
  ·rename_i p h1
   cases h
   have:=qP (t:=a) h1 hr
   simpa only [Ty.bx] using this
  ·split at h <;> try (cases h; done)
   rename_i p h1
   cases h
   obtain ⟨c,e1,e2⟩:=qP h1 (hr.drop a.sz)
   rw [List.getElem?_drop] at e1
   exact ⟨c,e1,e2⟩
 | .unit,vs,q,cs,h,hr=>by simp [pQ] at h
 | .bool,vs,q,cs,h,hr=>by simp [pQ] at h
 | .str,vs,q,cs,h,hr=>by simp [pQ] at h
 | .int k,vs,q,cs,h,hr=>by simp [pQ] at h
 | .cn _ _ _,vs,q,cs,h,hr=>by simp [pQ] at h
theorem JV (h:Inv P Y ι μ H w) {aF:Nat} (hn:μ aF=none) {t:Ty} {y:t.den} {xs:List Value} (hr:bu (af ι t) [y] xs) (e:TypeId) {p:List Bool} {c:Value} (hc:xs[t.bx p]?=some c) (XS:Rel ι μ .bK c) :
  ∃μ',μ.le μ'/\(∀id,id≠aF->μ' id=μ id)/\Inv P Y ι μ' ⟨max H.next (aF+1),(aF,.jo t [y] 0 p .bK)::bH aF H.bl⟩ (w.alloc (.cells (xs++[]).toArray e)) /\
   Rel ι μ' (.sl aF t 0 1) (.slice (some ⟨w.heap.size,0,none⟩) 1 1):=by
 let L:Loc:=⟨w.heap.size,0,xs.length,1⟩
 have hle:=Mu.gF (L:=L) hn
 have iW:μ.set aF L aF=some L:=by simp [Mu.set]
 have hfree:∀o,ι w.heap.size o=none:=fun o=>by
  cases FG:ι w.heap.size o with
  |none=>rfl
  |some y=>have:=World.block_lt_of_cell? _ _ (h.rd _ _ _ FG);simp at this
 have hlt:=(List.getElem?_eq_some_iff.1 hc).1
 have ke:xs=xs.set (t.bx p) c:=by
  conv=>lhs;rw [<-List.set_getElem_self (as:=xs) hlt]
  rw [(List.getElem?_eq_some_iff.1 hc).2]
 refine ⟨_,hle,Mu.n7,h.lay hn (L:=L) rfl ⟨L,xs,xs,c,⟨iW,(.inl h.below.size),⟨(xs++[]).toArray,e,?_,by simp [L],fun j v hv=>?_⟩,by simp [L],
  bu.one (fun _ _=>af.one) hr,(fun e=>by cases e),fun _=>hfree⟩,hr,rfl,by simp,by simpa using hlt,by simpa using ke,XS.mono (aA.le_refl _) hle⟩,?_⟩
 ·show (w.heap.push _)[w.heap.size]? = _
  simp
 ·simpa [L] using hv
 ·have hl := hr.length (fun _ _ => af.length)
  have:=Rel.sl (ι:=ι) (μ:=μ.set aF L) aF t 0 1 1 L iW (Nat.le_refl _) (by simp [L,hl]) (by simp [L])
  simpa [L] using this
theorem qQ:∀{t:Ty} {vs:List V} {q:List Bool} {v:V} {vs':List V} {cs:List Value},iD t vs=some (q,v,vs')->aG ι μ vs cs ->
  ∃c,cs[t.bx q]?=some c/\Rel ι μ v c/\aG ι μ vs' (cs.set (t.bx q) (.slice none 0 0))
 | .list s,[],q,v,vs',cs,h,hr=>by simp [iD] at h
 | .list s,x::r,q,v,vs',cs,h,hr=>by
  obtain ⟨y,ys,rfl,h1,h2⟩:=hr.bF
  cases x<;>simp [iD] at h
  obtain ⟨rfl,rfl,rfl⟩:=h
  refine ⟨y,by simp [Ty.bx],h1,?_⟩
  simp only [Ty.bx,List.set_cons_zero]
  exact .cons (.bK _) h2
 | .prod a b,vs,q,v,vs',cs,h,hr=>by
  simp only [iD] at h
  split at h
  ·rename_i p v1 vs1 h1
   cases h
   have:=qQ (t:=a) h1 hr
   simpa only [Ty.bx] using this
  ·split at h <;> try (cases h; done)
   rename_i p v1 vs1 h1
   cases h
   obtain ⟨c,e1,e2,e3⟩:=qQ h1 (hr.drop a.sz)
   rw [List.getElem?_drop] at e1
   have hlt:=(List.getElem?_eq_some_iff.1 e1).1
   refine ⟨c,e1,e2,?_⟩
   have:cs.set (a.sz+b.bx p) (.slice none 0 0)=cs.take a.sz++(cs.drop a.sz).set (b.bx p) (.slice none 0 0):=by
    conv=>lhs;rw [<-List.take_append_drop a.sz cs]
    rw [List.set_append_right _ _ (by simp;omega)]
    congr 2
    simp;omega
   simp only [Ty.bx]
   rw [this]
   exact (hr.take a.sz).append e3
 | .unit,vs,q,v,vs',cs,h,hr=>by simp [iD] at h
 | .bool,vs,q,v,vs',cs,h,hr=>by simp [iD] at h
 | .str,vs,q,v,vs',cs,h,hr=>by simp [iD] at h
 | .int k,vs,q,v,vs',cs,h,hr=>by simp [iD] at h
 | .cn _ _ _,vs,q,v,vs',cs,h,hr=>by simp [iD] at h
theorem FO {α:Type} {A cs B:List α} {j:Nat} {z c:α} (h:cs[j]?=some c):(A++cs.set j z++B).set (A.length+j) c=A++cs++B:=by
 obtain ⟨hj,rfl⟩:=List.getElem?_eq_some_iff.1 h
 rw [List.append_assoc,List.set_append_right _ _ (by omega),List.append_assoc]
 congr 1
 rw [show A.length+j - A.length=j by omega,List.set_append_left _ _ (by simpa using hj)]
 congr 1
 simp
theorem vm (h : Inv P Y ι μ H w) {aF : Nat} {env : List (Nat × V)} {t : TypeId} {k : Nat} {x a : O} {vx pa : Value} {ob : List Bool} {v : V} {u : cU} (hk : cm P t = some k)
  (hx:Rel ι μ (x.ev env) vx) (ha:Rel ι μ (a.ev env) pa) (ah:tg (aZ c1 c2 c3 c4 c5 c6 c7) (.store k a x) env H.bl aF=some (ob,v,u)) (cE:lW ob) :
  ∃w',(Instr.storeAt t pa vx).run P w = .ok () w'/\Inv P Y ι μ ⟨H.next,bD u H.bl⟩ w'/\v = .any:=by
 simp only [tg] at ah
 split at ah<;>try (cases ah;done)
 rename_i vs hvs
 obtain ⟨hc,h1⟩:=hx.cells hvs
 split at ah<;>try (cases ah;done)
 rename_i hlen
 have hsz:vx.cells.size=k:=by have:=hc.1;simp at this;omega
 have YH:vx.cells.toList.length=k:=by simpa using hsz
 split at ah<;>try (cases ah;done)
 rename_i id te i p OP
 rw [OP] at ha
 split at ah<;>try (cases ah;done)
 ·rename_i t' xs hb
  split at ah<;>try (cases ah;done)
  rename_i e;subst e
  split at ah<;>try (cases ah;done)
  rename_i t1 E7
  split at ah<;>try (cases ah;done)
  rename_i q v1 vs1 hop
  split at ah<;>try (cases ah;done)
  rename_i y ke
  cases ah
  have hi:i<xs.length:=by simpa using cE _ (List.mem_singleton.2 rfl)
  obtain ⟨c,e1,e2,e3⟩:=qQ hop hc
  rcases h.live _ _ hb with ⟨rfl,_⟩|⟨L,ws,hM,hR,hl⟩
  ·simp at hi
  ·cases ha with
   |ep _ _ _ _ L' hL =>
    rw [hM.mu] at hL;cases hL
    have zZ:xs[i]?=some (xs.getD i te.zero):=by simp [List.getD,hi]
    have hcell:=hR.at (fun _ _=>af.length) zZ
    obtain ⟨g1,g2⟩:=j9 ke e3 (aA.le_refl _) (fun id t xs h=>by cases h) hcell
    rw [List.length_set] at g1
    have YG:=hR.length (fun _ _=>af.length)
    have hf:=hM.fits
    have hj:=(List.getElem?_eq_some_iff.1 e1).1
    have hmul:i * te.sz+te.sz<=xs.length * te.sz:=by
     have:=Nat.mul_le_mul_right te.sz (show i+1<=xs.length from hi)
     rwa [Nat.add_mul,Nat.one_mul] at this
    refine ⟨_,fR hk (hM.there (by omega) (by omega)) hsz h1,?_,rfl⟩
    have hw:=hM.write (d:=i * te.sz+te.bx p) (us:=vx.cells.toList) (by omega) h1
    rw [<-Nat.add_assoc] at hw
    have o7:=hR.set (fun _ _=>af.length) hi g2
    have hsp:=splice ws (vx.cells.toList.set (t1.bx q) (.slice none 0 0)) (i * te.sz) (te.bx p) te.sz (by simpa using g1)
    rw [show (i+1) * te.sz=i * te.sz+te.sz by rw [Nat.add_mul,Nat.one_mul],hsp,List.length_set] at o7
    have hA:(ws.take (i * te.sz+te.bx p)).length=i * te.sz+te.bx p:=by rw [List.length_take];omega
    have hoff:i * te.sz+te.bx (p++q)=(ws.take (i * te.sz+te.bx p)).length+t1.bx q:=by rw [hA,qO E7];omega
    refine h.store hb hM.mu (hM.n4 rfl) ⟨L,_,_,c,hw,o7,by simpa using hl,by simpa using hi,?_,?_,e2⟩
    ·rw [hoff]
     simp only [List.length_append,List.length_set];omega
    ·rw [hoff,FO e1]
 ·rename_i t' xs i' p' v' hb
  split at ah<;>try (cases ah;done)
  rename_i e;obtain ⟨rfl,rfl⟩:=e
  split at ah<;>try (cases ah;done)
  rename_i id' s lo n
  cases ah
  have YF:i=i':=by
   have:=cE _ (List.mem_singleton.2 rfl)
   simp [aZ] at this;omega
  subst YF
  obtain ⟨L,us,ws,c,hM,hR,hl,h2,h3,h4,h5⟩:=h.live _ _ hb
  cases ha with
  |ep _ _ _ _ L' hL =>
   rw [hM.mu] at hL;cases hL
   obtain ⟨c',r,ecs,Tc,hr'⟩:=hc.bF
   have YI:=hr'.of_nil;subst YI
   have YG:ws.length=us.length:=by rw [h4];simp
   have hf:=hM.fits
   have Jw:k=1:=by rw [<-YH,ecs];rfl
   refine ⟨_,fR hk (hM.there (by omega) (by omega)) hsz h1,?_,rfl⟩
   have hw:=hM.write (d:=i * te.sz+te.bx p) (us:=vx.cells.toList) (by omega) h1
   rw [<-Nat.add_assoc] at hw
   refine h.store hb hM.mu (hM.n4 rfl) ⟨L,us,_,c',hw,hR,hl,h2,h3,?_,Tc⟩
   rw [ecs,h4]
   simp only [List.length_cons,List.length_nil]
   rw [List.set_eq_take_append_cons_drop,if_pos h3,List.set_eq_take_append_cons_drop,if_pos h3]
   have ht:(us.take (i * te.sz+te.bx p)).length=i * te.sz+te.bx p:=by rw [List.length_take];omega
   rw [List.take_append_of_le_length (by omega),List.take_of_length_le (by omega),List.drop_append,List.drop_eq_nil_of_le (by omega),ht]
   simp
theorem JW {bl:aj} {n:Nat} {id:Nat} {u:cU} (hu:Sr (aZ c1 c2 c3 c4 c5 c6 c7) id bl=some u) (h:Inv P Y ι μ ⟨n,bl⟩ w):∃ι',ι.le ι'/\Inv P Y ι' μ ⟨n,bD u bl⟩ w:=by
 unfold Sr at hu
 split at hu
 ·rename_i t xs i p v hb
  split at hu<;>try (cases hu;done)
  rename_i y u0 ke
  split at hu<;>try (cases hu;done)
  rename_i hni
  cases hu
  have hz:=kU ke
  obtain ⟨ι',hle,hI,hF⟩:=gy hz h
  have hb':aq id (bD u0 bl)=some (.jo t xs i p v):=by rw [hz.ju (mV hni)];exact hb
  obtain ⟨L,us,ws,c,hM,hR,hl,h2,h3,h4,h5⟩:=h.live _ _ hb
  obtain ⟨L',us',ws',c',hM',_⟩:=hI.live _ _ hb'
  have hLL:L=L':=by have:=hM.mu.symm.trans hM'.mu;cases this;rfl
  subst hLL
  have fy:bu (af ι' t) xs us:=bu.mono (fun _ _=>af.mono hle) hR
  have zZ:xs[i]?=some (xs.getD i t.zero):=by simp [List.getD,h2]
  have hcell:=fy.at (fun _ _=>af.length) zZ
  obtain ⟨g1,g2⟩:=j9 ke (aG.cons h5 aG.nil) hle hF hcell
  refine ⟨ι',hle,?_⟩
  rw [de]
  refine hI.same hb' (.inr ⟨L,ws,⟨hM.mu,hM.old,hM.row,hM.fits,hM.one,fun e=>(by cases e),hM'.n4⟩,?_,by simpa using hl⟩)
  have o7:=fy.set (fun _ _=>af.length) h2 g2
  have hsp:=splice us [c] (i * t.sz) (t.bx p) t.sz g1
  rw [show (i+1) * t.sz=i * t.sz+t.sz by rw [Nat.add_mul,Nat.one_mul],hsp] at o7
  have:us.set (i * t.sz+t.bx p) c=us.take (i * t.sz+t.bx p)++[c]++us.drop (i * t.sz+t.bx p+[c].length):=by
   rw [List.set_eq_take_append_cons_drop,if_pos h3];simp
  rw [h4,this]
  exact o7
 ·cases hu
  exact ⟨ι,aA.le_refl _,h⟩
theorem BH : ∀ {ids : List Nat} {ι : aA} {bl : aj} {n : Nat} {u : cU}, E2 (aZ c1 c2 c3 c4 c5 c6 c7) ids bl = some u → Inv P Y ι μ ⟨n, bl⟩ w → ∃ ι', ι.le ι' ∧ Inv P Y ι' μ ⟨n, bD u bl⟩ w
 |[],ι,bl,n,u,hu,h=>by cases hu;exact ⟨ι,aA.le_refl _,h⟩
 |id::r,ι,bl,n,u,hu,h=>by
  simp only [E2] at hu
  split at hu<;>try (cases hu;done)
  rename_i u1 hu1
  split at hu<;>try (cases hu;done)
  rename_i u2 YJ
  cases hu
  obtain ⟨ι1,l1,ON⟩:=JW hu1 h
  obtain ⟨ι2,l2,lV⟩:=BH YJ ON
  exact ⟨ι2,aA.le_trans l1 l2,by rw [de];exact lV⟩
theorem vn:∀(vs:List Value) (j:Nat) (off:Nat) (cells:Array Value),off+j+vs.length<=cells.size ->
  ((vs.zipIdx j).foldl (fun cs (c,j)=>cs.setIfInBounds (off+j) c) cells).toList=cells.toList.take (off+j)++vs++cells.toList.drop (off+j+vs.length)
 |[],j,off,cells,h=>by simp
 |v::r,j,off,cells,h=>by
  simp only [List.zipIdx_cons,List.foldl_cons]
  rw [show ((r.zipIdx (j+1)).foldl (fun cs (c,j)=>cs.setIfInBounds (off+j) c) (cells.setIfInBounds (off+j) v)).toList=_ from vn r (j+1) off _ (by simp at h ⊢;omega)]
  simp only [List.length_cons] at h
  simp only [Array.toList_setIfInBounds,List.length_cons]
  rw [List.take_set,List.drop_set_of_lt (by omega),show off+(j+1)=(off+j)+1 by omega,List.take_succ_eq_append_getElem (by simp;omega)]
  rw [List.set_append_right _ _ (by simp;omega),List.length_take,Nat.min_eq_left (by simp;omega)]
  simp
  congr 1;omega
theorem kf {place:Nat->Option (Nat×Nat)} {env:List (Nat×V)} {a:Act} (he:fG ι μ env a.tmps):∀{parts:List (Nat×Operand)} {ps:List (Nat×Nat×O)} {zs cs:List V} {cells:Array Value},
  partsOf place parts=some ps->oY ps env zs=some cs->aG ι μ zs cells.toList->(∀u∈cells.toList,u.oneCell'=true) ->
  ∃out,Instr.fill place cells (parts.map fun (i,x)=>(i,a.eval x))=some out/\aG ι μ cs out.toList/\∀u∈out.toList,u.oneCell'=true
 |[],ps,zs,cs,cells,h,hf,hr,h1=>by
  cases h;cases hf
  exact ⟨cells,rfl,hr,h1⟩
 |(i,x)::r,ps,zs,cs,cells,h,hf,hr,h1=>by
  unfold partsOf at h
  split at h<;>try (cases h;done)
  rename_i off k y ys hp hx hys
  cases h
  unfold oY at hf
  split at hf<;>try (cases hf;done)
  rename_i vs hvs
  obtain ⟨hc,ho⟩:=(aD he hx).cells hvs
  split at hf<;>try (cases hf;done)
  rename_i hlen
  split at hf<;>try (cases hf;done)
  rename_i cs' ke
  obtain ⟨hle,hR⟩:=n6 ke hr hc
  have hsz:(a.eval x).cells.size=k:=by have:=hc.1;simp at this;omega
  have xK:=vn (a.eval x).cells.toList 0 off cells (by simpa using hle)
  simp only [List.map_cons,Instr.fill,hp]
  rw [if_neg (by simp [hsz];simp at hle;omega)]
  refine kf he hys hf ?_ ?_
  ·rw [<-Array.foldl_toList,Array.toList_zipIdx,xK];simpa using hR
  ·rw [← Array.foldl_toList, Array.toList_zipIdx, xK]
   intro u hu
   simp only [Nat.add_zero,List.mem_append] at hu
   rcases hu with (hu|hu)|hu
   ·exact h1 u (List.mem_of_mem_take hu)
   ·exact ho u hu
   ·exact h1 u (List.mem_of_mem_drop hu)
theorem lX {k:Nat}:∀(vs:List Value) (n:Nat) (cells:Array Value),(∀v∈vs,v.cells.size=k)->cells.size=(n+vs.length) * k ->
  ∃out,Instr.fill (fun i=>some (i * k,k)) cells ((vs.zipIdx n).map fun (v,i)=>(i,v))=some out/\out.toList=cells.toList.take (n * k)++vs.flatMap fun v=>v.cells.toList
 |[],n,cells,_,hs=>⟨cells,rfl,by
  simp at hs
  have:cells.toList.length<=n * k:=by simp;omega
  simp [List.take_of_length_le this]⟩
 |v::r,n,cells,hv,hs=>by
  have hk:=hv v List.mem_cons_self
  simp only [List.length_cons] at hs
  have hfit:n * k+k<=cells.size:=by
   rw [hs,show n+(r.length+1)=(n+1)+r.length by omega,Nat.add_mul,Nat.add_mul,Nat.one_mul];omega
  have xK:=vn v.cells.toList 0 (n * k) cells (by simp [hk];exact hfit)
  have hsize:((v.cells.toList.zipIdx 0).foldl (fun cs (c,j)=>cs.setIfInBounds (n * k+j) c) cells).size=cells.size:=by
   have:=congrArg List.length xK
   rw [Array.length_toList] at this
   rw [this]
   simp [hk];omega
  obtain ⟨out, h1, h2⟩ := lX r (n + 1) ((v.cells.toList.zipIdx 0).foldl (fun cs (c, j) => cs.setIfInBounds (n * k + j) c) cells) (fun u hu => hv u (List.mem_cons_of_mem _ hu))
   (by rw [hsize,hs];congr 1;omega)
  refine ⟨out,?_,?_⟩
  ·simp only [List.zipIdx_cons, List.map_cons, Instr.fill]
   rw [if_neg (by simp [hk];omega),<-Array.foldl_toList,Array.toList_zipIdx]
   exact h1
  ·rw [h2, xK]
   simp only [Nat.add_zero,List.flatMap_cons,Nat.add_mul,Nat.one_mul]
   rw [List.take_append_of_le_length (by simp [hk];omega),List.take_of_length_le (by simp [hk];omega)]
   simp
end
end Go.AM
end
section
namespace Go.AM
section
variable {P : Program} {Y : Ctx} {ι ι' : aA} {μ μ' : Mu} {H : aK} {w w' : World}
 {c1:Nat->List V->aK->(V->aK->Prop)->Prop} {c2:Nat->List V->V->Prop} {c3:C->St->(Ex->St->Prop)->Prop}
 {c4:Nat->List V->aK->(V->aK->Prop)->Prop} {c5:O->List Nat->C->C->St->(Ex->St->Prop)->Prop} {c6:C->St->(Ex->St->Prop)->Prop} {c7:GC}
theorem Inv.BI (h:Inv P Y ι μ H w) {aF:Nat} (hn:μ aF=none) (t:Ty) (fz:Bool):Inv P Y ι μ ⟨max H.next (aF+1),(aF,.arr t [] fz)::bH aF H.bl⟩ w:=by
 refine ⟨h.below,h.i0,h.iB,h.rd,h.m0,fun id hid=>h.nx id (by simp only at hid;omega),fun id B hB=>?_,?_,?_,h.gl⟩
 ·rw [aU] at hB
  split at hB
  ·rename_i e;subst e;cases hB;exact .inl ⟨rfl,hn⟩
  ·exact h.live id B hB
 ·intro id id' B B' L1 L2 h1 h2 jM hm2 e
  rw [aU] at h1 h2
  by_cases e1:id=aF<;>by_cases e2:id'=aF
  ·rw [e1,e2]
  ·subst e1;rw [hn] at jM;cases jM
  ·subst e2;rw [hn] at hm2;cases hm2
  ·rw [if_neg e1] at h1; rw [if_neg e2] at h2
   exact h.inj id id' B B' L1 L2 h1 h2 jM hm2 e
 ·intro id B hB
  rw [aU] at hB
  split at hB
  ·rename_i e;subst e;simp only;omega
  ·have:=h.lt id B hB;simp only;omega
theorem Inv.move (h : Inv P Y ι μ H w) {aF : Nat} (hn : μ aF = none) {id : Nat} {b0 b : js} (hb0 : aq id H.bl = some b0) {L L' : Loc} (hL : μ id = some L) (hLb : L'.b = L.b) (hfree : ∀ o, ι L.b o = none)
  (hos:w'.os=w.os) (FF:w'.tape=w.tape) (hout:w'.output=w.output) (OK:w'.drawn=w.drawn) (hsz:w'.heap.size=w.heap.size) (hk:∀k,k≠L.b->w'.heap[k]?=w.heap[k]?)
  (Tb:ia w.heap[L.b]? w'.heap[L.b]?) (hb:eu P Y.own ι (μ.set aF L') aF w' b):Inv P Y ι (μ.set aF L') ⟨max H.next (aF+1),(aF,b)::bH aF (bH id H.bl)⟩ w':=by
 have hold:=((h.live id b0 hb0).loc hL).1
 have hle:=Mu.gF (L:=L') hn
 have hidn:id≠aF:=fun e=>by subst e;rw [hn] at hL;cases hL
 have E8:∀{j B},j≠aF->aq j ((aF,b)::bH aF (bH id H.bl))=some B->j≠id/\aq j H.bl=some B:=fun {j B} hj hB=>by
  rw [aU,if_neg hj,bf] at hB
  split at hB
  ·cases hB
  ·rename_i e;exact ⟨e,hB⟩
 refine ⟨⟨hos.trans h.below.os, FF.trans h.below.tape, hout.trans h.below.output, by rw [hsz]; exact h.below.size, fun k hk' hx => ?_, by rw [OK]; exact h.below.dr, fun k hk' => (h.below.maps k hk').trans (by
   by_cases e:k=L.b
   ·subst e;exact Tb
   ·exact .eq (hk k e))⟩,h.i0,h.iB,fun b o x hx=>?_,Mu.le_trans h.m0 hle,fun i hid=>?_,fun i B hB=>?_,?_,?_,h.gl⟩
 ·rw [hk k (Ctx.jZ hold hk' hx)];exact h.below.block k hk' hx
 ·have := h.rd b o x hx
  have hne:b≠L.b:=fun e=>by subst e;rw [hfree] at hx;cases hx
  unfold World.cell? at this ⊢
  simp only at this ⊢
  rw [hk b hne];exact this
 ·simp only at hid
  unfold Mu.set;rw [if_neg (by omega)];exact h.nx i (by omega)
 ·by_cases e : i = aF
  ·subst e;rw [aU,if_pos rfl] at hB;cases hB;exact hb
  ·obtain ⟨h1, h2⟩ := E8 e hB
   refine (h.live i B h2).mono (aA.le_refl _) hle (fun hm=>by unfold Mu.set;rw [if_neg e];exact hm) (fun L1 OQ=>hk _ (fun e'=>h1 (h.inj i id B b0 L1 L h2 hb0 OQ hL e'))) (fun _ _ h=>h)
 ·intro i i' B B' L1 L2 h1 h2 jM hm2 e
  by_cases e1:i=aF<;>by_cases e2:i'=aF
  ·rw [e1,e2]
  ·obtain ⟨g1, g2⟩ := E8 e2 h2
   unfold Mu.set at jM hm2
   rw [if_pos e1] at jM;rw [if_neg e2] at hm2;cases jM
   exact absurd (h.inj i' id B' b0 L2 L g2 hb0 hm2 hL (by omega)) g1
  ·obtain ⟨g1, g2⟩ := E8 e1 h1
   unfold Mu.set at jM hm2
   rw [if_pos e2] at hm2;rw [if_neg e1] at jM;cases hm2
   exact absurd (h.inj i id B b0 L1 L g2 hb0 jM hL (by omega)) g1
  ·obtain ⟨g1, g2⟩ := E8 e1 h1
   obtain ⟨g3,g4⟩:=E8 e2 h2
   unfold Mu.set at jM hm2
   rw [if_neg e1] at jM;rw [if_neg e2] at hm2
   exact h.inj i i' B B' L1 L2 g2 g4 jM hm2 e
 ·intro i B hB
  by_cases e:i=aF
  ·subst e;simp only;omega
  ·obtain ⟨_, h2⟩ := E8 e hB
   have:=h.lt i B h2;simp only;omega
theorem n8 (h : Inv P Y ι μ H w) {t : Ty} {yv : V} {x : Value} {ys : List t.den} {tx e' : TypeId} (hk : P.underlying tx = some (.slice e')) (hy : elems (aZ c1 c2 c3 c4 c5 c6 c7) H.bl t yv = some ys)
  (hr:Rel ι μ yv x):∃news,Src P t.sz tx x ys.length news w/\bu (af ι t) ys news:=by
 have nil:∀a cap,Src P t.sz tx (.slice a 0 cap) 0 [] w:=fun a cap=>by
  cases a with
  |none=>exact Src.ofNil w hk cap
  |some a=>exact Src.ofSlice w hk a 0 cap [] (by simp) (fun j u h=>by simp at h) (fun u h=>by cases h)
 have ofR:∀{b o n cap:Nat} {us:List Value},w.rangeAt b o us->us.length=n * t.sz->(∀u∈us,u.oneCell'=true)->Src P t.sz tx (.slice (some ⟨b,o,none⟩) n cap) n us w:=fun Ss hl h1 =>
  Src.ofSlice w hk _ _ _ _ hl (fun j u hu=>by rw [Addr.add_mid];exact Ss j u hu) h1
 unfold elems at hy
 split at hy<;>try (cases hy;done)
 ·cases hy;cases hr;exact ⟨[],nil _ _,rfl⟩
 ·rename_i t' zs
  obtain ⟨e,hz⟩:=dh hy
  subst e;subst hz
  cases hr with
  |dS _ _ _ hd =>
   obtain ⟨a,cap,e,hle,hd⟩:=hd
   cases e
   rcases hd with rfl|⟨b,o,us,rfl,hrd,hc⟩
   ·exact ⟨[],nil a cap,rfl⟩
   ·exact ⟨us,ofR (hrd.rangeAt h.rd) (hc.length (fun _ _=>af.length)) (hc.one fun _ _=>af.one),hc⟩
 ·rename_i id t' lo n
  split at hy<;>try (cases hy;done)
  rename_i t'' zs fz hb
  split at hy<;>try (cases hy;done)
  rename_i e;subst e
  split at hy<;>try (cases hy;done)
  rename_i zs' hc
  cases hy
  obtain ⟨e,hz⟩:=dh hc
  subst e;subst hz
  cases hr with
  |bO=>exact ⟨[],by simpa using nil _ _,by simp [bu]⟩
  |sl _ _ _ _ cap L hm h1 h2 h3 =>
   rcases h.live _ _ hb with ⟨_,hn⟩|⟨L',vs,hM,hR,hl⟩
   ·rw [hn] at hm;cases hm
   ·rw [hM.mu] at hm; cases hm
    have hlen:((zs'.drop lo).take n).length=n:=by simp;omega
    have dI:=(hR.drop (fun _ _=>af.length) lo).take (fun _ _=>af.length) n
    have xL:=dI.length (fun _ _=>af.length)
    rw [hlen] at xL
    refine ⟨_,?_,dI⟩
    show Src P _ tx _ ((zs'.drop lo).take n).length _ w
    rw [hlen]
    exact ofR (dc hM.rangeAt _ _) xL (dI.one fun _ _=>af.one)
theorem dJ {e:TypeId} {k:Nat} (h:gE P e=some k):∃i z,P.info? e=some i/\i.zero=some z/\i.bytes<=iS/\z.cells.size=i.size/\i.size=k:=by
 unfold gE at h
 split at h<;>try (cases h;done)
 rename_i i hi
 split at h<;>try (cases h;done)
 rename_i z hz
 split at h<;>try (cases h;done)
 rename_i hb
 cases h
 exact ⟨i,z,hi,hz,hb.1,hb.2,rfl⟩
theorem qR (h : Inv P Y ι μ H w) {aF : Nat} (hn : μ aF = none) {t : Ty} {tt tx ty e e' : TypeId} (ht : P.underlying tt = some (.slice e)) (Su : P.underlying tx = some (.slice e')) (he : gE P e = some t.sz)
  {base:Option Addr} {n cap:Nat} {xs ys:List t.den} {olds news:List Value} (Sv:xs.length=n) (hxs:bu (af ι t) xs olds)
  (hold:(Builtin.firstCells t.sz n (.slice base n cap)).run P w.drew = .ok olds.toArray w.drew) {x:Value} (hs:Src P t.sz tx x ys.length news w) (hys:bu (af ι t) ys news)
  (hg:cap<n+ys.length) (lY:n+ys.length<bU) :
  ∃μ' v w',(Builtin.append_ #[tt,tx] ty #[.slice base n cap,x]).run P w = .ok v w'/\μ.le μ'/\(∀id,id≠aF->μ' id=μ id) /\
   Inv P Y ι μ' ⟨max H.next (aF+1),(aF,.arr t (xs++ys) false)::bH aF H.bl⟩ w'/\Rel ι μ' (.sl aF t 0 (n+ys.length)) v:=by
 obtain ⟨i,z,hi,hz,hby,hzs,hsz⟩:=dJ he
 have hfit:Builtin.nextslicecap (n+ys.length) cap * i.bytes<=281474976710656:=by
  refine growslice_fits hg (Nat.le_trans (Nat.mul_le_mul (Nat.le_of_lt lY) hby) ?_)
  unfold bU iS;decide
 have h63:((n+ys.length:Nat):Int)<=9223372036854775807:=by unfold bU at lY;omega
 rw [<-hsz] at hold hs
 have hr:=run_append_grow_src w tt tx ty e i z ht hi hz base n cap olds hold x ys.length news hs hg h63 hfit
 have dI:bu (af ι t) (xs++ys) (olds++news):=hxs.append hys
 have hl:=dI.length (fun _ _=>af.length)
 have hge:=grownCap_ge w (n+ys.length) cap e
 obtain ⟨μ', m1, m0, m2, m3⟩ := ql (aF := aF) (rest := (Builtin.zeroCells z.cells (grownCap w (n + ys.length) cap e - (n + ys.length))).toList) h.drew hn dI e (grownCap w (n + ys.length) cap e)
  (by simp [Sv]; exact hge) (by
   have OR:(Builtin.zeroCells z.cells (grownCap w (n+ys.length) cap e - (n+ys.length))).toList.length=(grownCap w (n+ys.length) cap e - (n+ys.length)) * t.sz:=by
    rw [Array.length_toList,size_zeroCells,hzs,hsz]
   rw [hl,OR,List.length_append,Sv,<-Nat.add_mul]
   exact Nat.mul_le_mul_right _ (by omega))
 refine ⟨μ',_,_,hr,m1,m0,?_,?_⟩
 ·have:(olds++news++(Builtin.zeroCells z.cells (grownCap w (n+ys.length) cap e - (n+ys.length))).toList).toArray =
    (olds++news).toArray++Builtin.zeroCells z.cells (grownCap w (n+ys.length) cap e - (n+ys.length)):=by
   apply Array.ext';simp
  rw [this] at m2;exact m2
 ·simpa [Sv] using m3
theorem vo (h : Inv P Y ι μ H w) {aF : Nat} (hn : μ aF = none) {env : List (Nat × V)} {tt tx ty e e' : TypeId} {k : Nat} {sO xO : O} {s x : Value} {ob : List Bool} {v : V} {u : cU}
  (ht:P.underlying tt=some (.slice e)) (Su:P.underlying tx=some (.slice e')) (he:gE P e=some k)
  (hs:Rel ι μ (sO.ev env) s) (hx:Rel ι μ (xO.ev env) x) (ah:cg (aZ c1 c2 c3 c4 c5 c6 c7) (.append k sO xO) env H.bl aF=some (ob,v,u)) (cE:lW ob) :
  ∃μ' y w',(Builtin.append_ #[tt,tx] ty #[s,x]).run P w = .ok y w'/\μ.le μ'/\(∀id,id≠aF->μ' id=μ id)/\Inv P Y ι μ' ⟨max H.next (aF+1),bD u H.bl⟩ w'/\Rel ι μ' v y:=by
 -- a slice with no element and no room
 have empty:∀{t:Ty} {ys:List t.den} (a:Option Addr) (bl:aj),(∀id B,aq id bl=some B->aq id H.bl=some B)->t.sz=k->elems (aZ c1 c2 c3 c4 c5 c6 c7) H.bl t (xO.ev env)=some ys->ys.length<bU ->
   ∃μ' y w',(Builtin.append_ #[tt,tx] ty #[.slice a 0 0,x]).run P w = .ok y w'/\μ.le μ'/\(∀id,id≠aF->μ' id=μ id)/\Inv P Y ι μ' ⟨max H.next (aF+1),(aF,.arr t ys false)::bH aF bl⟩ w'/\Rel ι μ' (.sl aF t 0 ys.length) y:=by
  intro t ys a bl tn hk hy lY
  subst hk
  obtain ⟨news,hsrc,dI⟩:=n8 h Su hy hx
  have hI:Inv P Y ι μ ⟨H.next,bl⟩ w:=h.sub tn
  by_cases hm:ys.length=0
  ·have : ys = [] := List.length_eq_zero_iff.1 hm
   subst this
   have hn:news=[]:=dI
   subst hn
   obtain ⟨i,z,hi,hz,hby,hzs,hsz⟩:=dJ he
   refine ⟨μ,.slice a 0 0,w,?_,Mu.le_refl _,fun _ _=>rfl,hI.BI hn t false,.bO _ _ _ a⟩
   rw [<-hsz] at hsrc
   have hlen:=hsrc.len w
   have FP:=hsrc.cells
   simp only [List.length_nil] at FP hlen
   cases a<;>simp [Builtin.append_,run_underlying ht,run_underlying Su,sizeOf,typeInfo,hi,hlen,FP,storeCells]
  ·have hf:(Builtin.firstCells t.sz 0 (.slice a 0 0)).run P w.drew = .ok ([]:List Value).toArray w.drew:=by
    cases a with
    |none=>exact run_firstCells_none _ _ _ _ _
    |some a=>exact run_firstCells_some _ _ _ _ _ _ [] (by simp) (fun j u h=>by simp at h)
   obtain ⟨μ',y,w',r1,r2,r0,r3,r4⟩:=qR (ty:=ty) hI hn ht Su he (n:=0) (xs:=[]) (ys:=ys) rfl rfl hf hsrc dI (by omega) (by omega)
   exact ⟨μ',y,w',r1,r2,r0,r3,by simpa using r4⟩
 simp only [cg] at ah
 split at ah<;>try (cases ah;done)
 ·rename_i YK
  rw [YK] at hs
  split at ah<;>try (cases ah;done)
  rename_i t E9
  split at ah<;>try (cases ah;done)
  rename_i hk
  split at ah<;>try (cases ah;done)
  rename_i ys hy
  cases ah
  cases hs with
  |bK a =>
   have lY:ys.length<bU:=by simpa using cE _ (List.mem_singleton.2 rfl)
   exact empty a H.bl (fun _ _ h=>h) hk hy lY
 ·rename_i id t lo n YK
  rw [YK] at hs
  split at ah<;>try (cases ah;done)
  rename_i hk
  split at ah<;>try (cases ah;done)
  rename_i t' xs hb
  split at ah<;>try (cases ah;done)
  rename_i e1;subst e1
  split at ah<;>try (cases ah;done)
  rename_i xs' hc
  split at ah<;>try (cases ah;done)
  rename_i ys hy
  cases ah
  obtain ⟨e1,hz⟩:=dh hc
  subst hz
  have lY:n+ys.length<bU:=by simpa using cE _ (List.mem_singleton.2 rfl)
  have Tg:∀i B,aq i (bH id H.bl)=some B->aq i H.bl=some B:=fun i B hB=>by rw [bf] at hB;split at hB<;>simp_all
  simp only [bD]
  cases hs with
  |bO _ _ _ a =>
   have:=empty a _ Tg hk hy (by omega)
   simpa using this
  |sl _ _ _ _ cap L hm h1 h2 h3 =>
   rcases h.live _ _ hb with ⟨_,hn⟩|⟨L',vs,hM,hR,hl⟩
   ·rw [hn] at hm;cases hm
   ·rw [hM.mu] at hm; cases hm
    subst hk
    obtain ⟨news,hsrc,dI⟩:=n8 h Su hy hx
    have hlen:((xs'.drop lo).take n).length=n:=by simp;omega
    have holds:=(hR.drop (fun _ _=>af.length) lo).take (fun _ _=>af.length) n
    have xL:=holds.length (fun _ _=>af.length)
    rw [hlen] at xL
    have Ss:w.rangeAt L.b (L.ba+lo * t'.sz) ((vs.drop (lo * t'.sz)).take (n * t'.sz)):=dc hM.rangeAt _ _
    by_cases hroom:n+ys.length<=cap
    ·obtain ⟨i, z, hi, hz, hby, hzs, hsz⟩ := dJ he
     have tS:=dI.length (fun _ _=>af.length)
     have hone:=dI.one (fun _ _=>af.one)
     have Th:L.ba+lo * t'.sz+n * t'.sz+news.length<=L.tot:=by
      rw [tS]
      have:lo * t'.sz+n * t'.sz+ys.length * t'.sz<=(lo+cap) * t'.sz:=by
       rw [<-Nat.add_mul,<-Nat.add_mul];exact Nat.mul_le_mul_right _ (by omega)
      omega
     have OM:w.there L.b (L.ba+lo * t'.sz+n * t'.sz) news.length:=hM.there (by omega) Th
     rw [<-hsz] at hsrc
     have hr := run_append_room_src w tt tx ty e i ht hi L.b (L.ba + lo * t'.sz) n cap x ys.length news hsrc hroom
      (fun j hj=>by rw [hsz];exact (OM j hj).1) (fun j hj=>by rw [hsz];exact (OM j hj).2)
     rw [hsz] at hr
     let L2:Loc:=⟨L.b,L.ba+lo * t'.sz,L.tot,n+ys.length⟩
     have hle:=Mu.gF (L:=L2) hn
     have iW:μ.set aF L2 aF=some L2:=by simp [Mu.set]
     refine ⟨_, _, _, hr, hle, Mu.n7, h.move hn (L' := L2) hb hM.mu rfl (hM.n4 rfl) (cI _ _ _ _).1 (cI _ _ _ _).2.1 (cI _ _ _ _).2.2.1 (cI _ _ _ _).2.2.2 (iE _ _ _ _)
      (fun k hk=>fH _ _ _ _ _ hk) (gI _ _ _ _ _) (.inr ⟨L2,(vs.drop (lo * t'.sz)).take (n * t'.sz)++news,?_,?_,?_⟩),?_⟩
     ·-- the memory: the old cells from 'lo' on, the new ones behind them
      obtain ⟨c,ec,Dc,Sw,hc3⟩:=hM.row
      have ke:=fun (j:Nat) (hj:j<news.length)=>World.cell?_setCells_in L.b news (L.ba+lo * t'.sz+n * t'.sz) w (fun j hj=>(OM j hj).1) j hj
      have hout:=fun (a:Addr) h=>World.cell?_setCells_out L.b news (L.ba+lo * t'.sz+n * t'.sz) w a h
      have hrow:∃c':Array Value,(w.setCells L.b (L.ba+lo * t'.sz+n * t'.sz) news).heap[L.b]?=some (.cells c' ec (0,0))/\c'.size=c.size:=by
       have key:∀(us:List Value) (o:Nat) (w:World) (c:Array Value),w.heap[L.b]?=some (.cells c ec (0,0))->∃c':Array Value,(w.setCells L.b o us).heap[L.b]?=some (.cells c' ec (0,0))/\c'.size=c.size:=by
        intro us
        induction us with
        |nil=>intro o w c hc;exact ⟨c,hc,rfl⟩
        |cons u us ih =>
         intro o w c hc
         obtain ⟨c',e1,e2⟩:=ih (o+1) (w.setCell ⟨L.b,o,none⟩ u) (c.setIfInBounds o u) (by simp [World.setCell,Array.getElem?_modify,hc])
         exact ⟨c',e1,by simpa using e2⟩
       exact key _ _ _ _ Dc
      obtain ⟨c',hc4,hc5⟩:=hrow
      refine ⟨iW,hM.old,⟨c',ec,hc4,by rw [hc5];exact Sw,fun j v hv=>?_⟩,by simp only [L2,List.length_append,xL];omega,?_,(fun e=>by cases e),fun _=>hM.n4 rfl⟩
      ·have hcell:(w.setCells L.b (L.ba+lo * t'.sz+n * t'.sz) news).cell? ⟨L.b,L.ba+lo * t'.sz+j,none⟩=some v:=by
        by_cases hj:j<n * t'.sz
        ·rw [List.getElem?_append_left (by omega)] at hv
         rw [hout _ (fun _ _=>.inl (by show L.ba+lo * t'.sz+j<_;omega))]
         exact Ss j v hv
        ·rw [List.getElem?_append_right (by omega), xL] at hv
         have hj2:=(List.getElem?_eq_some_iff.1 hv).1
         have:=ke (j - n * t'.sz) hj2
         rw [show L.ba+lo * t'.sz+n * t'.sz+(j - n * t'.sz)=L.ba+lo * t'.sz+j by omega] at this
         rw [this,<-hv,List.getElem?_eq_getElem hj2]
       simp [World.cell?,hc4] at hcell
       exact hcell
      ·intro v hv
       rcases List.mem_append.1 hv with hv|hv
       ·exact hM.one v (List.mem_of_mem_drop (List.mem_of_mem_take hv))
       ·exact hone v hv
     ·exact holds.append dI
     ·simp only [L2,List.length_append,hlen]
     ·have := Rel.sl (ι := ι) (μ := μ.set aF L2) aF t' 0 (n + ys.length) cap L2 iW hroom (by simp only [L2, Nat.zero_add]; have : (lo + cap) * t'.sz = lo * t'.sz + cap * t'.sz := Nat.add_mul _ _ _; omega) (by simp [L2])
      simpa [L2] using this
    ·have hf:(Builtin.firstCells t'.sz n (.slice (some ⟨L.b,L.ba+lo * t'.sz,none⟩) n cap)).run P w.drew = .ok ((vs.drop (lo * t'.sz)).take (n * t'.sz)).toArray w.drew :=
      run_firstCells_some _ _ _ _ _ _ _ xL (fun j u hu=>by rw [Addr.add_mid,World.cell?_drew];exact Ss j u hu)
     exact qR (ty:=ty) (h.sub Tg) hn ht Su he hlen holds hf hsrc dI (by omega) lY
end
end Go.AM
end
section
namespace Go.AM
section
variable {P : Program} {Y : Ctx} {ι ι' : aA} {μ μ' : Mu} {H : aK} {w w' : World}
 {c1:Nat->List V->aK->(V->aK->Prop)->Prop} {c2:Nat->List V->V->Prop} {c3:C->St->(Ex->St->Prop)->Prop}
 {c4:Nat->List V->aK->(V->aK->Prop)->Prop} {c5:O->List Nat->C->C->St->(Ex->St->Prop)->Prop} {c6:C->St->(Ex->St->Prop)->Prop} {c7:GC}
theorem ic {v:V} {b:Bool} {x:Value} (h:C9 v=some b) (hr:Rel ι μ v x):x = .bool b:=by
 cases v<;>simp [C9] at h<;>(subst h;cases hr;rfl)
theorem bY (op:BinOp) (t:TypeId) (x y:Operand) {a b:Value} (h:a ≠ .nilIface) (ha:∀cs,a ≠ .agg cs):(eqGuard op t x y a b).run P w = .ok () w:=by
 cases op<;>try rfl
 all_goals cases a<;>first|rfl|exact absurd rfl h|exact absurd rfl (ha _)
theorem JX (a b:ByteArray):xk (mM a++mM b)=a++b:=by
 have key:∀l:List UInt8,(l.map fun b=>(b.toNat:Int)).map (fun z=>UInt8.ofNat z.toNat)=l:=by
  intro l
  rw [List.map_map]
  conv=>rhs;rw [<-List.map_id l]
  exact List.map_congr_left fun b _=>by simp
 apply ByteArray.ext
 simp only [xk,mM,List.map_append,key,ByteArray.data_append]
 rw [<-List.append_toArray]
theorem tT {op : BinOp} {bo : sZ} (hb : qE op = some bo) {t : TypeId} {xo yo : Operand} {v1 v2 : V} {a b : Value} (h1 : Rel ι μ v1 a) (h2 : Rel ι μ v2 b) {x y : O} {env : List (Nat × V)}
  (hx:x.ev env=v1) (hy:y.ev env=v2) {bl:aj} {n:Nat} {ob:List Bool} {v:V} {u:cU} (ah:cg (aZ c1 c2 c3 c4 c5 c6 c7) (.bin bo x y) env bl n=some (ob,v,u)) (cE:lW ob) :
  u=[]/\∃z,(do eqGuard op t xo yo a b;binOp op t a b:Sem Value).run P w = .ok z w/\Rel ι μ v z:=by
 simp only [cg,hx,hy] at ah
 split at ah
 ·rename_i k m k' m' 
  cases h1;cases h2
  have hg:=bY (P:=P) (w:=w) op t xo yo (a:=.int k m) (b:=.int k' m') (by simp) (by simp)
  split at ah
  ·cases op <;> simp [qE] at hb
   simp only [tH] at ah
   cases ah
   have e1:=cE _ (List.mem_cons_self)
   have e2:=cE _ (List.mem_cons_of_mem _ (List.mem_cons_self))
   simp at e1
   refine ⟨rfl,.int k (m * 2 ^ m'.toNat),?_,.int _ _⟩
   have hw:=gG e2
   simp [hg,binOp,Op.shift,show ¬m'<0 by omega,Nat.min_eq_left (show m'.toNat<=k.bits by omega),hw]
  ·cases op <;> simp [qE] at hb
   simp only [tH] at ah
   cases ah
   have e1:=cE _ (List.mem_cons_self)
   simp at e1
   refine ⟨rfl,.int k (m.fdiv (2 ^ m'.toNat)),?_,.int _ _⟩
   simp [hg,binOp,Op.shift,show ¬m'<0 by omega,Nat.min_eq_left (show m'.toNat<=k.bits by omega)]
  ·split at ah <;> try (cases ah; done)
   rename_i hk;subst hk
   cases op<;>cases hb<;>simp only [zQ] at ah<;>first|(cases ah;done)|skip
   all_goals first|cases ah|(split at ah<;>cases ah)
   all_goals
    refine ⟨rfl,?_⟩
    first
     |(refine ⟨_,?_,.bool _⟩;simp [hg,binOp,Op.intCmp];done)
     |(refine ⟨_,?_,.bool _⟩;simp [hg,binOp,Op.intCmp,bne];done)
     |(refine ⟨_,?_,.int _ _⟩;simp [hg,binOp,Op.intBits];done)
     |(refine ⟨_,?_,.int _ _⟩;simp [hg,binOp,Op.intArith];done)
     |(refine ⟨_,?_,.int _ _⟩;have e1:=gG (cE _ (List.mem_singleton.2 rfl));simp [hg,binOp,Op.intArith,e1];done)
     |(refine ⟨_,?_,.int _ _⟩;have e1:=cE _ (List.mem_cons_self);have e2:=gG (cE _ (List.mem_cons_of_mem _ (List.mem_cons_self)));simp at e1;simp [hg,binOp,Op.intDiv,e1,e2];done)
     |(refine ⟨_,?_,.int _ _⟩;have e1:=cE _ (List.mem_cons_self);simp at e1;simp [hg,binOp,Op.intDiv,e1];done)
 ·rename_i s1 s2
  cases h1;cases h2
  have hg:=bY (P:=P) (w:=w) op t xo yo (a:=.string s1) (b:=.string s2) (by simp) (by simp)
  cases op<;>cases hb<;>simp only [zR] at ah<;>first|(cases ah;done)|skip
  all_goals
   cases ah
   refine ⟨rfl,?_⟩
  case h_2.str.str.add.refl.refl =>
   refine ⟨_,?_,.str _⟩
   show _=Result.ok (Value.string (xk (mM s1++mM s2))) w
   have hz:=cE _ (List.mem_singleton.2 rfl)
   have h2:((s1.size:Int)+(s2.size:Int))<=9223372036854775807:=by
    have e2:IntKind.i64.max=9223372036854775807:=by decide
    have qk:(IntKind.i64.min<=((s1.size:Int)+(s2.size:Int))/\((s1.size:Int)+(s2.size:Int))<=IntKind.i64.max):=by simpa [aZ] using hz
    rw [e2] at qk;exact qk.2
   rw [JX]
   simp [hg,binOp,Op.stringOp]
   exact h2
  all_goals
   have hor:(if Op.bytesLess s1.toList s2.toList=true then true else s1.toList==s2.toList)=(Op.bytesLess s1.toList s2.toList||s1.toList==s2.toList):=by
    cases Op.bytesLess s1.toList s2.toList<;>simp
   try rw [hor]
   refine ⟨_,?_,.bool _⟩
   simp [hg,binOp,Op.stringOp]
 ·cases ah
theorem cJ {k:Kd} {ks:List Kd} {as bs:List V} {c:Bool} (h:aI (aZ c1 c2 c3 c4 c5 c6 c7) (k::ks) as bs=some c):∃a as' b bs',as=a::as'/\bs=b::bs':=by
 cases as with
 |nil=>cases k<;>simp [aI] at h
 |cons a as =>
  cases bs with
  |nil=>cases k<;>cases a<;>simp [aI] at h
  |cons b bs=>exact ⟨a,as,b,bs,rfl,rfl⟩
theorem fS {d:Nat} {xs ys:Array Value}:∀{fs:List Field} {n:Nat} {ks:List Kd} {as bs:List V} {c:Bool},o4 P n fs=some ks->aG ι μ as (xs.toList.drop n)->aG ι μ bs (ys.toList.drop n) ->
  aI (aZ c1 c2 c3 c4 c5 c6 c7) ks as bs=some c->(Op.eqFields (d+1) xs ys fs).run P w = .ok c w
 |[],n,ks,as,bs,c,hf,ha,hb,h=>by
  cases hf
  cases as<;>cases bs<;>simp [aI] at h
  subst h;rfl
 |f::r,n,ks,as,bs,c,hf,ha,hb,h=>by
  unfold o4 at hf
  split at hf<;>try (cases hf;done)
  rename_i hn
  obtain ⟨hname,hoff⟩:=hn
  have step:∀{x y:Value} {xs' ys':List Value} {b rest:Bool} {JY:TypeDesc},P.underlying f.type=some JY->(match JY with | .struct _=>false | .array _ _=>false|_=>true)=true->xs.toList.drop n=x::xs'->ys.toList.drop n=y::ys' ->
    (Op.equalIn (d+1) f.type x y).run P w = .ok b w->(Op.eqFields (d+1) xs ys r).run P w = .ok rest w->(Op.eqFields (d+1) xs ys (f::r)).run P w = .ok (b&&rest) w:=by
   intro x y xs' ys' b rest JY hu hd hx hy he hr
   have gH:(isAgg f.type).run P w = .ok false w:=by
    unfold isAgg
    rw [Sem.run_bind,run_underlying hu w]
    cases JY<;>simp_all
   have hx0:xs[n]?=some x:=by
    have:(xs.toList.drop n)[0]?=some x:=by rw [hx];rfl
    simpa using this
   have hy0:ys[n]?=some y:=by
    have:(ys.toList.drop n)[0]?=some y:=by rw [hy];rfl
    simpa using this
   have p1:(part f.type xs f.offset).run P w = .ok x w:=by simp [part,gH,hoff,hx0]
   have p2:(part f.type ys f.offset).run P w = .ok y w:=by simp [part,gH,hoff,hy0]
   simp only [Op.eqFields,if_pos hname,Sem.run_bind,p1,p2,Result.andThen_ok,he]
   cases b<;>simp [hr]
  split at hf<;>try (cases hf;done)
  all_goals
   rename_i ks' hu hks
   cases hf
   obtain ⟨a,as',b,bs',e1,e2⟩:=cJ h
   subst e1;subst e2
   obtain ⟨x,xs',hx,Fa,Jx⟩:=ha.bF
   obtain ⟨y,ys',hy,jv,iF⟩:=hb.bF
   have FQ:aG ι μ as' (xs.toList.drop (n+1)):=by rw [<-List.drop_drop (i:=1),hx];exact Jx
   have BJ:aG ι μ bs' (ys.toList.drop (n+1)):=by rw [<-List.drop_drop (i:=1),hy];exact iF
  ·simp only [aI] at h
   split at h<;>try (cases h;done)
   rename_i p q hp hq
   split at h<;>try (cases h;done)
   rename_i rest fA
   cases h
   rw [ic hp Fa] at hx
   rw [ic hq jv] at hy
   exact step hu rfl hx hy (run_equalIn_bool' w d f.type p q hu) (fS hks FQ BJ fA)
  ·cases a <;> cases b <;> simp only [aI] at h <;> try (cases h; done)
   split at h<;>try (cases h;done)
   rename_i hkk;subst hkk
   split at h<;>try (cases h;done)
   rename_i rest fA
   cases h
   cases Fa;cases jv
   exact step hu rfl hx hy (run_equalIn_int w d f.type _ _ _ _ hu) (fS hks FQ BJ fA)
  ·cases a <;> cases b <;> simp only [aI] at h <;> try (cases h; done)
   split at h<;>try (cases h;done)
   rename_i rest fA
   cases h
   cases Fa;cases jv
   exact step hu rfl hx hy (run_equalIn_string w d f.type _ _ hu) (fS hks FQ BJ fA)
theorem dK:∀{ks ls:List Kd} {as bs:List V} {c:Bool},aI (aZ c1 c2 c3 c4 c5 c6 c7) (ks++ls) as bs=some c ->
  ∃a b,aI (aZ c1 c2 c3 c4 c5 c6 c7) ks (as.take ks.length) (bs.take ks.length)=some a/\aI (aZ c1 c2 c3 c4 c5 c6 c7) ls (as.drop ks.length) (bs.drop ks.length)=some b/\c=(a&&b)
 |[],ls,as,bs,c,h=>⟨true,c,by simp [aI],by simpa using h,rfl⟩
 |k::ks,ls,as,bs,c,h=>by
  obtain ⟨a,as',b,bs',rfl,rfl⟩:=cJ h
  rw [List.cons_append] at h
  simp only [List.length_cons,List.take_succ_cons,List.drop_succ_cons]
  cases k
  ·simp only [aI] at h
   split at h<;>try (cases h;done)
   rename_i p q hp hq
   split at h<;>try (cases h;done)
   rename_i rest hr
   cases h
   obtain ⟨x,y,h1,h2,h3⟩:=dK hr
   refine ⟨_,y,by simp only [aI,hp,hq,h1];rfl,h2,?_⟩
   subst h3;simp [aZ,Bool.and_assoc]
  ·cases a <;> cases b <;> simp only [aI] at h <;> try (cases h; done)
   split at h<;>try (cases h;done)
   rename_i hk
   split at h<;>try (cases h;done)
   rename_i rest hr
   cases h
   obtain ⟨x,y,h1,h2,h3⟩:=dK hr
   refine ⟨_,y,by simp only [aI,if_pos hk,h1];rfl,h2,?_⟩
   subst h3;simp [aZ,Bool.and_assoc]
  ·cases a <;> cases b <;> simp only [aI] at h <;> try (cases h; done)
   split at h<;>try (cases h;done)
   rename_i rest hr
   cases h
   obtain ⟨x,y,h1,h2,h3⟩:=dK hr
   refine ⟨_,y,by simp only [aI,h1];rfl,h2,?_⟩
   subst h3;simp [aZ,Bool.and_assoc]
theorem kj : ∀ {ks : List Kd} {as bs : List V} {c : Bool}, aI (aZ c1 c2 c3 c4 c5 c6 c7) ks as bs = some c → as.length = ks.length ∧ bs.length = ks.length
 |[],as,bs,c,h=>by cases as<;>cases bs<;>simp [aI] at h ⊢
 |k::ks,as,bs,c,h=>by
  obtain ⟨a,as',b,bs',rfl,rfl⟩:=cJ h
  have:∃d,aI (aZ c1 c2 c3 c4 c5 c6 c7) ks as' bs'=some d:=by
   cases k
   all_goals
    cases a<;>cases b<;>simp only [aI] at h<;>repeat (first|(cases h;done)|(split at h))
   all_goals (first|(exact ⟨_,by assumption⟩)|(cases h;done))
  obtain ⟨d,hd⟩:=this
  have:=kj hd
  simp [this.1,this.2]
theorem mW {d:Nat} {k':IntKind} {e:TypeId} {xs ys:Array Value} (he:P.underlying e=some (.int k')):∀{m n:Nat} {as bs:List V} {c:Bool},aG ι μ as (xs.toList.drop n)->aG ι μ bs (ys.toList.drop n) ->
  aI (aZ c1 c2 c3 c4 c5 c6 c7) (List.replicate m .i) as bs=some c->(Op.eqItems (d+1) e 1 xs ys (List.range' n m)).run P w = .ok c w
 |0,n,as,bs,c,ha,hb,h=>by
  cases as<;>cases bs<;>simp [aI] at h
  subst h;rfl
 |m+1,n,as,bs,c,ha,hb,h=>by
  rw [List.replicate_succ] at h
  obtain ⟨a,as',b,bs',e1,e2⟩:=cJ h
  subst e1;subst e2
  obtain ⟨x,xs',hx,Fa,Jx⟩:=ha.bF
  obtain ⟨y,ys',hy,jv,iF⟩:=hb.bF
  have FQ:aG ι μ as' (xs.toList.drop (n+1)):=by rw [<-List.drop_drop (i:=1),hx];exact Jx
  have BJ:aG ι μ bs' (ys.toList.drop (n+1)):=by rw [<-List.drop_drop (i:=1),hy];exact iF
  cases a<;>cases b<;>simp only [aI] at h<;>try (cases h;done)
  split at h<;>try (cases h;done)
  rename_i hk
  split at h<;>try (cases h;done)
  rename_i rest fA
  cases h
  cases Fa;cases jv
  have gH:(isAgg e).run P w = .ok false w:=by
   unfold isAgg
   rw [Sem.run_bind,run_underlying he w]
   rfl
  have hx0:∀{zs:Array Value} {z:Value} {zs':List Value},zs.toList.drop n=z::zs'->zs[n]?=some z:=fun {zs z zs'} h=>by
   have:(zs.toList.drop n)[0]?=some z:=by rw [h];rfl
   simpa using this
  have p1:∀{zs:Array Value} {z:Value} {zs':List Value},zs.toList.drop n=z::zs'->(part e zs (n * 1)).run P w = .ok z w:=fun {zs z zs'} h=>by
   simp [part,gH,hx0 h]
  rw [List.range'_succ]
  subst hk
  rename_i z1 z2 _
  have ih:=mW (d:=d) he FQ BJ fA
  simp only [Op.eqItems,Sem.run_bind,p1 hx,p1 hy,Result.andThen_ok,run_equalIn_int w d e _ _ _ _ he]
  show _=Result.ok (z1==z2&&rest) w
  cases hz:(z1==z2)
  ·simp
  ·simpa using ih
theorem Nz {d : Nat} {t : TypeId} {xs ys : Array Value} {ks : List Kd} {as bs : List V} {c : Bool} (ht : JO P t = some ks) (ha : aG ι μ as xs.toList) (hb : aG ι μ bs ys.toList)
  (h:aI (aZ c1 c2 c3 c4 c5 c6 c7) ks as bs=some c):(Op.equalIn (d+2) t (.agg xs) (.agg ys)).run P w = .ok c w/\∃m e i,P.underlying t=some (.array m e)/\ks=List.replicate m .i/\P.info? t=some i/\P.cellsOf t=m:=by
 unfold JO at ht
 split at ht<;>try (cases ht;done)
 rename_i m e hu
 split at ht<;>try (cases ht;done)
 rename_i k' he
 split at ht<;>try (cases ht;done)
 rename_i hc
 cases ht
 obtain ⟨h1,h2,h3,h4⟩:=hc
 obtain ⟨i,hi⟩:=Option.isSome_iff_exists.1 h2
 obtain ⟨i',hi'⟩:=Option.isSome_iff_exists.1 h3
 refine ⟨?_,m,e,i',hu,rfl,hi',h4⟩
 rw [run_equalIn_array w (d+1) xs ys hu hi,h1,List.range_eq_range']
 exact mW (d:=d) he (by simpa using ha) (by simpa using hb) h
theorem dW {d:Nat} {xs ys:Array Value}:∀{fs:List Field} {n:Nat} {ks:List Kd} {as bs:List V} {c:Bool},fF P n fs=some ks->aG ι μ as (xs.toList.drop n)->aG ι μ bs (ys.toList.drop n) ->
  aI (aZ c1 c2 c3 c4 c5 c6 c7) ks as bs=some c->(Op.eqFields (d+2) xs ys fs).run P w = .ok c w
 |[],n,ks,as,bs,c,hf,ha,hb,h=>by
  cases hf
  cases as<;>cases bs<;>simp [aI] at h
  subst h;rfl
 |f::r,n,ks,as,bs,c,hf,ha,hb,h=>by
  unfold fF at hf
  split at hf<;>try (cases hf;done)
  rename_i hn
  obtain ⟨hname,hoff⟩:=hn
  have step:∀{x y:Value} {xs' ys':List Value} {b rest:Bool} {JY:TypeDesc},P.underlying f.type=some JY->(match JY with | .struct _=>false | .array _ _=>false|_=>true)=true->xs.toList.drop n=x::xs'->ys.toList.drop n=y::ys' ->
    (Op.equalIn (d+2) f.type x y).run P w = .ok b w->(Op.eqFields (d+2) xs ys r).run P w = .ok rest w->(Op.eqFields (d+2) xs ys (f::r)).run P w = .ok (b&&rest) w:=by
   intro x y xs' ys' b rest JY hu hd hx hy he hr
   have gH:(isAgg f.type).run P w = .ok false w:=by
    unfold isAgg
    rw [Sem.run_bind,run_underlying hu w]
    cases JY<;>simp_all
   have hx0:xs[n]?=some x:=by
    have:(xs.toList.drop n)[0]?=some x:=by rw [hx];rfl
    simpa using this
   have hy0:ys[n]?=some y:=by
    have:(ys.toList.drop n)[0]?=some y:=by rw [hy];rfl
    simpa using this
   have p1:(part f.type xs f.offset).run P w = .ok x w:=by simp [part,gH,hoff,hx0]
   have p2:(part f.type ys f.offset).run P w = .ok y w:=by simp [part,gH,hoff,hy0]
   simp only [Op.eqFields,if_pos hname,Sem.run_bind,p1,p2,Result.andThen_ok,he]
   cases b<;>simp [hr]
  split at hf<;>try (cases hf;done)
  ·rename_i hu
   cases hks:fF P (n+1) r<;>rw [hks] at hf<;>simp only [Option.map_none,Option.map_some,Option.some.injEq] at hf
   ·cases hf
   rename_i ks'
   subst hf
   obtain ⟨a,as',b,bs',e1,e2⟩:=cJ h
   subst e1;subst e2
   obtain ⟨x,xs',hx,Fa,Jx⟩:=ha.bF
   obtain ⟨y,ys',hy,jv,iF⟩:=hb.bF
   have FQ:aG ι μ as' (xs.toList.drop (n+1)):=by rw [<-List.drop_drop (i:=1),hx];exact Jx
   have BJ:aG ι μ bs' (ys.toList.drop (n+1)):=by rw [<-List.drop_drop (i:=1),hy];exact iF
   simp only [aI] at h
   split at h<;>try (cases h;done)
   rename_i p q hp hq
   split at h<;>try (cases h;done)
   rename_i rest fA
   cases h
   rw [ic hp Fa] at hx
   rw [ic hq jv] at hy
   exact step hu rfl hx hy (run_equalIn_bool' w (d+1) f.type p q hu) (dW hks FQ BJ fA)
  ·rename_i hu
   cases hks:fF P (n+1) r<;>rw [hks] at hf<;>simp only [Option.map_none,Option.map_some,Option.some.injEq] at hf
   ·cases hf
   rename_i ks'
   subst hf
   obtain ⟨a,as',b,bs',e1,e2⟩:=cJ h
   subst e1;subst e2
   obtain ⟨x,xs',hx,Fa,Jx⟩:=ha.bF
   obtain ⟨y,ys',hy,jv,iF⟩:=hb.bF
   have FQ:aG ι μ as' (xs.toList.drop (n+1)):=by rw [<-List.drop_drop (i:=1),hx];exact Jx
   have BJ:aG ι μ bs' (ys.toList.drop (n+1)):=by rw [<-List.drop_drop (i:=1),hy];exact iF
   cases a<;>cases b<;>simp only [aI] at h<;>try (cases h;done)
   split at h<;>try (cases h;done)
   rename_i hkk;subst hkk
   split at h<;>try (cases h;done)
   rename_i rest fA
   cases h
   cases Fa;cases jv
   exact step hu rfl hx hy (run_equalIn_int w (d+1) f.type _ _ _ _ hu) (dW hks FQ BJ fA)
  ·rename_i hu
   cases hks:fF P (n+1) r<;>rw [hks] at hf<;>simp only [Option.map_none,Option.map_some,Option.some.injEq] at hf
   ·cases hf
   rename_i ks'
   subst hf
   obtain ⟨a,as',b,bs',e1,e2⟩:=cJ h
   subst e1;subst e2
   obtain ⟨x,xs',hx,Fa,Jx⟩:=ha.bF
   obtain ⟨y,ys',hy,jv,iF⟩:=hb.bF
   have FQ:aG ι μ as' (xs.toList.drop (n+1)):=by rw [<-List.drop_drop (i:=1),hx];exact Jx
   have BJ:aG ι μ bs' (ys.toList.drop (n+1)):=by rw [<-List.drop_drop (i:=1),hy];exact iF
   cases a<;>cases b<;>simp only [aI] at h<;>try (cases h;done)
   split at h<;>try (cases h;done)
   rename_i rest fA
   cases h
   cases Fa;cases jv
   exact step hu rfl hx hy (run_equalIn_string w (d+1) f.type _ _ hu) (dW hks FQ BJ fA)
  ·rename_i gs hu
   split at hf<;>try (cases hf;done)
   rename_i ls hls
   cases hks:fF P (n+ls.length) r<;>rw [hks] at hf<;>simp only [Option.map_none,Option.map_some,Option.some.injEq] at hf
   ·cases hf
   rename_i ks'
   subst hf
   obtain ⟨XT,YL,h1,h2,h3⟩:=dK h
   have hlen:=kj h1
   unfold Fy at hls
   rw [hu] at hls
   dsimp only at hls
   split at hls<;>try (cases hls;done)
   rename_i gk
   split at hls<;>try (cases hls;done)
   rename_i ls' hfl
   split at hls<;>try (cases hls;done)
   rename_i hsz
   cases hls
   obtain ⟨i,hi⟩:=Option.isSome_iff_exists.1 gk.2
   have gH:(isAgg f.type).run P w = .ok true w:=by
    unfold isAgg
    rw [Sem.run_bind,run_underlying hu w]
    simp
   have hsize:(sizeOf f.type).run P w = .ok ls.length w:=by rw [<-hsz];exact run_sizeOf w hi
   have p1:(part f.type xs f.offset).run P w = .ok (.agg (xs.extract n (n+ls.length))) w:=by
    simp only [part,Sem.run_bind,gH,Result.andThen_ok,if_true,hsize,hoff];rfl
   have p2:(part f.type ys f.offset).run P w = .ok (.agg (ys.extract n (n+ls.length))) w:=by
    simp only [part,Sem.run_bind,gH,Result.andThen_ok,if_true,hsize,hoff];rfl
   have hfo:P.fieldsOf f.type=gs:=by simp [Program.fieldsOf,hu]
   have ex:∀zs:Array Value,(zs.extract n (n+ls.length)).toList.drop 0=(zs.toList.drop n).take ls.length:=fun zs=>by
    rw [List.drop_zero,Array.toList_extract,List.extract_eq_take_drop];congr 1;omega
   have e0:=run_equalIn_struct (P:=P) w (d+1) f.type (xs.extract n (n+ls.length)) (ys.extract n (n+ls.length)) (by rw [hfo];exact hu) gk.1
   rw [hfo] at e0
   have e1:(Op.eqFields (d+1) (xs.extract n (n+ls.length)) (ys.extract n (n+ls.length)) gs.toList).run P w = .ok XT w:=fS (d:=d) (xs:=xs.extract n (n+ls.length)) (ys:=ys.extract n (n+ls.length)) hfl (by rw [ex];exact ha.take _) (by rw [ex];exact hb.take _) h1
   have e2:(Op.eqFields (d+2) xs ys r).run P w = .ok YL w:=dW (d:=d) (xs:=xs) (ys:=ys) hks (by rw [<-List.drop_drop];exact ha.drop _) (by rw [<-List.drop_drop];exact hb.drop _) h2
   have e3:=e0.trans e1
   subst h3
   simp only [Op.eqFields,if_pos hname,Sem.run_bind,p1,p2,Result.andThen_ok,e3]
   cases XT<;>simp [e2]
  ·rename_i hu
   split at hf<;>try (cases hf;done)
   rename_i ls hls
   cases hks:fF P (n+ls.length) r<;>rw [hks] at hf<;>simp only [Option.map_none,Option.map_some,Option.some.injEq] at hf
   ·cases hf
   rename_i ks'
   subst hf
   obtain ⟨XT,YL,h1,h2,h3⟩:=dK h
   have hlen:=kj h1
   have gH:(isAgg f.type).run P w = .ok true w:=by
    unfold isAgg
    rw [Sem.run_bind,run_underlying hu w]
    simp
   have ex:∀zs:Array Value,(zs.extract n (n+ls.length)).toList=(zs.toList.drop n).take ls.length:=fun zs=>by
    rw [Array.toList_extract,List.extract_eq_take_drop];congr 1;omega
   obtain ⟨e1,m,e,i,-,hm,hi,hsz⟩:=Nz (d:=d) (w:=w) (xs:=xs.extract n (n+ls.length)) (ys:=ys.extract n (n+ls.length)) hls (by rw [ex];exact ha.take _) (by rw [ex];exact hb.take _) h1
   have Dd:P.cellsOf f.type=ls.length:=by rw [hm,List.length_replicate];exact hsz
   have hsize:(sizeOf f.type).run P w = .ok ls.length w:=by rw [<-Dd];exact run_sizeOf w hi
   have p1:(part f.type xs f.offset).run P w = .ok (.agg (xs.extract n (n+ls.length))) w:=by
    simp only [part,Sem.run_bind,gH,Result.andThen_ok,if_true,hsize,hoff];rfl
   have p2:(part f.type ys f.offset).run P w = .ok (.agg (ys.extract n (n+ls.length))) w:=by
    simp only [part,Sem.run_bind,gH,Result.andThen_ok,if_true,hsize,hoff];rfl
   have e2:(Op.eqFields (d+2) xs ys r).run P w = .ok YL w:=dW (d:=d) (xs:=xs) (ys:=ys) hks (by rw [<-List.drop_drop];exact ha.drop _) (by rw [<-List.drop_drop];exact hb.drop _) h2
   subst h3
   simp only [Op.eqFields,if_pos hname,Sem.run_bind,p1,p2,Result.andThen_ok,e1]
   cases XT<;>simp [e2]
end
end Go.AM
end
section
namespace Go.AM
section
variable {P : Program} {Y : Ctx} {ι ι' : aA} {μ μ' : Mu} {H : aK} {w w' : World}
 {c1:Nat->List V->aK->(V->aK->Prop)->Prop} {c2:Nat->List V->V->Prop} {c3:C->St->(Ex->St->Prop)->Prop}
 {c4:Nat->List V->aK->(V->aK->Prop)->Prop} {c5:O->List Nat->C->C->St->(Ex->St->Prop)->Prop} {c6:C->St->(Ex->St->Prop)->Prop} {c7:GC}
theorem ko : ∀ {t t1 : Ty} {p : List Bool} (q : List Bool), t.mL p = some t1 → t.bx (p ++ q) = t.bx p + t1.bx q
 |t,t1,[],q,h=>by
  have:t=t1:=by cases t<;>(simp [Ty.mL] at h;exact h)
  subst this
  have h0:t.bx []=0:=by cases t<;>rfl
  simp [h0]
 | .prod a b,t1,false::p,q,h=>by simp only [Ty.mL] at h;simp only [List.cons_append,Ty.bx];exact ko q h
 | .prod a b,t1,true::p,q,h=>by simp only [Ty.mL] at h;simp only [List.cons_append,Ty.bx];rw [ko q h];omega
 | .unit,t1,b::p,q,h=>by cases b<;>simp [Ty.mL] at h
 | .bool,t1,b::p,q,h=>by cases b<;>simp [Ty.mL] at h
 | .str,t1,b::p,q,h=>by cases b<;>simp [Ty.mL] at h
 | .int k,t1,b::p,q,h=>by cases b<;>simp [Ty.mL] at h
 | .list k,t1,b::p,q,h=>by cases b<;>simp [Ty.mL] at h
 | .cn _ _ _,t1,b::p,q,h=>by cases b<;>simp [Ty.mL] at h
theorem tU {off : Nat} {path : List Bool} {x : O} {env : List (Nat × V)} {bl : aj} {n : Nat} {ob : List Bool} {v : V} {u : cU} {px : Value} (hx : Rel ι μ (x.ev env) px)
  (ah:cg (aZ c1 c2 c3 c4 c5 c6 c7) (.eY off path x) env bl n=some (ob,v,u)) (cE:lW ob):u=[]/\∃b o,px = .pointer (some ⟨b,o,none⟩)/\Rel ι μ v (.pointer (some ⟨b,o+off,none⟩)):=by
 simp only [cg] at ah
 split at ah<;>try (cases ah;done)
 ·rename_i id o cT
  rw [cT] at hx
  cases ah
  cases hx with
  |ptr _ _ L hL=>exact ⟨rfl,_,_,rfl,by rw [Nat.add_assoc];exact .ptr id (o+off) L hL⟩
 ·rename_i cs cT
  rw [cT] at hx
  split at ah<;>try (cases ah;done)
  rename_i hle
  cases ah
  cases hx with
  |bR _ b o g h1 h2 h3 =>
   refine ⟨rfl,_,_,rfl,.bR _ b (o+off) (fun i=>g (off+i)) (fun i hi=>?_) (fun i v hv=>?_) (fun i=>h3 _)⟩
   ·rw [Nat.add_assoc];exact h1 _ (by simp at hi;omega)
   ·exact h2 _ v (by simpa using hv)
 ·rename_i id t i p cT
  rw [cT] at hx
  split at ah<;>try (cases ah;done)
  rename_i t1 E7
  split at ah<;>try (cases ah;done)
  rename_i hoff
  split at ah<;>try (cases ah;done)
  cases ah
  cases hx with
  |ep _ _ _ _ L hL =>
   refine ⟨rfl,_,_,rfl,?_⟩
   have:=Rel.ep (ι:=ι) id t i (p++path) L hL
   rw [ko path E7,hoff,<-Nat.add_assoc] at this
   exact this
 ·rename_i t y cT
  rw [cT] at hx
  split at ah<;>try (cases ah;done)
  rename_i hoff
  split at ah<;>try (cases ah;done)
  rename_i t2 z FN
  cases ah
  cases hx with
  |ip _ _ b o us h1 h2 =>
   obtain ⟨g1,g2,_⟩:=mU FN h2
   rw [hoff] at g1
   exact ⟨rfl,_,_,rfl,.ip t2 z b (o+off) _ (h1.sub off t2.sz) g1⟩
 ·rename_i id t m cT
  rw [cT] at hx
  split at ah<;>try (cases ah;done)
  rename_i hoff
  cases ah
  cases hx with
  |pa _ _ _ L hL hm =>
   refine ⟨rfl,_,_,rfl,?_⟩
   have:=Rel.ep (ι:=ι) id t (off / t.sz) [] L hL
   have h0:t.bx []=0:=by cases t<;>rfl
   rw [h0,Nat.add_zero,hoff.1] at this
   exact this
 ·rename_i t xs cT
  rw [cT] at hx
  split at ah<;>try (cases ah;done)
  rename_i hoff
  cases ah
  have hi:off / t.sz<xs.length:=by simpa using cE _ (List.mem_singleton.2 rfl)
  cases hx with
  |iN _ _ b o us h1 h2 =>
   have zZ:xs[off / t.sz]?=some (xs.getD (off / t.sz) t.zero):=by simp [List.getD,hi]
   have hc:=h2.at (fun _ _=>af.length) zZ
   rw [hoff] at hc
   exact ⟨rfl,_,_,rfl,.ip t _ b (o+off) _ (h1.sub off t.sz) hc⟩
 ·rename_i id o l cT
  rw [cT] at hx
  cases ah
  cases hx with
  |sp _ _ _ L hL hb =>
   refine ⟨rfl,_,_,rfl,?_⟩
   have:=Rel.sp (ι:=ι) id (o+off) l L hL hb
   have e:L.ba+(o+off+iR l)=L.ba+(o+iR l)+off:=by omega
   rwa [e] at this
theorem De {dw : Nat} {x i : O} {env : List (Nat × V)} {bl : aj} {n : Nat} {ob : List Bool} {v : V} {u : cU} {px iv : Value} (hx : Rel ι μ (x.ev env) px) (hi : Rel ι μ (i.ev env) iv)
  (ah:cg (aZ c1 c2 c3 c4 c5 c6 c7) (.idx dw x i) env bl n=some (ob,v,u)) (cE:lW ob) :
  u=[]/\∃k m b o len cap,iv = .int k m/\px = .slice (some ⟨b,o,none⟩) len cap/\0<=m/\m<len/\Rel ι μ v (.pointer (some ⟨b,o+m.toNat * dw,none⟩)):=by
 simp only [cg] at ah
 split at ah<;>try (cases ah;done)
 rename_i k m Df
 rw [Df] at hi
 cases hi
 split at ah<;>try (cases ah;done)
 ·rename_i id t lo len cT
  rw [cT] at hx
  split at ah<;>try (cases ah;done)
  rename_i hsz
  cases ah
  have hb:=cE _ (List.mem_singleton.2 rfl)
  simp only [decide_eq_true_eq] at hb
  have jv:m<(len:Int):=hb.2
  cases hx with
  |bO=>omega
  |sl _ _ _ _ cap L hL h1 h2 h3 =>
   refine ⟨rfl,k,m,_,_,_,_,rfl,rfl,hb.1,jv,?_⟩
   have:=Rel.ep (ι:=ι) id t (lo+m.toNat) [] L hL
   have h0:t.bx []=0:=by cases t<;>rfl
   rw [h0,Nat.add_mul,Nat.add_zero,<-Nat.add_assoc,hsz] at this
   rw [hsz];exact this
 ·rename_i t xs cT
  rw [cT] at hx
  split at ah<;>try (cases ah;done)
  rename_i hsz
  cases ah
  have hb:=cE _ (List.mem_singleton.2 rfl)
  simp only [decide_eq_true_eq] at hb
  have jv:m<(xs.length:Int):=hb.2
  cases hx with
  |dS _ _ _ hd =>
   obtain ⟨a,cap,e,hle,hd⟩:=hd
   cases e
   rcases hd with rfl|⟨b,o,us,rfl,hrd,hc⟩
   ·simp at jv;omega
   ·have zZ : xs[m.toNat]? = some (xs.getD m.toNat t.zero) := by simp [List.getD, show m.toNat < xs.length by omega]
    have hcell:=hc.at (fun _ _=>af.length) zZ
    refine ⟨rfl,k,m,_,_,_,_,rfl,rfl,hb.1,jv,?_⟩
    rw [<-hsz]
    exact .ip t _ b _ _ (hrd.sub (m.toNat * t.sz) t.sz) hcell
theorem qS {k : IntKind} : ∀ {a z : Int} {vs : List V} {xs : List Value}, fO (aZ c1 c2 c3 c4 c5 c6 c7) true k a vs = some z → aG ι μ vs xs → (xs.foldlM Builtin.max2 (.int k a)).run P w = .ok (.int k z) w
 |a,z,[],xs,h,hr=>by cases h;rw [hr.of_nil];rfl
 |a,z,v::r,xs,h,hr=>by
  obtain ⟨x,xs',rfl,h1,h2⟩:=hr.bF
  cases v<;>simp only [fO] at h<;>try (cases h;done)
  split at h<;>try (cases h;done)
  rename_i hk;subst hk
  cases h1
  simp only [List.foldlM_cons,Builtin.max2,Sem.run_bind,Sem.run_pure,Result.andThen_ok]
  exact qS h h2
theorem qT {k : IntKind} : ∀ {a z : Int} {vs : List V} {xs : List Value}, fO (aZ c1 c2 c3 c4 c5 c6 c7) false k a vs = some z → aG ι μ vs xs → (xs.foldlM Builtin.min2 (.int k a)).run P w = .ok (.int k z) w
 |a,z,[],xs,h,hr=>by cases h;rw [hr.of_nil];rfl
 |a,z,v::r,xs,h,hr=>by
  obtain ⟨x,xs',rfl,h1,h2⟩:=hr.bF
  cases v<;>simp only [fO] at h<;>try (cases h;done)
  split at h<;>try (cases h;done)
  rename_i hk;subst hk
  cases h1
  simp only [List.foldlM_cons,Builtin.min2,Sem.run_bind,Sem.run_pure,Result.andThen_ok]
  exact qT h h2
theorem kV {t:Ty} {v:Value} (h:tN t v=true):af ι t t.zero [v]:=by
 unfold tN at h
 split at h<;>try (cases h;done)
 ·simp at h;subst h;rfl
 ·rename_i s
  have:s=ByteArray.empty:=ByteArray.size_eq_zero_iff.1 (by simpa using h)
  subst this;rfl
 ·simp at h;obtain ⟨rfl,rfl⟩:=h;rfl
 ·exact ⟨none,0,rfl,Nat.le_refl _,.inl rfl⟩
theorem eC : ∀ {t : Ty} {vs r : List Value}, dH t vs = some r → ∃ us, vs = us ++ r ∧ af ι t t.zero us
 | .unit,vs,r,h=>by cases h;exact ⟨[],rfl,rfl⟩
 | .bool,vs,r,h=>by
  cases vs<;>simp [dH] at h
  obtain ⟨h,rfl⟩:=h;exact ⟨[_],rfl,kV h⟩
 | .str,vs,r,h=>by
  cases vs<;>simp [dH] at h
  obtain ⟨h,rfl⟩:=h;exact ⟨[_],rfl,kV h⟩
 | .int k,vs,r,h=>by
  cases vs<;>simp [dH] at h
  obtain ⟨h,rfl⟩:=h;exact ⟨[_],rfl,kV h⟩
 | .list t,vs,r,h=>by
  cases vs<;>simp [dH] at h
  obtain ⟨h,rfl⟩:=h;exact ⟨[_],rfl,kV h⟩
 | .prod a b,vs,r,h=>by
  simp only [dH] at h
  split at h<;>try (cases h;done)
  rename_i r1 h1
  obtain ⟨us,rfl,hu⟩:=eC h1
  obtain ⟨ws,rfl,hw⟩:=eC h
  exact ⟨us++ws,by simp,us,ws,rfl,hu,hw⟩
 | .cn _ _ _,vs,r,h=>by cases vs<;>simp [dH] at h
end
end Go.AM
end
