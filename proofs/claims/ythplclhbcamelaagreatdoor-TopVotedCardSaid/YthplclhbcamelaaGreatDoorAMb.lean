/- Each operation of the small machine is the model's: slices of slices; the sum. Each operation of the small machine is the model's: the sum. The small machine's code is the model's: what is said of calls, loops and rounds; a region's items. The small machine's code is the model's: sequences, tests, blocks, loops. A function's contract: data in, data out. A function's contract out of its code. States that stand for as much: at a loop's head. Calls of functions whose contract speaks of data. A region whose order is drawn: what an item does depends on little, and items that have nothing to do with each other change places. A drawn region's trace: its items in the canonical order, and each brought to the front where nothing forbids it. -/
import Derived.Test.YthplclhbcamelaaGreatDoorAMa
import Derived.MapKept
import Derived.WideKeyRuns
import Derived.Laws.IdiomCopy
import Derived.Laws.BytesString
set_option linter.unusedSectionVars false
set_option linter.unusedVariables false
set_option linter.unusedSimpArgs false
section
namespace Go.AM
section
variable {P : Program} {Y : Ctx} {ι ι' : aB} {μ μ' : Mu} {H : aO} {w w' : World}
 {c1:Nat->List V->aO->(V->aO->Prop)->Prop} {c2:Nat->List V->V->Prop} {c3:C->St->(Ex->St->Prop)->Prop}
 {c4:Nat->List V->aO->(V->aO->Prop)->Prop} {c5:O->List Nat->C->C->St->(Ex->St->Prop)->Prop} {c6:C->St->(Ex->St->Prop)->Prop} {c7:GC}
theorem Fg {v:V} {z:Int} {x:Value} (h:qe v=some z) (hr:Rel ι μ v x):∃k,x = .int k z:=by
 cases v<;>simp [qe] at h
 subst h;cases hr;exact ⟨_,rfl⟩
theorem dw {env:List (Nat×V)} {a:Act} (he:fS ι μ env a.tmps) {d z:Int} {o:Option O} {oo:Option Operand} (ht:AX oo=some o) (h:cV env d o=some z) :
  (oo=none/\z=d)\/∃x k,oo=some x/\a.eval x = .int k z:=by
 cases oo with
 |none=>cases ht;simp [cV] at h;exact .inl ⟨rfl,h.symm⟩
 |some x =>
  simp only [AX] at ht
  cases hx:dY x with
  |none=>simp [hx] at ht
  |some y =>
   simp [hx] at ht;subst ht
   simp only [cV] at h
   obtain ⟨k,hk⟩:=Fg h (aK he hx)
   exact .inr ⟨x,k,rfl,hk⟩
theorem C1 {env : List (Nat × V)} {a : Act} (he : fS ι μ env a.tmps) {t e : TypeId} {eZ : Nat} (ht : P.underlying t = some (.slice e)) (hsz : dA P e = some eZ) {x : O} {px : Value} (hx : Rel ι μ (x.ev env) px)
  {lo hi mx:Option O} {lo' hi' NQ:Option Operand} (h1:AX lo'=some lo) (h2:AX hi'=some hi) (h3:AX NQ=some mx) {bl:ai} {n:Nat} {ob:List Bool} {v:V} {u:dU}
  (aj:de (bM c1 c2 c3 c4 c5 c6 c7) (.slice eZ x lo hi mx) env bl n=some (ob,v,u)) (cX:qm ob) :
  u=[]/\∃y,(Instr.sliceAt t px (lo'.map a.eval) (hi'.map a.eval) (NQ.map a.eval)).run P w = .ok y w/\Rel ι μ v y:=by
 have hsize:∀w:World,(sizeOf e).run P w = .ok eZ w:=fun w=>by
  unfold dA at hsz
  cases hq:P.info? e with
  |none=>simp [hq] at hsz
  |some i=>simp [hq] at hsz;subst hsz;simp [sizeOf,typeInfo,hq]
 -- the run, between bounds
 have run:∀(base:Option Addr) (len cap:Nat) (l h:Nat),(∃z:Int,z.toNat=l/\0<=z/\((lo'=none/\z=0)\/∃x k,lo'=some x/\a.eval x = .int k z)) ->
   (∃z:Int,z.toNat=h/\0<=z/\((hi'=none/\z=len)\/∃x k,hi'=some x/\a.eval x = .int k z))->l<=h->h<=len->len<=cap->NQ=none ->
   (Instr.sliceAt t (.slice base len cap) (lo'.map a.eval) (hi'.map a.eval) (NQ.map a.eval)).run P w = .ok (.slice (if cap=l then base else base.map (·.add (l * eZ))) (h - l) (cap - l)) w:=by
  intro base len cap l h hl hh hlh hhl hlc hm
  subst hm
  obtain ⟨zl,rfl,hl0,hl⟩:=hl
  obtain ⟨zh,rfl,hh0,hh⟩:=hh
  simp only [Instr.sliceAt,Instr.slice,Sem.run_bind,run_underlying ht,Result.andThen_ok,Instr.sliceBounds]
  rcases hl with ⟨rfl,rfl⟩|⟨xl,kl,rfl,hl⟩<;>rcases hh with ⟨rfl,rfl⟩|⟨xh,kh,rfl,hh⟩
  ·simp [hsize]
  ·have q1 : zh ≤ (cap : Int) := by omega
   simp [hsize,hh,Instr.sliceBound,asIntOf,hh0,q1]
  ·have q1 : zl ≤ (len : Int) := by omega
   simp [hsize,hl,Instr.sliceBound,asIntOf,hl0,q1]
  ·have q1 : zh ≤ (cap : Int) := by omega
   have q2:zl<=zh:=by omega
   simp [hsize,hl,hh,Instr.sliceBound,asIntOf,hl0,hh0,q1,q2]
   intro hc;omega
 simp only [de] at aj
 split at aj
 ·rename_i mO
  split at aj<;>try (cases aj;done)
  rename_i hO
  split at aj<;>try (cases aj;done)
  rename_i za zb zc W3 W4 W2
  -- the run with a bound on the capacity: nothing is left
  have fin:∀(base:Option Addr) (len cap:Nat),za=0->zb=0->zc=0->(Instr.sliceAt t (.slice base len cap) (lo'.map a.eval) (hi'.map a.eval) (NQ.map a.eval)).run P w = .ok (.slice base 0 0) w:=by
   intro base len cap e1 e2 e3
   subst e1;subst e2;subst e3
   have g1:=dw he (d:=0) h1 W2
   have g2:∃x k,hi'=some x/\a.eval x = .int k 0:=by
    rcases dw he (d:=1) h2 (z:=0) (by simpa [cV] using W4) with ⟨e,e'⟩|h
    ·cases e'
    ·exact h
   have g3:∃x k,NQ=some x/\a.eval x = .int k 0:=by
    rcases dw he (d:=1) h3 (z:=0) (by simpa [cV] using W3) with ⟨e,e'⟩|h
    ·cases e'
    ·exact h
   obtain ⟨xh,kh,rfl,hh⟩:=g2
   obtain ⟨xm,km,rfl,hm⟩:=g3
   simp only [Instr.sliceAt,Instr.slice,Sem.run_bind,run_underlying ht,Result.andThen_ok,Instr.sliceBounds]
   rcases g1 with ⟨rfl,_⟩|⟨xl,kl,rfl,hl⟩
   ·simp [hsize,hh,hm,Instr.sliceBound,asIntOf]
   ·simp [hsize,hh,hm,hl,Instr.sliceBound,asIntOf]
  have fin2:∀(base:Option Addr) (len cap:Nat),zc=0->za=zb->za=Int.ofNat len->len<=cap->∃b',(Instr.sliceAt t (.slice base len cap) (lo'.map a.eval) (hi'.map a.eval) (NQ.map a.eval)).run P w = .ok (.slice b' len len) w/\(b'=base\/b'=base.map (·.add 0)):=by
   intro base len cap e3 e2 e1 hlc
   subst e3;subst e2;subst e1
   have g1:=dw he (d:=0) h1 W2
   have g2:∃x k,hi'=some x/\a.eval x = .int k (Int.ofNat len):=by
    rcases dw he (d:=Int.ofNat len+1) h2 (z:=Int.ofNat len) (by simpa [cV] using W4) with ⟨e,e'⟩|h
    ·omega
    ·exact h
   have g3:∃x k,NQ=some x/\a.eval x = .int k (Int.ofNat len):=by
    rcases dw he (d:=Int.ofNat len+1) h3 (z:=Int.ofNat len) (by simpa [cV] using W3) with ⟨e,e'⟩|h
    ·omega
    ·exact h
   obtain ⟨xh,kh,rfl,hh⟩:=g2
   obtain ⟨xm,km,rfl,hm⟩:=g3
   simp only [Instr.sliceAt,Instr.slice,Sem.run_bind,run_underlying ht,Result.andThen_ok,Instr.sliceBounds]
   have q1:(len:Int)<=(cap:Int):=by omega
   rcases g1 with ⟨rfl,_⟩|⟨xl,kl,rfl,hl⟩
   ·refine ⟨if len = 0 then base else base.map (·.add 0), ?_, ?_⟩
    ·simp [hsize,hh,hm,Instr.sliceBound,asIntOf,q1]
    ·split<;>simp
   ·refine ⟨if len = 0 then base else base.map (·.add 0), ?_, ?_⟩
    ·simp [hsize,hh,hm,hl,Instr.sliceBound,asIntOf,q1]
    ·split<;>simp
  have obs:ob=[za==0,zb==0,zc==0]->za=0/\zb=0/\zc=0:=fun e=>by
   subst e
   have e1:=cX _ (List.mem_cons_self)
   have e2:=cX _ (List.mem_cons_of_mem _ (List.mem_cons_self))
   have e3:=cX _ (List.mem_cons_of_mem _ (List.mem_cons_of_mem _ (List.mem_cons_self)))
   simp at e1 e2 e3;exact ⟨e1,e2,e3⟩
  split at aj<;>try (cases aj;done)
  ·rename_i t0 xs eF; rw [eF] at hx
   cases aj
   have e1:=cX _ (List.mem_cons_self)
   have e2:=cX _ (List.mem_cons_of_mem _ (List.mem_cons_self))
   have e3:=cX _ (List.mem_cons_of_mem _ (List.mem_cons_of_mem _ (List.mem_cons_self)))
   have e1:zc=0:=by simpa using e1
   have e2:za=zb:=by simpa using e2
   have e3:za=Int.ofNat xs.length:=by simpa using e3
   cases hx with
   |eG _ _ _ hd =>
    obtain ⟨b,cap,e,hlc,hd⟩:=hd
    cases e
    obtain ⟨b',hrun,hb'⟩:=fin2 b xs.length cap e1 e2 e3 hlc
    refine ⟨rfl,_,hrun,.kO _ _ _ ?_⟩
    rcases hb' with rfl|rfl
    ·exact hd
    ·refine hd.imp id fun ⟨bb, o, us, ha, hr, hc⟩ => ⟨bb, o, us, ?_, hr, hc⟩
     subst ha;simp [Addr.add]
  ·rename_i eF; rw [eF] at hx
   cases aj
   obtain ⟨e1,e2,e3⟩:=obs rfl
   cases hx with
   |bA=>exact ⟨rfl,_,fin _ _ _ e1 e2 e3,.bA⟩
 ·have Ky:NQ=none:=by
   cases NQ with
   |none=>rfl
   |some q=>simp only [AX] at h3;cases hq:dY q<;>simp [hq] at h3
  split at aj<;>try (cases aj;done)
  ·rename_i id te l len eF
   rw [eF] at hx
   split at aj<;>try (cases aj;done)
   rename_i SU
   split at aj<;>try (cases aj;done)
   rename_i za zb W3 W4
   cases aj
   have e1:=cX _ (List.mem_cons_self)
   have e2:=cX _ (List.mem_cons_of_mem _ (List.mem_cons_self))
   have e3:=cX _ (List.mem_cons_of_mem _ (List.mem_cons_of_mem _ (List.mem_cons_self)))
   simp only [decide_eq_true_eq] at e1 e2 e3
   have Yk:zb<=(len:Int):=e3
   have g1:=dw he h1 W3
   have g2:=dw he h2 W4
   refine ⟨rfl,?_⟩
   cases hx with
   |cg _ _ _ base =>
    refine ⟨_,run base 0 0 za.toNat zb.toNat ⟨za,rfl,e1,g1⟩ ⟨zb,rfl,by omega,g2⟩ (by omega) (by omega) (by omega) Ky,?_⟩
    have ha:za.toNat=0:=by omega
    have hb:zb.toNat=0:=by omega
    simp only [ha,hb,Nat.sub_self,if_true]
    exact .cg _ _ _ _
   |sl _ _ _ _ cap L hL q1 q2 q3 =>
    refine ⟨_,run _ len cap za.toNat zb.toNat ⟨za,rfl,e1,g1⟩ ⟨zb,rfl,by omega,g2⟩ (by omega) (by omega) q1 Ky,?_⟩
    by_cases hc:cap=za.toNat
    ·rw [if_pos hc, show zb.toNat - za.toNat = 0 by omega, show cap - za.toNat = 0 by omega]
     exact .cg _ _ _ _
    ·rw [if_neg hc]
     have := Rel.sl (ι := ι) id te (l + za.toNat) (zb.toNat - za.toNat) (cap - za.toNat) L hL (by omega)
      (by rw [show l+za.toNat+(cap - za.toNat)=l+cap by omega];exact q2) (by omega)
     simp only [Option.map_some,Addr.add_mid]
     rw [Nat.add_mul,<-Nat.add_assoc,SU] at this
     rw [SU];exact this
  ·rename_i te xs eF
   rw [eF] at hx
   split at aj<;>try (cases aj;done)
   rename_i SU
   split at aj<;>try (cases aj;done)
   rename_i za zb W3 W4
   cases aj
   have e1:=cX _ (List.mem_cons_self)
   have e2:=cX _ (List.mem_cons_of_mem _ (List.mem_cons_self))
   have e3:=cX _ (List.mem_cons_of_mem _ (List.mem_cons_of_mem _ (List.mem_cons_self)))
   simp only [decide_eq_true_eq] at e1 e2 e3
   have Yk:zb<=(xs.length:Int):=e3
   have g1:=dw he h1 W3
   have g2:=dw he h2 W4
   refine ⟨rfl,?_⟩
   cases hx with
   |eG _ _ _ hd =>
    obtain ⟨base,cap,e,hle,hd⟩:=hd
    cases e
    refine ⟨_,run base xs.length cap za.toNat zb.toNat ⟨za,rfl,e1,g1⟩ ⟨zb,rfl,by omega,g2⟩ (by omega) (by omega) hle Ky,?_⟩
    have hlen:((xs.drop za.toNat).take (zb.toNat - za.toNat)).length=zb.toNat - za.toNat:=by simp;omega
    refine .eG _ _ _ ⟨_,_,by rw [hlen],by omega,?_⟩
    by_cases hz:zb.toNat - za.toNat=0
    ·left;rw [hz];simp
    ·right
     rcases hd with rfl|⟨b,o,us,rfl,hrd,hc⟩
     ·simp at Yk;omega
     ·rw [if_neg (by omega)]
      refine ⟨b,o+za.toNat * eZ,(us.drop (za.toNat * te.sz)).take ((zb.toNat - za.toNat) * te.sz),by simp [Addr.add_mid],?_,?_⟩
      ·rw [<-SU];exact hrd.sub _ _
      ·exact (hc.drop (fun _ _=>ak.length) _).take (fun _ _=>ak.length) _
  ·rename_i eF
   rw [eF] at hx
   split at aj<;>try (cases aj;done)
   rename_i za zb W3 W4
   cases aj
   have e1:=cX _ (List.mem_cons_self)
   have e2:=cX _ (List.mem_cons_of_mem _ (List.mem_cons_self))
   have EY:za=0:=by simpa using e1
   have e2':zb=0:=by simpa using e2
   subst EY;subst e2'
   have g1:=dw he h1 W3
   have g2:=dw he h2 W4
   cases hx with
   |bA =>
    refine ⟨rfl,_,run none 0 0 0 0 ⟨0,rfl,by omega,g1⟩ ⟨0,rfl,by omega,by simpa using g2⟩ (by omega) (by omega) (by omega) Ky,?_⟩
    exact .bA
theorem zF {k : IntKind} : ∀ {cs : List V} {zs : List Int}, Hl k cs = some zs → zs.length = cs.length ∧ ∀ (j : Nat) v, cs[j]? = some v → v = .int k (zs.getD j 0)
 |[],zs,h=>by cases h;exact ⟨rfl,fun j v hv=>by simp at hv⟩
 |v::r,zs,h=>by
  cases v<;>simp only [Hl] at h<;>try (cases h;done)
  split at h<;>try (cases h;done)
  rename_i e;subst e
  split at h<;>try (cases h;done)
  rename_i ys hy
  cases h
  obtain ⟨h1,h2⟩:=zF hy
  exact ⟨by simp [h1],fun j v hv=>by
   cases j with
   |zero=>simp at hv;subst hv;rfl
   |succ j=>simpa using h2 j v (by simpa using hv)⟩
theorem NR {e:TypeId} {k:Nat} {g:Bool} (hk:dA P e=some k) (hg:sZ P e=some g) {xa:Array Value} {off:Nat} {y:Value} (hoff:off+k<=xa.size) (hy:iJ g ((xa.toList.drop off).take k)=some y) :
  (part e xa off).run P w = .ok y w:=by
 have hsz:∀w:World,(sizeOf e).run P w = .ok k w:=by
  unfold dA at hk
  cases hq:P.info? e with
  |none=>simp [hq] at hk
  |some i=>simp [hq] at hk;subst hk;exact fun w=>by simp [sizeOf,typeInfo,hq]
 have jF:∀w:World,(isAgg e).run P w = .ok g w:=by
  intro w
  unfold sZ at hg
  split at hg
  ·rename_i hu;cases hg;unfold isAgg;rw [Sem.run_bind,run_underlying hu w];rfl
  ·rename_i hu;cases hg;unfold isAgg;rw [Sem.run_bind,run_underlying hu w];rfl
  ·rename_i d h1 h2 hu
   cases hg;unfold isAgg;rw [Sem.run_bind,run_underlying hu w]
   cases d<;>simp_all
  ·cases hg
 cases g with
 |true =>
  cases hy
  have:(List.take k (List.drop off xa.toList)).toArray=xa.extract off (off+k):=by
   apply Array.ext';simp [List.extract_eq_take_drop]
  simp [part,jF,hsz,this]
 |false =>
  have hl:List.take k (List.drop off xa.toList)=[y]:=by
   match h0:List.take k (List.drop off xa.toList),hy with
   |[c],hy=>cases hy;rfl
   |[],hy=>cases hy
   |_::_::_,hy=>cases hy
  have hc:xa[off]?=some y:=by
   have h0:(List.take k (List.drop off xa.toList))[0]?=some y:=by rw [hl];rfl
   rw [List.getElem?_take] at h0
   split at h0
   ·simpa using h0
   ·cases h0
  simp [part,jF,hc]
theorem C2 {t e : TypeId} {n k : Nat} {g : Bool} (hu : P.underlying t = some (.array n e)) (hk : dA P e = some k) (hg : sZ P e = some g) {va vi : V} {a ix : Value} (ha : Rel ι μ va a) (hi : Rel ι μ vi ix) {bl : ai} {aM : Nat}
  {ob:List Bool} {v:V} {u:dU} (aj:kV (bM c1 c2 c3 c4 c5 c6 c7) (.Nn n k g) [va,vi] bl aM=some (ob,v,u)) (cX:qm ob):u=[]/\∃y,(Instr.index t a ix).run P w = .ok y w/\Rel ι μ v y:=by
 have hsz:∀w:World,(sizeOf e).run P w = .ok k w:=by
  unfold dA at hk
  cases hq:P.info? e with
  |none=>simp [hq] at hk
  |some i=>simp [hq] at hk;subst hk;exact fun w=>by simp [sizeOf,typeInfo,hq]
 simp only [kV] at aj
 split at aj<;>try (cases aj;done)
 rename_i cs kk i heq
 simp only [List.cons.injEq,and_true] at heq
 obtain ⟨rfl,rfl⟩:=heq
 cases hi
 cases ha with
 |agg _ xa p1 p2 p3 =>
 have hR:aR ι μ cs xa.toList:=⟨by simpa using p1,fun i v x hv hx=>p2 i v x hv (by simpa using hx)⟩
 split at aj<;>try (cases aj;done)
 rename_i hlen
 have hlen:=Nat.eq_of_beq_eq_true hlen
 have hxs:xa.size=n * k:=by rw [<-p1];exact hlen
 have fin:∀{m:Nat} {y:Value} {ws:List V} {v:V},m<n->aR ι μ ws ((xa.toList.drop (m * k)).take k)->fQ g ws=some v->i=(m:Int)->∃y,(Instr.index t (.agg xa) (.int kk i)).run P w = .ok y w/\Rel ι μ v y:=by
  intro m y ws v hm hr hw hi
  subst hi
  obtain ⟨y,hy,hv⟩:=tj hw hr (fun u hu=>p3 u (List.mem_of_mem_drop (List.mem_of_mem_take hu)))
  have hmk:m * k+k<=xa.size:=by
   rw [hxs]
   have:=Nat.mul_le_mul_right k (show m+1<=n from hm)
   rwa [Nat.add_mul,Nat.one_mul] at this
  refine ⟨y,?_,hv⟩
  have h2:(m:Int)<(n:Int):=by omega
  simp [Instr.index,asIntOf,run_underlying hu,hm,hsz,NR hk hg hmk hy]
 split at aj
 ·rename_i k0 z r _
  split at aj<;>try (cases aj;done)
  rename_i zs hzs
  split at aj<;>try (cases aj;done)
  rename_i v' hw
  cases aj
  have hb:=cX _ (List.mem_singleton.2 rfl)
  simp only [decide_eq_true_eq] at hb
  obtain ⟨q1,q2⟩:=zF hzs
  have kP:i.toNat<n:=by have:=hb.2;simp at this;omega
  refine ⟨rfl,fin (m:=i.toNat) (y:=undef) kP ?_ hw (by omega)⟩
  have hmk:i.toNat * k+k<=n * k:=by
   have:=Nat.mul_le_mul_right k (show i.toNat+1<=n from kP)
   rwa [Nat.add_mul,Nat.one_mul] at this
  refine ⟨by simp [SD];omega,fun m v x hv hx=>?_⟩
  have hm:m<k:=by have:=(List.getElem?_eq_some_iff.1 hv).1;simpa [SD] using this
  have hv2:v = .int k0 (zs.getD (i.toNat * k+m) 0):=by
   simp only [SD,List.getElem?_map,List.getElem?_range hm,Option.map_some,Option.some.injEq] at hv
   rw [<-hv]
   simp only [colZ,List.getD_eq_getElem?_getD,List.getElem?_map,List.getElem?_range kP,Option.map_some,Option.getD_some]
  have hj:i.toNat * k+m<(V.int k0 z::r).length:=by rw [hlen];omega
  have Yl:xa.toList[i.toNat * k+m]?=some x:=by
   rw [List.getElem?_take,if_pos hm,List.getElem?_drop] at hx
   exact hx
  have h1:=q2 (i.toNat * k+m) _ (List.getElem?_eq_getElem hj)
  have h2:=hR.2 (i.toNat * k+m) _ x (List.getElem?_eq_getElem hj) Yl
  rw [h1] at h2
  rw [hv2];exact h2
 ·split at aj <;> try (cases aj; done)
  rename_i m
  split at aj<;>try (cases aj;done)
  rename_i hm
  split at aj<;>try (cases aj;done)
  rename_i ws wj
  split at aj<;>try (cases aj;done)
  rename_i v' hw
  cases aj
  obtain ⟨r1,r2,r3⟩:=hR.rz wj
  exact ⟨rfl,fin (m:=m) (y:=undef) hm r1 hw rfl⟩
theorem C3 {t : TypeId} (hu : P.underlying t = some .string) {va vi : V} {a ix : Value} (ha : Rel ι μ va a) (hi : Rel ι μ vi ix) {bl : ai} {aM : Nat}
  {ob:List Bool} {v:V} {u:dU} (aj:kV (bM c1 c2 c3 c4 c5 c6 c7) .vS [va,vi] bl aM=some (ob,v,u)) (cX:qm ob):u=[]/\∃y,(Instr.index t a ix).run P w = .ok y w/\Rel ι μ v y:=by
 simp only [kV] at aj
 split at aj<;>try (cases aj;done)
 rename_i s kk i heq
 simp only [List.cons.injEq,and_true] at heq
 obtain ⟨rfl,rfl⟩:=heq
 cases ha;cases hi
 cases aj
 have hb:=cX _ (List.mem_singleton.2 rfl)
 simp only [decide_eq_true_eq] at hb
 have h2:i.toNat<s.size:=by omega
 refine ⟨rfl,.int .u8 ((s[i.toNat]'h2).toNat),?_,?_⟩
 ·rw [run_index_string w t s kk i hu,dif_pos hb]
 ·have:E6 s i.toNat=((s[i.toNat]'h2).toNat:Int):=by
   have h3:i.toNat<s.data.toList.length:=by simpa using h2
   simp only [E6,nM,List.getD_eq_getElem?_getD,List.getElem?_map,List.getElem?_eq_getElem h3,Option.map_some,Option.getD_some]
   rfl
  show Rel ι μ (.int .u8 (E6 s i.toNat)) _
  rw [this];exact .int _ _
theorem C4 {t e : TypeId} (hu : P.underlying t = some (.slice e)) {op : BinOp} {neg : Bool} (hop : jL op = some neg) {xo yo : Operand} {va : V} {a : Value} (ha : Rel ι μ va a) {bl : ai} {aM : Nat} {ob : List Bool} {v : V} {u : dU}
  (aj:kV (bM c1 c2 c3 c4 c5 c6 c7) (.Np neg) [va] bl aM=some (ob,v,u)) :
  u=[]/\∃y,(do eqGuard op t xo yo a (.slice none 0 0);binOp op t a (.slice none 0 0):Sem Value).run P w = .ok y w/\Rel ι μ v y:=by
 have hd:∀(d:Nat) (a0:Option Addr) (n c:Nat),(Op.equalIn (d+1) t (.slice a0 n c) (.slice none 0 0)).run P w = .ok a0.isNone w:=fun d a0 n c=>by
  cases a0<;>simp [Op.equalIn,run_underlying hu]
 have key:∀(a0:Option Addr) (n c:Nat),(Op.equal t (.slice a0 n c) (.slice none 0 0)).run P w = .ok a0.isNone w:=fun a0 n c=>hd 9999 a0 n c
 have fin:∀(a0:Option Addr) (n c:Nat) (cc:Bool),neg=false->(a0.isNone=true->cc=true)->∃y,(do eqGuard op t xo yo (.slice a0 n c) (.slice none 0 0);binOp op t (.slice a0 n c) (.slice none 0 0):Sem Value).run P w = .ok y w/\Rel ι μ (.cb cc) y:=fun a0 n c cc hn hc=>by
  subst hn
  cases op<;>simp [jL] at hop
  have hg:=cE (P:=P) (w:=w) .eql t xo yo (a:=.slice a0 n c) (b:=.slice none 0 0) (by simp) (by simp)
  exact ⟨.bool a0.isNone,by simp only [Sem.run_bind,hg,Result.andThen_ok,binOp,key];rfl,.cb _ _ hc⟩
 simp only [kV] at aj
 split at aj<;>try (cases aj;done)
 ·rename_i heq
  simp only [List.cons.injEq,and_true] at heq
  subst heq
  cases aj
  cases ha with
  |bA =>
   refine ⟨rfl,?_⟩
   cases neg with
   |false =>
    cases op<;>simp [jL] at hop
    have hg:=cE (P:=P) (w:=w) .eql t xo yo (a:=.slice none 0 0) (b:=.slice none 0 0) (by simp) (by simp)
    exact ⟨.bool true,by simp only [Sem.run_bind,hg,Result.andThen_ok,binOp,key];rfl,.tf _⟩
   |true =>
    cases op<;>simp [jL] at hop
    have hg:=cE (P:=P) (w:=w) .neq t xo yo (a:=.slice none 0 0) (b:=.slice none 0 0) (by simp) (by simp)
    exact ⟨.bool false,by simp only [Sem.run_bind,hg,Result.andThen_ok,binOp,key];rfl,.tf _⟩
 ·rename_i id t' lo n heq
  simp only [List.cons.injEq,and_true] at heq
  subst heq
  split at aj<;>try (cases aj;done)
  cases aj
  cases ha with
  |sl=>exact ⟨rfl,fin _ _ _ _ rfl (fun h=>by cases h)⟩
  |cg=>exact ⟨rfl,fin _ _ _ _ rfl (fun _=>rfl)⟩
 ·rename_i t' xs heq
  simp only [List.cons.injEq,and_true] at heq
  subst heq
  split at aj<;>try (cases aj;done)
  cases aj
  cases ha with
  |eG _ _ _ hd =>
   obtain ⟨a0,cap,e',hle,hx⟩:=hd
   cases e'
   refine ⟨rfl,fin _ _ _ _ rfl (fun h=>?_)⟩
   rcases hx with rfl|⟨b,o,us,rfl,_⟩
   ·rfl
   ·cases h
theorem A8 {t k e : TypeId} (hu : P.underlying t = some (.map k e)) {op : BinOp} {neg : Bool} (hop : jL op = some neg) {xo yo : Operand} {va : V} {a : Value} (ha : Rel ι μ va a) {bl : ai} {aM : Nat} {ob : List Bool} {v : V} {u : dU}
  (aj:kV (bM c1 c2 c3 c4 c5 c6 c7) (.E3 neg) [va] bl aM=some (ob,v,u)) :
  u=[]/\∃y,(do eqGuard op t xo yo a (.map none);binOp op t a (.map none):Sem Value).run P w = .ok y w/\Rel ι μ v y:=by
 have fin:∀(r:Option Nat) (b:Bool),b=(if neg then !r.isNone else r.isNone)->∃y,(do eqGuard op t xo yo (.map r) (.map none);binOp op t (.map r) (.map none):Sem Value).run P w = .ok y w/\Rel ι μ (.tf b) y:=fun r b hb=>by
  have hd:∀d:Nat,(Op.equalIn (d+1) t (.map r) (.map none)).run P w = .ok r.isNone w:=fun d=>by
   cases r<;>simp [Op.equalIn,run_underlying hu]
  have key:(Op.equal t (.map r) (.map none)).run P w = .ok r.isNone w:=hd 9999
  have hg:=cE (P:=P) (w:=w) op t xo yo (a:=.map r) (b:=.map none) (by simp) (by simp)
  subst hb
  cases op<;>simp [jL] at hop<;>subst hop
  ·exact ⟨.bool r.isNone,by simp only [Sem.run_bind,hg,Result.andThen_ok,binOp,key];rfl,.tf _⟩
  ·exact ⟨.bool (!r.isNone),by simp only [Sem.run_bind,hg,Result.andThen_ok,binOp,key];rfl,.tf _⟩
 simp only [kV] at aj
 split at aj<;>try (cases aj;done)
 ·rename_i id heq
  simp only [List.cons.injEq,and_true] at heq
  subst heq
  cases aj
  cases ha with
  |mp _ L hL=>exact ⟨rfl,fin _ _ (by cases neg<;>rfl)⟩
 ·rename_i heq
  simp only [List.cons.injEq,and_true] at heq
  subst heq
  cases aj
  cases ha
  exact ⟨rfl,fin _ _ (by cases neg<;>rfl)⟩
theorem A9 {t e : TypeId} (hu : P.underlying t = some (.pointer e)) {op : BinOp} {neg : Bool} (hop : jL op = some neg) {xo yo : Operand} {va : V} {a : Value} (ha : Rel ι μ va a) {bl : ai} {aM : Nat} {ob : List Bool} {v : V} {u : dU}
  (aj:kV (bM c1 c2 c3 c4 c5 c6 c7) (.E4 neg) [va] bl aM=some (ob,v,u)) :
  u=[]/\∃y,(do eqGuard op t xo yo a (.pointer none);binOp op t a (.pointer none):Sem Value).run P w = .ok y w/\Rel ι μ v y:=by
 have fin:∀(r:Option Addr) (b:Bool),b=(if neg then !r.isNone else r.isNone)->∃y,(do eqGuard op t xo yo (.pointer r) (.pointer none);binOp op t (.pointer r) (.pointer none):Sem Value).run P w = .ok y w/\Rel ι μ (.tf b) y:=fun r b hb=>by
  have hd:∀d:Nat,(Op.equalIn (d+1) t (.pointer r) (.pointer none)).run P w = .ok r.isNone w:=fun d=>by
   cases r<;>simp [Op.equalIn,run_underlying hu]
  have key:(Op.equal t (.pointer r) (.pointer none)).run P w = .ok r.isNone w:=hd 9999
  have hg:=cE (P:=P) (w:=w) op t xo yo (a:=.pointer r) (b:=.pointer none) (by simp) (by simp)
  subst hb
  cases op<;>simp [jL] at hop<;>subst hop
  ·exact ⟨.bool r.isNone,by simp only [Sem.run_bind,hg,Result.andThen_ok,binOp,key];rfl,.tf _⟩
  ·exact ⟨.bool (!r.isNone),by simp only [Sem.run_bind,hg,Result.andThen_ok,binOp,key];rfl,.tf _⟩
 simp only [kV] at aj
 split at aj<;>try (cases aj;done)
 ·rename_i id off heq
  simp only [List.cons.injEq,and_true] at heq
  subst heq
  cases aj
  cases ha with
  |ptr _ _ L hL=>exact ⟨rfl,fin _ _ (by cases neg<;>rfl)⟩
 ·rename_i heq
  simp only [List.cons.injEq,and_true] at heq
  subst heq
  cases aj
  cases ha
  exact ⟨rfl,fin _ _ (by cases neg<;>rfl)⟩
theorem Inv.HG {bl : ai} {n id : Nat} {L : Loc} {B B' : jE} (h : Inv P Y ι μ ⟨n, bl⟩ w) (hb : aq id bl = some B) (hL : μ id = some L) {o o' : Obj} (ho : w.heap[L.b]? = some o) (hnc : ∀ c e f, o ≠ .cells c e f) (hmg : kW (some o) (some o'))
  (hnew:fT P Y.own ι μ id (w.putObj L.b o') B'):Inv P Y ι μ ⟨n,(id,B')::cB id bl⟩ (w.putObj L.b o'):=by
 have hold:Y.own L.b:=((h.live id _ hb).loc hL).1
 have dG:∀k,k≠L.b->(w.putObj L.b o').heap[k]?=w.heap[k]?:=fun k hk=>World.putObj_heap_other hk
 refine ⟨⟨h.below.os, h.below.tape, h.below.output, by rw [World.putObj_size]; exact h.below.size, fun k hk hx => ?_, h.below.dr, fun k hk => (h.below.maps k hk).trans (by
   by_cases e:k=L.b
   ·subst e;rw [ho,World.putObj_heap_same (Array.getElem?_eq_some_iff.1 ho).1];exact hmg
   ·exact .eq (dG k e))⟩,h.i0,h.iB,fun b o2 x hx=>?_,h.m0,h.nx,fun i B2 hB=>?_,fun i i' B1 B2 L1 L2 kP iw=>?_,fun i B2 hB=>?_,h.gl⟩
 ·rw [dG k (Ctx.mV hold hk hx)];exact h.below.block k hk hx
 ·have := h.rd b o2 x hx
  have hne:b≠L.b:=fun e=>by
   subst e
   cases o<;>simp [World.cell?,ho] at this
   exact hnc _ _ _ rfl
  unfold World.cell? at this ⊢
  simp only at this ⊢
  rw [dG b hne];exact this
 ·simp only at hB
  rw [bx] at hB
  split at hB
  ·rename_i e;subst e;cases hB;exact hnew
  ·rename_i e
   refine (h.live i B2 hB).mono (aB.le_refl _) (Mu.le_refl _) (fun h=>h) (fun L' hL'=>dG _ (fun e'=>e (h.inj i id B2 _ L' L hB hb hL' hL e'))) (fun _ _ h=>h)
 ·simp only at kP iw
  rw [bx] at kP iw
  have hx:∀j Bj,(if j=id then some B' else aq j bl)=some Bj->∃Bj',aq j bl=some Bj':=fun j Bj hj=>by
   split at hj
   ·rename_i e;subst e;exact ⟨_,hb⟩
   ·exact ⟨_,hj⟩
  obtain ⟨_,q1⟩:=hx _ _ kP
  obtain ⟨_,q2⟩:=hx _ _ iw
  exact h.inj i i' _ _ L1 L2 q1 q2
 ·simp only at hB
  rw [bx] at hB
  split at hB
  ·rename_i e;subst e;exact h.lt _ _ hb
  ·exact h.lt _ _ hB
theorem gG.rel {g:Bool} {t:Ty} {x:t.den} {v:Value} (h:gG ι g t x v):Rel ι μ (dL.jl g (dL t x)) v:=by
 obtain ⟨xs,h1,h2⟩:=h
 exact zw h2 (fE h1) (ak.one h1)
theorem tq {t:Ty} {g:Bool} {v:V} {x:t.den} {z:Value} (h:keyOf (bM c1 c2 c3 c4 c5 c6 c7) t g v=some x) (hr:Rel ι μ v z):gG ι g t x z:=by
 unfold keyOf at h
 split at h<;>try (cases h;done)
 rename_i cs hun
 split at h<;>try (cases h;done)
 rename_i x0 ho
 cases h
 obtain ⟨zs,r1,r2⟩:=CT hun hr
 obtain ⟨_,f1⟩:=jq ho r1
 obtain ⟨us,ws,e1,hd,yS⟩:=f1 ι (aB.le_refl _) (fun _ _ _ hm=>by cases hm)
 rw [yS.of_nil,List.append_nil] at e1
 exact ⟨zs,by rw [e1];exact hd,r2⟩
theorem wB (a b:ByteArray):(a==b)=(a.data.toList==b.data.toList):=by
 obtain ⟨x⟩:=a
 obtain ⟨y⟩:=b
 show (x==y)=(x.toList==y.toList)
 rw [Bool.eq_iff_iff]
 simp [Array.toList_inj]
theorem mb : ∀ (t : Ty) (a b : t.den), fO t a b = fO t b a
 | .unit,_,_=>rfl
 | .bool,a,b=>by cases a<;>cases b<;>rfl
 | .str,a,b=>by
  simp only [fO]
  rw [Bool.eq_iff_iff];simp only [beq_iff_eq];exact ⟨Eq.symm,Eq.symm⟩
 | .int _,a,b=>by
  simp only [fO]
  rw [Bool.eq_iff_iff];simp only [beq_iff_eq];exact ⟨Eq.symm,Eq.symm⟩
 | .list _,_,_=>rfl
 | .prod s t,x,y=>by simp only [fO,mb s x.1 y.1,mb t x.2 y.2]
 | .bU _ _ t,x,y=>mb t x y
theorem di : ∀ {t : Ty} {a b : t.den}, fO t a b = true → a = b
 | .unit,_,_,_=>rfl
 | .bool,a,b,h=>by simpa [fO] using h
 | .str,a,b,h=>by
  simp only [fO,beq_iff_eq] at h
  obtain ⟨a⟩:=a
  obtain ⟨b⟩:=b
  simp [Array.toList_inj] at h
  rw [h]
 | .int _,a,b,h=>by simpa [fO] using h
 | .list _,_,_,h=>by simp [fO] at h
 | .prod s t,x,y,h=>by
  simp only [fO,Bool.and_eq_true] at h
  exact Prod.ext (di h.1) (di h.2)
 | .bU _ _ t,x,y,h=>di (t:=t) h
section
variable {t:Ty} {β:Type} {es es':List (t.den×β)} {x:t.den}
theorem tr (h:es.Perm es'):bT t es x=bT t es' x:=by
 unfold bT
 rw [Bool.eq_iff_iff]
 simp only [List.any_eq_true,h.mem_iff]
theorem zG (h:bT t es x=false) {e:t.den×β} (he:e∈es):fO t x e.1=false:=by
 unfold bT at h
 have:=List.any_eq_false.1 h e he
 simpa using this
theorem jX {d : β} : ∀ {es : List (t.den × β)}, bT t es x = false → aN t d es x = d
 |[],_=>rfl
 |e::r,h=>by
  have h1:=zG h (List.mem_cons_self ..)
  simp only [aN,h1,Bool.false_eq_true,if_false]
  refine jX ?_
  simpa [bT,h1] using h
theorem kY {d : β} : ∀ {es : List (t.den × β)}, KD t es → ∀ {e : t.den × β}, e ∈ es → fO t x e.1 = true → aN t d es x = e.2
 |[],_,_,h,_=>by cases h
 |a::r,hd,e,he,hx=>by
  unfold KD at hd
  rw [List.pairwise_cons] at hd
  rcases List.mem_cons.1 he with rfl|he
  ·simp [aN,hx]
  ·have:fO t x a.1=false:=by
    cases h:fO t x a.1 with
    |false=>rfl
    |true =>
     have e1:=di h
     subst e1
     have:=hd.1 e he
     rw [hx] at this;cases this
   simp only [aN,this,Bool.false_eq_true,if_false]
   exact kY hd.2 he hx
theorem KA {d:β} (h:es.Perm es') (hd:KD t es) (hd':KD t es'):aN t d es x=aN t d es' x:=by
 cases hm:bT t es x with
 |false=>rw [jX hm,jX (by rw [<-tr h];exact hm)]
 |true =>
  unfold bT at hm
  obtain ⟨e,he,hx⟩:=List.any_eq_true.1 hm
  rw [kY hd he hx,kY hd' (h.mem_iff.1 he) hx]
theorem KD.perm (h:es.Perm es') (hd:KD t es):KD t es':=by
 unfold KD at *
 exact (h.pairwise_iff (fun {a b} h=>by rw [mb];exact h)).1 hd
theorem mc {v : β} : ∀ {es : List (t.den × β)}, (Hj t es x v).Perm ((x, v) :: es)
 |[]=>.refl _
 |e::r=>by
  unfold Hj
  split
  ·exact .refl _
  ·exact (mc.cons e).trans (.swap _ _ _)
theorem zH {v:β} (h:es.Perm es'):(bh t es x v).Perm (bh t es' x v):=by
 unfold bh
 rw [<-tr h]
 split
 ·exact h.map _
 ·exact mc.trans ((h.cons _).trans mc.symm)
theorem rH {v:β} (h:bT t es x=false):(es++[(x,v)]).Perm (bh t es x v):=by
 unfold bh
 rw [h,if_neg (by simp)]
 exact List.perm_append_comm.trans mc.symm
theorem HH {v:β} (hd:KD t es) {j:Nat} {e:t.den×β} (he:es[j]?=some e) (hx:fO t x e.1=true):es.set j (x,v)=bh t es x v:=by
 unfold bh
 rw [if_pos (by unfold bT;exact List.any_eq_true.2 ⟨e,List.mem_of_getElem? he,hx⟩)]
 apply List.ext_getElem?
 intro i
 rw [List.getElem?_set,List.getElem?_map]
 split
 ·rename_i hij; subst hij
  rw [if_pos (List.getElem?_eq_some_iff.1 he).1,he]
  simp [hx]
 ·rename_i hij
  cases hi:es[i]? with
  |none=>rfl
  |some e' =>
   have hne:fO t x e'.1=false:=by
    cases h:fO t x e'.1 with
    |false=>rfl
    |true =>
     have e1:=di hx
     subst e1
     obtain ⟨hj,q1⟩:=List.getElem?_eq_some_iff.1 he
     obtain ⟨hi',q2⟩:=List.getElem?_eq_some_iff.1 hi
     have hp:=List.pairwise_iff_getElem.1 hd
     rcases Nat.lt_or_gt_of_ne hij with h1|h1
     ·have := hp j i hj hi' h1
      rw [q1,q2,h] at this;cases this
     ·have := hp i j hi' hj h1
      rw [q1,q2,mb,h] at this;cases this
   simp [hne]
theorem KD.fM {v:β} (hd:KD t es):KD t (bh t es x v):=by
 cases hm:bT t es x with
 |false =>
  refine KD.perm (rH hm) ?_
  unfold KD
  rw [List.pairwise_append]
  refine ⟨hd,by simp,fun a ha b hb=>?_⟩
  rw [List.mem_singleton] at hb;subst hb
  rw [mb]
  exact zG hm ha
 |true =>
  unfold bh
  rw [hm,if_pos rfl]
  unfold KD
  rw [List.pairwise_map]
  refine List.Pairwise.imp ?_ hd
  intro a b h
  split<;>split
  ·rename_i h1 h2
   have e1:=di h1
   have e2:=di h2
   rw [<-e1,<-e2] at h
   rw [<-e1] at h1;rw [h] at h1;cases h1
  ·rename_i h1 h2
   have e1:=di h1
   rw [<-e1] at h;exact h
  ·rename_i h1 h2
   have e1:=di h2
   rw [<-e1] at h;exact h
  ·exact h
end
theorem kZ:∀{k1 k2:List Kd} {a1 a2 b1 b2:List V} {p q:Bool},bf (bM c1 c2 c3 c4 c5 c6 c7) k1 a1 b1=some p->bf (bM c1 c2 c3 c4 c5 c6 c7) k2 a2 b2=some q ->
  bf (bM c1 c2 c3 c4 c5 c6 c7) (k1++k2) (a1++a2) (b1++b2)=some (p&&q)
 |[],k2,a1,a2,b1,b2,p,q,h1,h2=>by
  cases a1<;>cases b1<;>simp [bf] at h1
  subst h1
  simpa using h2
 |k::k1,k2,as,a2,bs,b2,p,q,h1,h2=>by
  obtain ⟨a,as,b,bs,rfl,rfl⟩:=ei h1
  simp only [List.cons_append]
  cases k
  ·simp only [bf] at h1 ⊢
   split at h1<;>try (cases h1;done)
   rename_i u v hu hv
   split at h1<;>try (cases h1;done)
   rename_i r hr
   cases h1
   rw [kZ hr h2]
   simp [Bool.and_assoc]
  ·cases a <;> cases b <;> simp only [bf] at h1 <;> try (cases h1; done)
   split at h1<;>try (cases h1;done)
   rename_i hk
   split at h1<;>try (cases h1;done)
   rename_i r hr
   cases h1
   simp only [bf,if_pos hk]
   rw [kZ hr h2]
   simp [Bool.and_assoc]
  ·cases a <;> cases b <;> simp only [bf] at h1 <;> try (cases h1; done)
   split at h1<;>try (cases h1;done)
   rename_i r hr
   cases h1
   simp only [bf]
   rw [kZ hr h2]
   simp [Bool.and_assoc]
theorem k5 : ∀ {t : Ty} {ks : List Kd} (x y : t.den), l5 t = some ks → bf (bM c1 c2 c3 c4 c5 c6 c7) ks (dL t x) (dL t y) = some (fO t x y)
 | .unit,ks,x,y,h=>by cases h;rfl
 | .bool,ks,x,y,h=>by cases h;simp [dL,bf,Ko,fO]
 | .str,ks,x,y,h=>by cases h;simp [dL,bf,fO,ByteArray.toList_eq]
 | .int k,ks,x,y,h=>by cases h;simp [dL,bf,fO]
 | .list _,ks,x,y,h=>by cases h
 | .bU _ _ _,ks,x,y,h=>by cases h
 | .prod a b,ks,x,y,h=>by
  simp only [l5] at h
  split at h<;>try (cases h;done)
  rename_i k1 k2 h1 h2
  cases h
  simp only [dL,fO]
  exact kZ (k5 x.1 y.1 h1) (k5 x.2 y.2 h2)
theorem hH {ι ι' : aB} : ∀ {t : Ty} {ks : List Kd} {x : t.den} {vs : List Value}, l5 t = some ks → ak ι t x vs → (∀ y ws, ak ι' t y ws → x = y → ws = vs) ∧ ∀ v ∈ vs, ∀ n, Instr.sameBits n v v = true
 | .unit,ks,x,vs,h,hc=>by
  simp only [ak] at hc;subst hc
  exact ⟨fun y ws hw _=>by simpa [ak] using hw,by simp⟩
 | .bool,ks,x,vs,h,hc=>by
  simp only [ak] at hc;subst hc
  refine ⟨fun y ws hw e=>by simp only [ak] at hw;rw [hw,e],fun v hv n=>?_⟩
  rw [List.mem_singleton] at hv;subst hv;cases n<;>simp [Instr.sameBits]
 | .str,ks,x,vs,h,hc=>by
  simp only [ak] at hc;subst hc
  refine ⟨fun y ws hw e=>by simp only [ak] at hw;rw [hw,e],fun v hv n=>?_⟩
  rw [List.mem_singleton] at hv;subst hv;cases n<;>simp [Instr.sameBits,wB]
 | .int k,ks,x,vs,h,hc=>by
  simp only [ak] at hc;subst hc
  refine ⟨fun y ws hw e=>by simp only [ak] at hw;rw [hw,e],fun v hv n=>?_⟩
  rw [List.mem_singleton] at hv;subst hv;cases n<;>simp [Instr.sameBits]
 | .list _,ks,x,vs,h,hc=>by cases h
 | .bU _ _ _,ks,x,vs,h,hc=>by cases h
 | .prod a b,ks,x,vs,h,hc=>by
  simp only [l5] at h
  split at h<;>try (cases h;done)
  rename_i k1 k2 h1 h2
  obtain ⟨us,ws,rfl,d1,d2⟩:=hc
  obtain ⟨p1,p2⟩:=hH (ι':=ι') h1 d1
  obtain ⟨q1,q2⟩:=hH (ι':=ι') h2 d2
  refine ⟨fun y vs hv e=>?_,fun v hv n=>?_⟩
  ·obtain ⟨us', ws', rfl, d1', d2'⟩ := hv
   rw [p1 _ _ d1' (by rw [e]),q1 _ _ d2' (by rw [e])]
  ·rcases List.mem_append.1 hv with hv | hv
   ·exact p2 v hv n
   ·exact q2 v hv n
theorem rI {em:Bool} {n:Nat} {xs:Array Value}:∀{fs:List Field} {k:Nat} {ks:List Kd},pP P k fs=some ks->k+ks.length<=xs.size ->
  (forIn (m:=Sem) fs PUnit.unit (fun f (_:PUnit) =>
   if f.name ≠ "_" then part f.type xs f.offset >>= fun p=>Instr.checkKey em (n+1) f.type p >>= fun _=>pure (ForInStep.yield PUnit.unit)
   else pure (ForInStep.yield PUnit.unit))).run P w = .ok PUnit.unit w
 |[],k,ks,h,hl=>by simp
 |f::r,k,ks,h,hl=>by
  unfold pP at h
  split at h<;>try (cases h;done)
  rename_i hn
  obtain ⟨hname,hoff⟩:=hn
  have step:∀{d:TypeDesc} {ks':List Kd},P.underlying f.type=some d->(match d with | .struct _=>false | .array _ _=>false | .interface _=>false|_=>true)=true->pP P (k+1) r=some ks'->ks.length=ks'.length+1 ->
    (forIn (m:=Sem) (f::r) PUnit.unit (fun f (_:PUnit) =>
     if f.name ≠ "_" then part f.type xs f.offset >>= fun p=>Instr.checkKey em (n+1) f.type p >>= fun _=>pure (ForInStep.yield PUnit.unit)
     else pure (ForInStep.yield PUnit.unit))).run P w = .ok PUnit.unit w:=by
   intro d ks' hu hd hks hl'
   have jF:(isAgg f.type).run P w = .ok false w:=by
    unfold isAgg
    rw [Sem.run_bind,run_underlying hu w]
    cases d<;>simp_all
   obtain ⟨x,hx⟩:∃x,xs[k]?=some x:=⟨xs[k],Array.getElem?_eq_getElem (by omega)⟩
   have p1:(part f.type xs f.offset).run P w = .ok x w:=by simp [part,jF,hoff,hx]
   have p2:(Instr.checkKey em (n+1) f.type x).run P w = .ok () w:=by
    unfold Instr.checkKey
    rw [Sem.run_bind,run_underlying hu w]
    cases d<;>first|(cases hd;done)|simp
   have ih:=rI (em:=em) (n:=n) (xs:=xs) hks (by omega)
   simp only [List.forIn_cons,Sem.run_bind,if_pos hname,p1,p2,Result.andThen_ok,Sem.run_pure]
   exact ih
  split at h<;>try (cases h;done)
  all_goals
   rename_i ks' hu hks
   cases h
   exact step hu rfl hks rfl
theorem wC {em:Bool} {n:Nat} {e:TypeId} {k':IntKind} {xs:Array Value} (he:P.underlying e=some (.int k')) (hs:(sizeOf e).run P w = .ok 1 w):∀(m lo:Nat),lo+m<=xs.size ->
  (forIn (m:=Sem) (List.range' lo m) PUnit.unit (fun i (_:PUnit)=>sizeOf e >>= fun s=>part e xs (i * s) >>= fun p=>Instr.checkKey em (n+1) e p >>= fun _=>pure (ForInStep.yield PUnit.unit))).run P w = .ok PUnit.unit w
 |0,lo,_=>by simp
 |m+1,lo,h=>by
  have jF:(isAgg e).run P w = .ok false w:=by
   unfold isAgg
   rw [Sem.run_bind,run_underlying he w]
   rfl
  obtain ⟨x,hx⟩:∃x,xs[lo]?=some x:=⟨xs[lo],Array.getElem?_eq_getElem (by omega)⟩
  have p1:(part e xs (lo * 1)).run P w = .ok x w:=by simp [part,jF,hx]
  have p2:(Instr.checkKey em (n+1) e x).run P w = .ok () w:=by
   unfold Instr.checkKey
   rw [Sem.run_bind,run_underlying he w]
   simp
  have ih:=wC (em:=em) (n:=n) (xs:=xs) he hs m (lo+1) (by omega)
  rw [List.range'_succ]
  simp only [List.forIn_cons,Sem.run_bind,hs,p1,p2,Result.andThen_ok,Sem.run_pure]
  exact ih
theorem abW {fs:List Field}:∀{n:Nat} {ks:List Kd},pP P n fs=some ks->ks.length=fs.length:=by
 induction fs with
 |nil=>intro n ks h;cases h;rfl
 |cons f r ih =>
  intro n ks h
  unfold pP at h
  split at h<;>try (cases h;done)
  split at h<;>try (cases h;done)
  all_goals
   rename_i hks
   cases h
   simp [ih hks]
theorem oZ : ∀ {t : Ty} {ks : List Kd}, l5 t = some ks → t.sz = ks.length
 | .unit,ks,h=>by cases h;rfl
 | .bool,ks,h=>by cases h;rfl
 | .str,ks,h=>by cases h;rfl
 | .int k,ks,h=>by cases h;rfl
 | .list _,ks,h=>by cases h
 | .bU _ _ _,ks,h=>by cases h
 | .prod a b,ks,h=>by
  simp only [l5] at h
  split at h<;>try (cases h;done)
  rename_i k1 k2 h1 h2
  cases h
  simp [Ty.sz,oZ h1,oZ h2]
structure Ba (P:Program) (k:TypeId) (kt:Ty) (kg:Bool) (ι:aB) (w:World) (x:kt.den) (z:Value):Prop where
 check:∀em,(Instr.checkKey em 10000 k z).run P w = .ok () w
 stays:(Instr.keyThatStays z z).run P w = .ok z w
 same:∀{y:kt.den} {z':Value},gG ι kg kt y z'->fO kt x y=true->z'=z
 find:∃A:List MapEntry->Nat->Option (Nat×Value)->Prop,(∀ms o,A ms 0 o->(Instr.findKey k z ms).run P w = .ok o w)/\(∀i,A [] i none) /\
  (∀m r i y,gG ι kg kt y m.key->fO kt x y=true->A (m::r) i (some (i,m.val)))/\∀m r i y o,gG ι kg kt y m.key->fO kt x y=false->A r (i+1) o->A (m::r) i o
theorem zI {k:TypeId} {kt:Ty} {kg:Bool} (h:vU P k=some (kt,kg)) {x:kt.den} {z:Value} (hz:gG ι kg kt x z):Ba P k kt kg ι w x z:=by
 unfold vU at h
 split at h<;>try (cases h;done)
 ·rename_i i hu
  cases h
  obtain ⟨xs,h1,h2⟩:=hz
  cases h1;cases h2
  have hk:MapKept.IsKey (.int i) (.int i x):=rfl
  have q:∀{y:(Ty.int i).den} {z':Value},gG ι false (.int i) y z'->Instr.sameNow (.int i) (.int i x) z'=some (fO (.int i) x y):=fun {y z'} ql=>by
   obtain ⟨ys,h3,h4⟩:=ql
   cases h3;cases h4
   simp [Instr.sameNow,fO]
  refine ⟨fun em=>MapKept.run_checkKey hu hk em 9999,MapKept.run_keyThatStays hk,fun {y z'} ql e=>?_,fun ms i' o=>Instr.findNow (.int i) (.int i x) ms i'=some o,fun ms o h=>MapKept.run_findKey hu h,fun _=>rfl,fun m r i' y hy e=>?_,fun m r i' y o hy e h=>?_⟩
  ·obtain ⟨ys, h3, h4⟩ := ql
   cases h3;cases h4
   simp only [fO,beq_iff_eq] at e;rw [e]
  ·have:=q hy;rw [e] at this;simp [Instr.findNow,this]
  ·have:=q hy;rw [e] at this;simp [Instr.findNow,this,h]
 ·rename_i hu
  cases h
  obtain ⟨xs,h1,h2⟩:=hz
  cases h1;cases h2
  have hk:MapKept.IsKey .string (.string x):=trivial
  have q:∀{y:Ty.str.den} {z':Value},gG ι false .str y z'->Instr.sameNow .string (.string x) z'=some (fO .str x y):=fun {y z'} ql=>by
   obtain ⟨ys,h3,h4⟩:=ql
   cases h3;cases h4
   simp only [Instr.sameNow,fO,wB]
  refine ⟨fun em=>MapKept.run_checkKey hu hk em 9999,MapKept.run_keyThatStays hk,fun {y z'} ql e=>?_,fun ms i' o=>Instr.findNow .string (.string x) ms i'=some o,fun ms o h=>MapKept.run_findKey hu h,fun _=>rfl,fun m r i' y hy e=>?_,fun m r i' y o hy e h=>?_⟩
  ·obtain ⟨ys, h3, h4⟩ := ql
   cases h3;cases h4
   have:=di e;subst this;rfl
  ·have:=q hy;rw [e] at this;simp [Instr.findNow,this]
  ·have:=q hy;rw [e] at this;simp [Instr.findNow,this,h]
 ·rename_i fs hu
  split at h<;>try (cases h;done)
  rename_i ty ks hty hfl
  split at h<;>try (cases h;done)
  rename_i hc
  cases h
  obtain ⟨hks,hst⟩:=hc
  obtain ⟨xs,h1,h2⟩:=hz
  cases h2
  have hlen:xs.length=ks.length:=by rw [h1.length,oZ hks]
  have heq:∀{y:kt.den} {z':Value},gG ι true kt y z'->(Op.equal k (.agg xs.toArray) z').run P w = .ok (fO kt x y) w:=fun {y z'} ql=>by
   obtain ⟨ys,h3,h4⟩:=ql
   cases h4
   have hfo:P.fieldsOf k=fs:=by simp [Program.fieldsOf,hu]
   have e1:=run_equalIn_struct (P:=P) w 9999 k xs.toArray ys.toArray (by rw [hfo];exact hu) hst
   rw [hfo] at e1
   have hv:=k5 (c1:=fun _ _ _ _=>True) (c2:=fun _ _ _=>True) (c3:=fun _ _ _=>True) (c4:=fun _ _ _ _=>True) (c5:=fun _ _ _ _ _ _=>True) (c6:=fun _ _ _=>True) (c7:=fun _ _ _ _ _ _=>True) x y hks
   have e2:=jr (d:=9998) (w:=w) (P:=P) (ι:=ι) (μ:=fun _=>none) hfl (xs:=xs.toArray) (ys:=ys.toArray) (by simpa using fE h1) (by simpa using fE h3) hv
   exact e1.trans e2
  refine ⟨fun em=>?_,?_,fun {y z'} ql e=>?_,fun ms i' o=>(Instr.findAsking k (.agg xs.toArray) ms i').run P w = .ok o w,fun ms o h=>?_,fun _=>rfl,fun m r i' y hy e=>?_,fun m r i' y o hy e h=>?_⟩
  ·show (Instr.checkKey em (9999 + 1) k _).run P w = _
   unfold Instr.checkKey
   rw [Sem.run_bind,run_underlying hu w]
   simp only [Result.andThen_ok]
   rw [<-Array.forIn_toList]
   rw [Sem.run_bind]
   have:=rI (P:=P) (w:=w) (em:=em) (n:=9998) (xs:=xs.toArray) hfl (by simp [hlen])
   erw [this]
   rfl
  ·have hs:Instr.sameBits 10000 (.agg xs.toArray) (.agg xs.toArray)=true:=by
    show Instr.sameBits (9999+1) _ _=true
    simp only [Instr.sameBits,beq_self_eq_true,Bool.true_and,List.all_eq_true]
    intro p hp
    obtain ⟨i,hi,e⟩:=List.getElem_of_mem hp
    rw [List.getElem_zip] at e
    rw [<-e]
    exact (hH (ι':=ι) hks h1).2 _ (List.getElem_mem _) 9999
   simp [Instr.keyThatStays,hs]
  ·obtain ⟨ys, h3, h4⟩ := ql
   cases h4
   rw [(hH (ι':=ι) hks h1).1 _ _ h3 (di e)]
  ·rw [run_findKey_eq w (by rw [hu])];exact h
  ·have:=heq hy;rw [e] at this;simp [Instr.findAsking,this]
  ·have:=heq hy;rw [e] at this;simp [Instr.findAsking,this,h]
 ·rename_i am ae hu
  split at h<;>try (cases h;done)
  rename_i ty ks hty hfl
  split at h<;>try (cases h;done)
  rename_i hks
  cases h
  obtain ⟨xs,h1,h2⟩:=hz
  cases h2
  have hlen:xs.length=ks.length:=by rw [h1.length,oZ hks]
  have hve:=fun (y:kt.den)=>k5 (c1:=fun _ _ _ _=>True) (c2:=fun _ _ _=>True) (c3:=fun _ _ _=>True) (c4:=fun _ _ _ _=>True) (c5:=fun _ _ _ _ _ _=>True) (c6:=fun _ _ _=>True) (c7:=fun _ _ _ _ _ _=>True) x y hks
  have heq:∀{y:kt.den} {z':Value},gG ι true kt y z'->(Op.equal k (.agg xs.toArray) z').run P w = .ok (fO kt x y) w:=fun {y z'} ql=>by
   obtain ⟨ys,h3,h4⟩:=ql
   cases h4
   exact (NP (d:=9998) (w:=w) (P:=P) (ι:=ι) (μ:=fun _=>none) hfl (xs:=xs.toArray) (ys:=ys.toArray) (by simpa using fE h1) (by simpa using fE h3) (hve y)).1
  have hfl0:=hfl
  unfold Kt at hfl
  rw [hu] at hfl
  simp only at hfl
  split at hfl<;>try (cases hfl;done)
  rename_i k' he
  split at hfl<;>try (cases hfl;done)
  rename_i hc
  cases hfl
  obtain ⟨c1,c2,c3,c4⟩:=hc
  obtain ⟨ie,EX⟩:=Option.isSome_iff_exists.1 c2
  have hs1:(sizeOf ae).run P w = .ok 1 w:=by
   have:ie.size=1:=by simpa [Program.cellsOf,EX] using c1
   simp [sizeOf,typeInfo,EX,this]
  refine ⟨fun em=>?_,?_,fun {y z'} ql e=>?_,fun ms i' o=>(Instr.findAsking k (.agg xs.toArray) ms i').run P w = .ok o w,fun ms o h=>?_,fun _=>rfl,fun m r i' y hy e=>?_,fun m r i' y o hy e h=>?_⟩
  ·show (Instr.checkKey em (9999 + 1) k _).run P w = _
   unfold Instr.checkKey
   rw [Sem.run_bind,run_underlying hu w]
   simp only [Result.andThen_ok]
   rw [Std.Legacy.Range.forIn_eq_forIn_range']
   rw [Sem.run_bind]
   have:=wC (P:=P) (w:=w) (em:=em) (n:=9998) (xs:=xs.toArray) he hs1 am 0 (by simp [hlen])
   simp only [Std.Legacy.Range.size,Nat.sub_zero,Nat.add_sub_cancel,Nat.div_one]
   erw [this]
   rfl
  ·have hs:Instr.sameBits 10000 (.agg xs.toArray) (.agg xs.toArray)=true:=by
    show Instr.sameBits (9999+1) _ _=true
    simp only [Instr.sameBits,beq_self_eq_true,Bool.true_and,List.all_eq_true]
    intro p hp
    obtain ⟨i,hi,e⟩:=List.getElem_of_mem hp
    rw [List.getElem_zip] at e
    rw [<-e]
    exact (hH (ι':=ι) hks h1).2 _ (List.getElem_mem _) 9999
   simp [Instr.keyThatStays,hs]
  ·obtain ⟨ys, h3, h4⟩ := ql
   cases h4
   rw [(hH (ι':=ι) hks h1).1 _ _ h3 (di e)]
  ·rw [run_findKey_eq w (by rw [hu])];exact h
  ·have:=heq hy;rw [e] at this;simp [Instr.findAsking,this]
  ·have:=heq hy;rw [e] at this;simp [Instr.findAsking,this,h]
theorem NS {kt vt : Ty} {kg vg : Bool} {x : kt.den} {z : Value} {A : List MapEntry → Nat → Option (Nat × Value) → Prop} (hsame : ∀ {y : kt.den} {z' : Value}, gG ι kg kt y z' → fO kt x y = true → z' = z) (h0 : ∀ i, A [] i none)
  (hy1:∀m r i y,gG ι kg kt y m.key->fO kt x y=true->A (m::r) i (some (i,m.val))) (W5:∀m r i y o,gG ι kg kt y m.key->fO kt x y=false->A r (i+1) o->A (m::r) i o) (dflt:vt.den) :
  ∀{es:List (kt.den×vt.den)} {ms:List MapEntry} (i:Nat),gB ι kt kg vt vg es ms ->
  (bT kt es x=false/\A ms i none) \/
  (bT kt es x=true/\∃j m,A ms i (some (i+j,m.val))/\ms[j]?=some m/\m.key=z/\gG ι vg vt (aN kt dflt es x) m.val/\∃e,es[j]?=some e/\fO kt x e.1=true)
 |[],ms,i,h=>by simp [gB] at h;subst h;exact .inl ⟨rfl,h0 i⟩
 |e::es,ms,i,h=>by
  obtain ⟨m,r,rfl,h1,h2,h3⟩:=h
  cases hd:fO kt x e.1 with
  |true=>exact .inr ⟨by simp [bT,hd],0,m,hy1 m r i _ h1 hd,rfl,hsame h1 hd,by simp [aN,hd];exact h2,e,rfl,hd⟩
  |false =>
   rcases NS hsame h0 hy1 W5 dflt (i+1) h3 with ⟨r1,r2⟩|⟨r1,j,m',r2,r3,r4,r5,e',r6,r7⟩
   ·refine .inl ⟨?_, W5 m r i _ _ h1 hd r2⟩
    simp only [bT] at r1 ⊢
    simp [hd,r1]
   ·refine .inr ⟨?_, j + 1, m', ?_, by simpa using r3, r4, by simp [aN, hd]; exact r5, e', by simpa using r6, r7⟩
    ·simp only [bT] at r1 ⊢
     simp [hd,r1]
    ·have := W5 m r i _ _ h1 hd r2
     rwa [show i+1+j=i+(j+1) by omega] at this
theorem W6 {k:TypeId} {kt vt:Ty} {kg vg:Bool} {x:kt.den} {z:Value} (hk:Ba P k kt kg ι w x z) (dflt:vt.den) {es:List (kt.den×vt.den)} {ms:List MapEntry} (h:gB ι kt kg vt vg es ms) :
  (bT kt es x=false/\(Instr.findKey k z ms).run P w = .ok none w) \/
  (bT kt es x=true/\∃j m,(Instr.findKey k z ms).run P w = .ok (some (j,m.val)) w/\ms[j]?=some m/\m.key=z/\gG ι vg vt (aN kt dflt es x) m.val/\∃e,es[j]?=some e/\fO kt x e.1=true):=by
 obtain ⟨A,a1,a2,a3,a4⟩:=hk.find
 rcases NS hk.same a2 a3 a4 dflt 0 h with ⟨r1,r2⟩|⟨r1,j,m,r2,r3,r4,r5,r6⟩
 ·exact .inl ⟨r1,a1 _ _ r2⟩
 ·exact .inr ⟨r1,j,m,by have:=a1 _ _ r2;rwa [Nat.zero_add] at this,r3,r4,r5,r6⟩
theorem gB.set {kt vt : Ty} {kg vg : Bool} {x : kt.den} {y : vt.den} {z zv : Value} (hx : gG ι kg kt x z) (hy : gG ι vg vt y zv) : ∀ {es : List (kt.den × vt.den)} {ms : List MapEntry} {j : Nat} {m : MapEntry}, gB ι kt kg vt vg es ms → m.key = z → m.val = zv → gB ι kt kg vt vg (es.set j (x, y)) (ms.set j m)
 |[],ms,j,m,h,_,_=>by simp [gB] at h;subst h;simp [gB]
 |e::es,ms,0,m,h,hk,hv=>by
  obtain ⟨m0,r,rfl,h1,h2,h3⟩:=h
  exact ⟨m,r,rfl,by rw [hk];exact hx,by rw [hv];exact hy,h3⟩
 |e::es,ms,j+1,m,h,hk,hv=>by
  obtain ⟨m0,r,rfl,h1,h2,h3⟩:=h
  exact ⟨m0,r.set j m,rfl,h1,h2,gB.set hx hy h3 hk hv⟩
theorem gB.snoc {kt vt : Ty} {kg vg : Bool} {x : kt.den} {y : vt.den} {m : MapEntry} (hx : gG ι kg kt x m.key) (hy : gG ι vg vt y m.val) : ∀ {es : List (kt.den × vt.den)} {ms : List MapEntry}, gB ι kt kg vt vg es ms → gB ι kt kg vt vg (es ++ [(x, y)]) (ms ++ [m])
 |[],ms,h=>by simp [gB] at h;subst h;exact ⟨m,[],rfl,hx,hy,rfl⟩
 |e::es,ms,h=>by
  obtain ⟨m0,r,rfl,h1,h2,h3⟩:=h
  exact ⟨m0,r++[m],rfl,h1,h2,gB.snoc hx hy h3⟩
theorem ez {bl:ai} {kt vt:Ty} {kg vg:Bool} {id:Nat} {es:List (kt.den×vt.den)} (h:jm bl kt kg vt vg id=some es):aq id bl=some (.map kt kg vt vg es):=by
 unfold jm at h
 split at h<;>try (cases h;done)
 rename_i M1 WR M3 SE es' hb
 split at h<;>try (cases h;done)
 rename_i hg
 obtain ⟨rfl,rfl⟩:=hg
 unfold Ho at h
 split at h<;>try (cases h;done)
 rename_i hc
 obtain ⟨rfl,rfl⟩:=hc
 cases h
 exact hb
theorem Fh {e:TypeId} {vt:Ty} {vg:Bool} (h:Hs P e=some (vt,vg)):∃z,(∀w:World,(zeroValue e).run P w = .ok z w)/\gG ι vg vt vt.zero z:=by
 unfold Hs at h
 split at h<;>try (cases h;done)
 rename_i ty g i _ _ hi
 split at h<;>try (cases h;done)
 rename_i z hz
 have hrun:∀w:World,(zeroValue e).run P w = .ok z w:=fun w=>by simp [zeroValue,typeInfo,hi,hz]
 split at h<;>try (cases h;done)
 rename_i h0
 split at h<;>try (cases h;done)
 rename_i hg
 cases h
 obtain ⟨us,e1,hd⟩:=gS (ι:=ι) h0
 rw [List.append_nil] at e1
 refine ⟨z,hrun,us,hd,?_⟩
 rw [<-e1,<-hg]
 cases z<;>simp [Ny,iJ,Value.cells]
theorem qp {t:TypeId} {kt vt:Ty} {kg vg:Bool} (h:pQ P t=some (kt,kg,vt,vg)):∃k e,P.underlying t=some (.map k e)/\vU P k=some (kt,kg)/\Hs P e=some (vt,vg):=by
 unfold pQ at h
 split at h<;>try (cases h;done)
 rename_i k e hu
 split at h<;>try (cases h;done)
 rename_i M1 WR M3 SE hk hv
 cases h
 exact ⟨k,e,hu,hk,hv⟩
theorem C5 (h:Inv P Y ι μ H w) {aM:Nat} (hn:μ aM=none) (t:TypeId) (kt vt:Ty) (kg vg:Bool) :
  ∃μ' x w',(Instr.makeMap t none).run P w = .ok x w'/\μ.le μ'/\(∀id,id≠aM->μ' id=μ id)/\Inv P Y ι μ' ⟨max H.next (aM+1),(aM,.map kt kg vt vg [])::cB aM H.bl⟩ w'/\Rel ι μ' (.mp aM) x:=by
 let L:Loc:=⟨w.heap.size,0,0,0⟩
 have hle:=Mu.iQ (L:=L) hn
 have jS:μ.set aM L aM=some L:=by simp [Mu.set]
 refine ⟨_,_,w.alloc (.map #[] 0),rfl,hle,Mu.tn,h.lay hn (L:=L) rfl ⟨L,#[],0,[],jS,.inl h.below.size,?_,rfl,by simp,by simp,.refl _,.nil⟩,.mp _ L jS⟩
 show (w.heap.push _)[w.heap.size]?=_
 simp
theorem Fi (h : Inv P Y ι μ H w) {aM : Nat} {t : TypeId} {kt vt : Ty} {kg vg ok : Bool} (ht : pQ P t = some (kt, kg, vt, vg)) {va vi : V} {a ix : Value} (ha : Rel ι μ va a) (hi : Rel ι μ vi ix) {ob : List Bool} {v : V} {u : dU}
  (aj:kV (bM c1 c2 c3 c4 c5 c6 c7) (.E5 kt kg vt vg ok) [va,vi] H.bl aM=some (ob,v,u)):u=[]/\∃y,(Instr.lookup t a ix ok).run P w = .ok y w/\Rel ι μ v y:=by
 obtain ⟨k,e,hu,hk,hv⟩:=qp ht
 simp only [kV] at aj
 split at aj<;>try (cases aj;done)
 rename_i x hx
 have yT:Ba P k kt kg ι w x ix:=zI hk (tq hx hi)
 obtain ⟨z0,M7,hz1⟩:=Fh (ι:=ι) hv
 have fin:∀{b:Bool} {y:vt.den} {yv:Value},gG ι vg vt y yv->Rel ι μ (if ok=true then V.cG [dL.jl vg (dL vt y),.bool b] else dL.jl vg (dL vt y)) (if ok=true then .tuple #[yv,.bool b] else yv):=fun {b y yv} hy=>by
  cases ok with
  |false=>exact hy.rel
  |true =>
   refine .cG _ _ rfl (fun i v x hv hx=>?_)
   match i with
   |0=>simp at hv hx;subst hv;subst hx;exact hy.rel
   |1=>simp at hv hx;subst hv;subst hx;exact .bool _
   |i+2=>simp at hv
 split at aj<;>try (cases aj;done)
 rename_i es CD
 have hout:u=[]/\v=(if ok=true then V.cG [dL.jl vg (dL vt (aN kt vt.zero es x)),.bool (bT kt es x)] else dL.jl vg (dL vt (aN kt vt.zero es x))):=by
  cases ok<;>cases aj<;>exact ⟨rfl,rfl⟩
 obtain ⟨rfl,rfl⟩:=hout
 refine ⟨rfl,?_⟩
 cases ha<;>simp only at CD<;>try (cases CD;done)
 case mp id L hL =>
  have hb:=ez CD
  obtain ⟨L',ms,clock,kR,h1,h2,h3,h4,h5,h6,h7,h8⟩:=h.live _ _ hb
  rw [hL] at h1;cases h1
  have hge:aN kt vt.zero es x=aN kt vt.zero kR x:=(KA h7 h8 (h8.perm h7)).symm
  have hhe:bT kt es x=bT kt kR x:=(tr h7).symm
  rw [hge,hhe]
  rcases W6 yT vt.zero h4 with ⟨r1,r2⟩|⟨r1,j,m,r2,r3,r4,r5,_⟩
  ·refine ⟨_, ?_, fin (b := bT kt kR x) (yv := z0) (by rw [jX r1]; exact hz1)⟩
   rw [r1]
   cases ok<;>simp [Instr.lookup,run_underlying hu,MapKept.run_getObj_map h3,yT.check,r2,M7]
  ·refine ⟨_, ?_, fin (b := bT kt kR x) r5⟩
   rw [r1]
   cases ok<;>simp [Instr.lookup,run_underlying hu,MapKept.run_getObj_map h3,yT.check,r2]
 case dZ =>
  cases CD
  refine ⟨_,?_,fin (b:=false) (yv:=z0) hz1⟩
  obtain ⟨A,a1,a2,_⟩:=yT.find
  have r2:(Instr.findKey k ix []).run P w = .ok none w:=a1 _ _ (a2 0)
  cases ok<;>simp [Instr.lookup,run_underlying hu,yT.check,r2,M7]
theorem wD (h : Inv P Y ι μ H w) {aM : Nat} {t : TypeId} {kt vt : Ty} {kg vg : Bool} (ht : pQ P t = some (kt, kg, vt, vg)) {va vi vv : V} {a ix z : Value} (ha : Rel ι μ va a) (hi : Rel ι μ vi ix) (hz : Rel ι μ vv z) {ob : List Bool} {v : V} {u : dU}
  (aj:kV (bM c1 c2 c3 c4 c5 c6 c7) (.fM kt kg vt vg) [va,vi,vv] H.bl aM=some (ob,v,u)):∃w',(Instr.mapUpdate t a ix z).run P w = .ok () w'/\Inv P Y ι μ ⟨H.next,bV u H.bl⟩ w'/\v = .any:=by
 obtain ⟨k,e,hu,hk,hv⟩:=qp ht
 simp only [kV] at aj
 split at aj<;>try (cases aj;done)
 rename_i id k' v' heq
 simp only [List.cons.injEq,and_true] at heq
 obtain ⟨rfl,rfl,rfl⟩:=heq
 split at aj<;>try (cases aj;done)
 rename_i x hx
 split at aj<;>try (cases aj;done)
 rename_i y hy
 split at aj<;>try (cases aj;done)
 rename_i es CD
 cases aj
 have hb:=ez CD
 have hvx:=tq hx hi
 have hvy:=tq hy hz
 have yT:Ba P k kt kg ι w x ix:=zI hk hvx
 cases ha with
 |mp _ L hL =>
 obtain ⟨L',ms,clock,kR,h1,h2,h3,h4,h5,h6,h7,h8⟩:=h.live _ _ hb
 rw [hL] at h1;cases h1
 have hlt:L.b<w.heap.size:=(Array.getElem?_eq_some_iff.1 h3).1
 rcases W6 yT vt.zero h4 with ⟨r1,r2⟩|⟨r1,j,m,r2,r3,r4,_,e0,r5,r6⟩
 ·refine ⟨w.putObj L.b (.map (ms.push { key := ix, val := z, born := clock }) (clock + 1)), ?_, ?_, rfl⟩
  ·simp [Instr.mapUpdate,run_underlying hu,MapKept.run_getObj_map h3,yT.check,r2,MapKept.run_setObj_map _ h3,World.putObj]
  ·refine h.HG hb hL h3 (by simp) (fun ms' c' e => by cases e; exact ⟨_, _, rfl, by simp [Array.toList_push, List.map_append], Nat.le_succ _⟩) ⟨L, _, _, kR ++ [(x, y)], hL, h2, World.putObj_heap_same hlt, ?_, ?_, ?_, (rH r1).trans (zH h7), KD.perm (rH r1).symm h8.fM⟩
   ·show gB ι kt kg vt vg _ _
    rw [Array.toList_push]
    exact h4.snoc hvx hvy
   ·intro m hm
    simp only [Array.toList_push,List.mem_append,List.mem_singleton] at hm
    rcases hm with hm|rfl
    ·exact Nat.lt_succ_of_lt (h5 m hm)
    ·exact Nat.lt_succ_self _
   ·simp only [Array.toList_push, List.map_append, List.map_cons, List.map_nil]
    refine List.nodup_append.2 ⟨h6,by simp,?_⟩
    intro p hp q hq
    simp only [List.mem_singleton] at hq
    subst hq
    obtain ⟨m,hm,rfl⟩:=List.mem_map.1 hp
    exact Nat.ne_of_lt (h5 m hm)
 ·have hj : ms[j]? = some m := by simpa using r3
  refine ⟨w.putObj L.b (.map (ms.modify j fun e=>{ e with key:=ix,val:=z }) clock),?_,?_,rfl⟩
  ·have := yT.stays
   simp [Instr.mapUpdate,run_underlying hu,MapKept.run_getObj_map h3,yT.check,r2,hj,r4,this,MapKept.run_setObj_map _ h3,World.putObj]
  ·have hml:(ms.modify j fun e=>{ e with key:=ix,val:=z }).toList=ms.toList.set j { m with key:=ix,val:=z }:=by
    apply List.ext_getElem?
    intro i
    simp only [Array.getElem?_toList,Array.getElem?_modify,List.getElem?_set]
    by_cases e:j=i
    ·subst e
     obtain ⟨q1,q2⟩:=Array.getElem?_eq_some_iff.1 hj
     simp [hj,q1,q2]
    ·simp [e]
   have W7:(ms.toList.set j { m with key:=ix,val:=z }).map (fun m=>(m.born,m.key))=ms.toList.map fun m=>(m.born,m.key):=by
    rw [List.map_set]
    apply List.ext_getElem?
    intro i
    simp only [List.getElem?_set,List.getElem?_map,List.length_map]
    by_cases e:j=i
    ·subst e
     obtain ⟨q1,q2⟩:=Array.getElem?_eq_some_iff.1 hj
     simp [hj,q1,q2,r4]
    ·simp [e]
   have HI:(ms.toList.set j { m with key:=ix,val:=z }).map (·.born)=ms.toList.map (·.born):=by
    have:=congrArg (List.map Prod.fst) W7
    simpa [List.map_map,Function.comp_def] using this
   refine h.HG hb hL h3 (by simp) (fun ms' c' e=>by cases e;exact ⟨_,_,rfl,by rw [hml,W7];exact List.prefix_refl _,Nat.le_refl _⟩) ⟨L,_,_,kR.set j (x,y),hL,h2,World.putObj_heap_same hlt,?_,?_,?_,by rw [HH h8 r5 r6];exact zH h7,by rw [HH h8 r5 r6];exact h8.fM⟩
   ·show gB ι kt kg vt vg _ _
    rw [hml]
    exact gB.set hvx hvy h4 rfl rfl
   ·intro m' hm'
    rw [hml] at hm'
    have:m'.born∈(ms.toList.set j { m with key:=ix,val:=z }).map (·.born):=List.mem_map.2 ⟨m',hm',rfl⟩
    rw [HI] at this
    obtain ⟨m2,hm2,e2⟩:=List.mem_map.1 this
    rw [<-e2];exact h5 m2 hm2
   ·rw [hml,HI];exact h6
theorem Fj (h : Inv P Y ι μ H w) {aM : Nat} {t e : TypeId} {n eZ : Nat} (hu : P.underlying t = some (.array n e)) (hsz : dA P e = some eZ) {va : V} {a : Value} (ha : Rel ι μ va a) {ob : List Bool} {v : V} {u : dU}
  (aj:kV (bM c1 c2 c3 c4 c5 c6 c7) (.Sz n) [va] H.bl aM=some (ob,v,u)):u=[]/\∃y,(Instr.sliceAt t a none none none).run P w = .ok y w/\Rel ι μ v y:=by
 have hsize:(sizeOf e).run P w = .ok eZ w:=by
  unfold dA at hsz
  cases hq:P.info? e with
  |none=>simp [hq] at hsz
  |some i=>simp [hq] at hsz;subst hsz;simp [sizeOf,typeInfo,hq]
 simp only [kV] at aj
 split at aj<;>try (cases aj;done)
 rename_i id ty m hvs
 cases hvs
 split at aj<;>try (cases aj;done)
 rename_i t' xs fz hb
 split at aj<;>try (cases aj;done)
 rename_i hc
 obtain ⟨rfl,rfl⟩:=hc
 cases aj
 cases ha with
 |pa _ _ _ L hL hm =>
  rcases h.live id _ hb with ⟨_,hn⟩|⟨L',vs,hM,fI,hl⟩
  ·rw [hL] at hn;cases hn
  ·have e1 := hM.mu
   rw [hL] at e1;cases e1
   have hlen:=fI.length (fun _ _=>ak.length)
   have hf:=hM.fits
   refine ⟨rfl,.slice (some ⟨L.b,L.ba+0 * ty.sz,none⟩) m m,?_,.sl id ty 0 m m L hL (Nat.le_refl _) ?_ (by omega)⟩
   ·simp [Instr.sliceAt,run_underlying hu,Instr.sureAddr,Instr.sliceBounds,hsize,Addr.add]
   ·rw [hl, hm] at hlen
    simp only [Nat.zero_add]
    omega
theorem Fk (h : Inv P Y ι μ H w) {aM : Nat} {t k e ty : TypeId} (hu : P.underlying t = some (.map k e)) {va : V} {a : Value} (ha : Rel ι μ va a) {ob : List Bool} {v : V} {u : dU}
  (aj:kV (bM c1 c2 c3 c4 c5 c6 c7) .Sy [va] H.bl aM=some (ob,v,u)):u=[]/\∃y,(Builtin.len_ #[t] ty #[a]).run P w = .ok y w/\Rel ι μ v y:=by
 simp only [kV] at aj
 split at aj<;>try (cases aj;done)
 ·rename_i id heq
  simp only [List.cons.injEq,and_true] at heq
  subst heq
  split at aj<;>try (cases aj;done)
  rename_i es hb
  cases aj
  cases ha with
  |mp _ L hL =>
   obtain ⟨L',ms,clock,kR,h1,h2,h3,h4,_,_,h7,_⟩:=h.live _ _ hb
   rw [hL] at h1;cases h1
   have:=h4.length.trans h7.length_eq
   simp only [Array.length_toList] at this
   refine ⟨rfl,.int .i64 es.length,?_,.int _ _⟩
   simp [Builtin.len_,run_underlying hu,MapKept.run_getObj_map h3,goInt,this]
 ·rename_i heq
  simp only [List.cons.injEq,and_true] at heq
  subst heq
  cases aj
  cases ha
  exact ⟨rfl,.int .i64 0,by simp [Builtin.len_,run_underlying hu,goInt],.int _ _⟩
theorem nZ (zs:List Value):∀(m:Nat),((Array.range (m * zs.length)).map (fun i=>zs.toArray[i % zs.toArray.size]!)).toList=(List.replicate m zs).flatten:=by
 intro m
 apply List.ext_getElem?
 intro i
 induction m generalizing i with
 |zero=>simp
 |succ m ih =>
  rw [List.replicate_succ,List.flatten_cons]
  by_cases hi:i<zs.length
  ·rw [List.getElem?_append_left hi]
   have:i<(m+1) * zs.length:=by rw [Nat.add_mul];omega
   simp [this,Nat.mod_eq_of_lt hi,hi]
  ·rw [List.getElem?_append_right (by omega), ← ih]
   by_cases h2:i<(m+1) * zs.length
   ·have h3 : i - zs.length < m * zs.length := by rw [Nat.add_mul, Nat.one_mul] at h2; omega
    have h4:i % zs.length=(i - zs.length) % zs.length:=by
     rw [Nat.mod_eq_sub_mod (by omega)]
    simp [h2,h3,h4]
   ·have h3 : ¬ i - zs.length < m * zs.length := by rw [Nat.add_mul, Nat.one_mul] at h2; omega
    simp [h2,h3]
theorem C6 (h:Inv P Y ι μ H w) {src dst e:TypeId} (hs:P.underlying src=some .string) (hd:P.underlying dst=some (.slice e)) (he:P.underlying e=some (.int .u8)) {s:ByteArray} :
  ∃ι' x w',(convert src dst (.string s)).run P w = .ok x w'/\ι.le ι'/\Inv P Y ι' μ H w'/\Rel ι' μ (.eG (.int .u8) (nM s)) x:=by
 let cells:Array Value:=(s.data.map fun b=>Value.int .u8 b.toNat)++Array.replicate (grownCap w s.size 0 e - s.size) (.int .u8 0)
 have hrun:(convert src dst (.string s)).run P w = .ok (.slice (some ⟨w.heap.size,0,none⟩) s.size (grownCap w s.size 0 e)) (w.drew.alloc (.cells cells e (cells.size,cells.size+1))):=by
  have hfr:(w.drew.alloc (.cells cells e)).freeze { block:=w.heap.size,off:=cells.size } 1=w.drew.alloc (.cells cells e (cells.size,cells.size+1)):=by
   have hh:(w.heap.push (.cells cells e)).modify w.heap.size (fun
     | .cells c elem (lo,hi)=>.cells c elem (if lo==hi then (cells.size,cells.size+1) else (min lo cells.size,max hi (cells.size+1)))
     |o=>o)=w.heap.push (.cells cells e (cells.size,cells.size+1)):=by
    apply Array.ext_getElem?
    intro i
    rw [Array.getElem?_modify]
    by_cases hi:w.heap.size=i
    ·subst hi;simp
    ·simp [hi,Array.getElem?_push,Ne.symm hi]
   unfold World.freeze
   rw [if_neg (by decide)]
   exact congrArg (fun h=>({ w.drew.alloc (.cells cells e) with heap:=h }:World)) hh
  have Ym:(w.drew.alloc (.cells cells e)).shape? w.heap.size=some (e,cells.size):=by
   have:(w.drew.alloc (.cells cells e)).heap[w.heap.size]?=some (.cells cells e):=by
    show (w.heap.push _)[_]?=_
    simp
   unfold World.shape?
   rw [this]
  have hg:(choose (.appendCap s.size 0 e)).run P w = .ok (grownCap w s.size 0 e) w.drew:=by
   rw [run_choose_drew];rfl
  have acN:(convert src dst (.string s)).run P w=(Conv.stringToBytes e s).run P w:=by
   simp [convert,run_underlying hs,run_underlying hd,run_underlying he]
  rw [acN]
  have hnew:(newObj (.cells cells e)).run P w.drew = .ok w.heap.size (w.drew.alloc (.cells cells e)):=rfl
  simp only [Conv.stringToBytes,Sem.run_bind,hg,Result.andThen_ok,newRow,markStringish]
  rw [show (s.data.map fun b=>Value.int .u8 b.toNat)++Array.replicate (grownCap w s.size 0 e - s.size) (.int .u8 0)=cells from rfl,hnew]
  simp only [Result.andThen_ok,Sem.run_pure,Sem.run_bind,run_shape,Ym,run_freeze,hfr]
 have nU:∀(j:Nat) v,((nM s).map (Value.int .u8))[j]?=some v->cells[j]?=some v:=fun j v hv=>by
  have hj:j<s.data.size:=by have:=(List.getElem?_eq_some_iff.1 hv).1;simpa [nM] using this
  simp only [cells]
  rw [Array.getElem?_append_left (by simpa using hj)]
  simpa [nM] using hv
 obtain ⟨ι',h1,h2,h3⟩:=h.drew.SJ (c:=cells) (e:=e) (f:=(cells.size,cells.size+1)) nU
 have fI:∀(zs:List Int),bS (ak ι' (.int .u8)) zs (zs.map (Value.int .u8)):=fun zs=>by
  induction zs with
  |nil=>rfl
  |cons z zs ih=>exact ⟨[.int .u8 z],_,rfl,rfl,ih⟩
 have hl:(nM s).length=s.size:=by simp [nM]
 refine ⟨ι',_,_,hrun,h1,h2,.eG _ _ _ ⟨some ⟨w.heap.size,0,none⟩,grownCap w s.size 0 e,by rw [hl],by rw [hl];exact grownCap_ge w s.size 0 e,.inr ⟨_,_,_,rfl,h3,fI _⟩⟩⟩
theorem zJ {t : Ty} : ∀ {m : Nat} {vs r : List Value}, Hr t m vs = some r → ∃ us, vs = us ++ r ∧ bS (ak ι t) (List.replicate m t.zero) us
 |0,vs,r,h=>by cases h;exact ⟨[],rfl,rfl⟩
 |m+1,vs,r,h=>by
  simp only [Hr] at h
  split at h<;>try (cases h;done)
  rename_i r1 h1
  obtain ⟨us,rfl,hu⟩:=gS (ι:=ι) h1
  obtain ⟨ws,rfl,hw⟩:=zJ h
  exact ⟨us++ws,by simp,us,ws,rfl,hu,hw⟩
theorem NT (h:Inv P Y ι μ H w) {aM:Nat} (hn:μ aM=none) {t:Ty} {ys:List t.den} {xs:List Value} (hr:bS (ak ι t) ys xs) (e:TypeId) {n:Nat} (hl:ys.length=n) :
  ∃μ',μ.le μ'/\(∀id,id≠aM->μ' id=μ id)/\Inv P Y ι μ' ⟨max H.next (aM+1),(aM,.arr t ys false)::cB aM H.bl⟩ (w.alloc (.cells xs.toArray e))/\Rel ι μ' (.pa aM t n) (.pointer (some ⟨w.heap.size,0,none⟩)):=by
 let L:Loc:=⟨w.heap.size,0,xs.length,ys.length⟩
 have hle:=Mu.iQ (L:=L) hn
 have jS:μ.set aM L aM=some L:=by simp [Mu.set]
 have hfree:∀o,ι w.heap.size o=none:=fun o=>by
  cases yR:ι w.heap.size o with
  |none=>rfl
  |some y=>have:=World.block_lt_of_cell? _ _ (h.rd _ _ _ yR);simp at this
 refine ⟨_,hle,Mu.tn,h.lay hn (L:=L) rfl (.inr ⟨L,xs,⟨jS,(.inl h.below.size),⟨xs.toArray,e,?_,by simp [L],fun j v hv=>by simpa [L] using hv⟩,by simp [L],
  bS.one (fun _ _=>ak.one) hr,(fun e=>by cases e),fun _=>hfree⟩,hr,rfl⟩),.pa _ _ _ L jS hl⟩
 show (w.heap.push _)[w.heap.size]?=_
 simp
theorem C7 (h : Inv P Y ι μ H w) {aM : Nat} {t e : TypeId} {ty : Ty} {k : Nat} {i : TypeInfo} {z : Value} (ht : P.underlying t = some (.slice e)) (hi : P.info? e = some i) (hz : i.zero = some z)
  (h0:fR ty z.cells.toList=some []) {tt:TypeId} {va:V} {a:Value} (ha:Rel ι μ va a) {ob:List Bool} {v:V} {u:dU}
  (aj:kV (bM c1 c2 c3 c4 c5 c6 c7) (.clear ty) [va] H.bl aM=some (ob,v,u)):∃w',(Builtin.clear_ #[t] tt #[a]).run P w = .ok (.tuple #[]) w'/\Inv P Y ι μ ⟨H.next,bV u H.bl⟩ w'/\Rel ι μ v (.tuple #[]):=by
 have hzv:∀w:World,(zeroValue e).run P w = .ok z w:=fun w=>by simp [zeroValue,typeInfo,hi,hz]
 obtain ⟨us,HJ,hcell⟩:=gS (ι:=ι) h0
 simp only [List.append_nil] at HJ
 simp only [kV] at aj
 split at aj<;>try (cases aj;done)
 rename_i id t' lo n heq
 simp only [List.cons.injEq,and_true] at heq
 subst heq
 split at aj<;>try (cases aj;done)
 rename_i e1;subst e1
 split at aj<;>try (cases aj;done)
 rename_i t'' xs hb
 split at aj<;>try (cases aj;done)
 rename_i e1;subst e1
 cases aj
 have htup:Rel ι μ (.cG []) (.tuple #[]):=.cG _ _ rfl (fun i v x hv=>by simp at hv)
 have zero:∀(a0:Option Addr) (c:Nat),n=0->∃w',(Builtin.clear_ #[t] tt #[.slice a0 n c]).run P w = .ok (.tuple #[]) w'/\Inv P Y ι μ ⟨H.next,bV [(id,some (.arr t' (Ns t'.zero xs lo n) false))] H.bl⟩ w'/\Rel ι μ (.cG []) (.tuple #[]):=fun a0 c hn=>by
  subst hn
  refine ⟨w,?_,?_,htup⟩
  ·cases a0<;>simp [Builtin.clear_,run_underlying ht]
  ·have : Ns t'.zero xs lo 0 = xs := by simp [Ns]
   rw [this]
   exact h.same hb (h.live _ _ hb)
 cases ha with
 |cg _ _ _ a0=>exact zero a0 0 rfl
 |sl _ _ _ _ cap L hm h1 h2 h3 =>
  by_cases hn:n=0
  ·exact zero _ cap hn
  rcases h.live _ _ hb with ⟨_,hn'⟩|⟨L',vs,hM,hR,hl⟩
  ·rw [hn'] at hm;cases hm
  ·rw [hM.mu] at hm; cases hm
   have hul:us.length=t'.sz:=hcell.length
   have W2:(Builtin.zeroCells z.cells n).toList=(List.replicate n us).flatten:=by
    rw [<-HJ]
    rw [<-nZ z.cells.toList n]
    simp [Builtin.zeroCells]
   have NU:=bS.rep hcell n
   have rj:=NU.length (fun _ _=>ak.length)
   simp only [List.length_replicate] at rj
   have hvl:=hR.length (fun _ _=>ak.length)
   have hf:=hM.fits
   have hmul:lo * t'.sz+n * t'.sz<=vs.length:=by
    rw [hvl,<-Nat.add_mul]
    exact Nat.mul_le_mul_right _ (by omega)
   have X9:w.there L.b (L.ba+lo * t'.sz) ((List.replicate n us).flatten).length:=hM.there (by omega) (by rw [rj];omega)
   have h1c:∀v∈(List.replicate n us).flatten,v.oneCell'=true:=bS.one (fun _ _=>ak.one) NU
   have hst:=run_storeCells_cells (P:=P) L.b (L.ba+lo * t'.sz) (List.replicate n us).flatten 0 w (fun j hj=>(X9 j hj).1) (fun j hj=>(X9 j hj).2) h1c
   refine ⟨w.setCells L.b (L.ba+lo * t'.sz) (List.replicate n us).flatten,?_,?_,htup⟩
   ·obtain ⟨m, rfl⟩ : ∃ m, n = m + 1 := ⟨n - 1, by omega⟩
    simp only [Nat.add_zero] at hst
    simp [Builtin.clear_,run_underlying ht,hzv,W2,hst]
   ·have hw := hM.write (d := lo * t'.sz) (us := (List.replicate n us).flatten) (by rw [rj]; omega) h1c
    refine h.store hb hM.mu (hM.qk rfl) (.inr ⟨L,_,hw,?_,by simp [Ns,hl];omega⟩)
    have hA:=(hR.take (fun _ _=>ak.length) lo)
    have hD:=(hR.drop (fun _ _=>ak.length) (lo+n))
    rw [rj,<-Nat.add_mul]
    exact (hA.append NU).append hD
end
end Go.AM
end
section
namespace Go.AM
section
variable {P : Program} {Y : Ctx} {ι ι' : aB} {μ μ' : Mu} {H : aO} {w w' : World}
 {c1:Nat->List V->aO->(V->aO->Prop)->Prop} {c2:Nat->List V->V->Prop} {c3:C->St->(Ex->St->Prop)->Prop}
 {c4:Nat->List V->aO->(V->aO->Prop)->Prop} {c5:O->List Nat->C->C->St->(Ex->St->Prop)->Prop} {c6:C->St->(Ex->St->Prop)->Prop} {c7:GC}
theorem NV (ys:List Int):∀s:ByteArray,ys.foldl (fun r n=>r.push (UInt8.ofNat n.toNat)) s=⟨s.data++(ys.map fun z=>UInt8.ofNat z.toNat).toArray⟩:=by
 induction ys with
 |nil=>intro s;simp
 |cons y ys ih =>
  intro s
  rw [List.foldl_cons,ih]
  simp [ByteArray.push]
theorem HK : ∀ {ys : List Int} {us : List Value}, bS (ak ι (.int .u8)) ys us → us = ys.map (Value.int .u8)
 |[],us,h=>h
 |y::ys,us,h=>by
  obtain ⟨a,b,rfl,h1,h2⟩:=h
  rw [HK h2]
  have h1:a=[.int .u8 y]:=h1
  subst h1
  rfl
theorem Fl (h : Inv P Y ι μ H w) {src dst e : TypeId} (hs : P.underlying src = some (.slice e)) (hd : P.underlying dst = some .string) (he : P.underlying e = some (.int .u8)) {v : V} {x : Value} {ys : List Int}
  (hy:elems (bM c1 c2 c3 c4 c5 c6 c7) H.bl (.int .u8) v=some ys) (hr:Rel ι μ v x):(convert src dst x).run P w = .ok (.string (CL ys)) w:=by
 obtain ⟨news,hsrc,fI⟩:=oX h (t:=.int .u8) hs hy hr
 have hn:=HK fI
 subst hn
 have hx:∃a n cap,x = .slice a n cap:=by
  unfold elems at hy
  split at hy<;>try (cases hy;done)
  ·cases hr;exact ⟨_,_,_,rfl⟩
  ·cases hr with
   |eG _ _ _ hd =>
    obtain ⟨a,cap,e,hle,hd⟩:=hd
    cases e
    exact ⟨_,_,_,rfl⟩
  ·cases hr<;>exact ⟨_,_,_,rfl⟩
 obtain ⟨a,n,cap,rfl⟩:=hx
 have hl:=hsrc.len w
 have hn:n=ys.length:=by simpa [Builtin.lenOf] using hl
 rw [run_convert_bytes_string w src dst e a n cap hs he hd]
 have hc:=hsrc.cells
 cases a with
 |none =>
  simp only [run_firstCells_none] at hc
  have:ys=[]:=by
   cases ys with
   |nil=>rfl
   |cons y ys=>simp at hc
  subst this
  simp [Conv.bytesToString,CL]
  rfl
 |some a =>
  simp only [Builtin.firstCells] at hc
  rw [run_bytesToString w a n cap ys (by rw [hn];simpa [Ty.sz] using hc),NV]
  simp [CL]
theorem pR {s:TypeId} {f n:Nat} {fd:Field} (h:rA P s f=some (fd,n)):∃fs,P.underlying s=some (.struct fs)/\fs[f]?=some fd:=by
 unfold rA at h
 split at h<;>try (cases h;done)
 rename_i fs hu
 split at h<;>try (cases h;done)
 rename_i fd' hf
 cases h
 exact ⟨fs,hu,hf⟩
theorem jY {t:TypeId} {k:Nat} (h:dA P t=some k):∃i,P.info? t=some i/\i.size=k/\∀w:World,(sizeOf t).run P w = .ok k w:=by
 unfold dA at h
 cases hq:P.info? t with
 |none=>simp [hq] at h
 |some i=>simp [hq] at h;subst h;exact ⟨i,rfl,rfl,fun w=>by simp [sizeOf,typeInfo,hq]⟩
theorem NW {t:TypeId} {g:Bool} (h:sZ P t=some g):∀w:World,(isAgg t).run P w = .ok g w:=by
 intro w
 unfold sZ at h
 split at h
 ·rename_i hu;cases h;unfold isAgg;rw [Sem.run_bind,run_underlying hu w];rfl
 ·rename_i hu;cases h;unfold isAgg;rw [Sem.run_bind,run_underlying hu w];rfl
 ·rename_i d h1 h2 hu
  cases h;unfold isAgg;rw [Sem.run_bind,run_underlying hu w]
  cases d<;>simp_all
 ·cases h
theorem C8 {xs:List Value} {y:Value} (h:iJ false xs=some y):xs=[y]:=by
 match xs,h with
 |[c],h=>cases h;rfl
theorem n4 {env:List (Nat×V)} {a:Act} (he:fS ι μ env a.tmps):∀{parts:List (Nat×Operand)} {n:Nat} {xs:List O},vm n parts=some xs ->
  aR ι μ (xs.map (·.ev env)) (parts.map fun p=>a.eval p.2)/\(parts.map fun (i,x)=>(i,a.eval x))=((parts.map fun p=>a.eval p.2).zipIdx n).map fun (v,i)=>(i,v)
 |[],n,xs,h=>by cases h;exact ⟨.nil,rfl⟩
 |(i,x)::r,n,xs,h=>by
  unfold vm at h
  split at h<;>try (cases h;done)
  rename_i hi;subst hi
  split at h<;>try (cases h;done)
  rename_i y ys hy hys
  cases h
  obtain ⟨h1,h2⟩:=n4 he hys
  exact ⟨.cons (aK he hy) h1,by simp [h2]⟩
theorem SV {n m:Operand} {x:O} {a:Act} (h:X5 n m=some x):dY n=some x/\a.eval m=a.eval n:=by
 unfold X5 at h
 split at h<;>try (cases h;done)
 ·split at h <;> try (cases h; done)
  rename_i e;subst e;cases h
  exact ⟨rfl,rfl⟩
 ·split at h <;> try (cases h; done)
  rename_i e;obtain ⟨e1,e2⟩:=e;subst e1;subst e2;cases h
  exact ⟨rfl,rfl⟩
theorem yU (h : Inv P Y ι μ H w) {aM : Nat} (hn : μ aM = none) {t e : TypeId} {ty : Ty} {k : Nat} {i : TypeInfo} {z : Value} (ht : P.underlying t = some (.slice e)) (he : kf P e = some k) (hi : P.info? e = some i) (hz : i.zero = some z)
  (h0:fR ty z.cells.toList=some []) (hk:ty.sz=k) {kk:IntKind} {m:Int} (hm0:0<=m) (hm:m<(cz:Int)) :
  ∃μ' x w',(Instr.makeSlice t (.int kk m) (.int kk m)).run P w = .ok x w'/\μ.le μ'/\(∀id,id≠aM->μ' id=μ id)/\Inv P Y ι μ' ⟨max H.next (aM+1),(aM,.arr ty (List.replicate m.toNat ty.zero) false)::cB aM H.bl⟩ w' /\
   Rel ι μ' (.sl aM ty 0 m.toNat) x:=by
 obtain ⟨i',z',hi',ql,hby,hzs,hsz⟩:=fW he
 rw [hi] at hi';cases hi'
 rw [hz] at ql;cases ql
 obtain ⟨us,HJ,hcell⟩:=gS (ι:=ι) h0
 simp only [List.append_nil] at HJ
 have hw:IntKind.i64.wrap m=m:=by
  apply kj
  unfold cz at hm
  simp [IntKind.min,IntKind.max,IntKind.bits,IntKind.signed]
  omega
 have hby2:(i.bytes:Int) * m<=2 ^ 48:=by
  have h1:(i.bytes:Int)<=1024:=by unfold lZ at hby;omega
  have h2:m<=1073741824:=by unfold cz at hm;omega
  have:=Int.mul_le_mul h1 h2 hm0 (by omega)
  omega
 have hlt:¬(2 ^ 48<(i.bytes:Int) * m):=by omega
 have fI:=bS.rep (D:=ak ι ty) (HJ▸hcell) m.toNat
 obtain ⟨μ',m1,m0,m2,m3⟩:=vn (rest:=[]) h hn fI e m.toNat (by simp) (by simp [fI.length (fun _ _=>ak.length)])
 have pM:=nZ z.cells.toList m.toNat
 refine ⟨μ',.slice (some ⟨w.heap.size,0,none⟩) m.toNat m.toNat,_,?_,m1,m0,m2,by simpa using m3⟩
 have mW:((List.replicate m.toNat z.cells.toList).flatten++[]).toArray=(Array.range (m.toNat * i.size)).map (fun j=>z.cells[j % z.cells.size]!):=by
  apply Array.ext'
  rw [List.append_nil,<-pM]
  simp [hzs]
 rw [mW]
 simp only [Instr.makeSlice,Sem.run_bind,run_underlying ht,Result.andThen_ok,asInt,asIntOf,Sem.run_pure,typeInfo,run_program,hi,hw]
 rw [if_neg (by simp;omega)]
 simp only [run_askRoom,Result.andThen_ok,sizeOf,Sem.run_bind,typeInfo,run_program,hi,Sem.run_pure]
 split
 ·rename_i h0
  have hr0:Array.range 0=#[]:=rfl
  simp [h0,newRow,hr0]
 ·simp [zeroValue,typeInfo,hi,hz,newRow]
theorem Fm (h : Inv P Y ι μ H w) {aM : Nat} (hn : μ aM = none) {t u e tt : TypeId} {ik : IntKind} {ty : Ty} {k : Nat} {i : TypeInfo} {z : Value} (ht : P.underlying t = some (.slice e)) (hu : P.underlying u = some (.int ik)) (he : kf P e = some k) (hi : P.info? e = some i) (hz : i.zero = some z)
  (h0:fR ty z.cells.toList=some []) (hk:ty.sz=k) {kk:IntKind} {m:Int} (hm0:0<=m) (hm:m<(cz:Int)) (a:Option Addr) :
  ∃μ' x w',(Builtin.append_ #[t,u] tt #[.slice a 0 0,.int kk m]).run P w = .ok x w'/\μ.le μ'/\(∀id,id≠aM->μ' id=μ id)/\Inv P Y ι μ' ⟨max H.next (aM+1),(aM,.arr ty (List.replicate m.toNat ty.zero) false)::cB aM H.bl⟩ w' /\
   Rel ι μ' (.sl aM ty 0 m.toNat) x:=by
 obtain ⟨i',z',hi',ql,hby,hzs,hsz⟩:=fW he
 rw [hi] at hi';cases hi'
 rw [hz] at ql;cases ql
 obtain ⟨us,HJ,hcell⟩:=gS (ι:=ι) h0
 simp only [List.append_nil] at HJ
 have hw:IntKind.i64.wrap m=m:=by
  apply kj
  unfold cz at hm
  simp [IntKind.min,IntKind.max,IntKind.bits,IntKind.signed]
  omega
 have hby2:m * (i.bytes:Int)<=2 ^ 48:=by
  have h1:(i.bytes:Int)<=1024:=by unfold lZ at hby;omega
  have h2:m<=1073741824:=by unfold cz at hm;omega
  have:=Int.mul_le_mul h2 h1 (by omega) (by omega)
  omega
 obtain ⟨n,rfl⟩:∃n:Nat,m=n:=⟨m.toNat,by omega⟩
 have hby3:¬(281474976710656<(n:Int) * (i.bytes:Int)):=by omega
 have hn0:¬((n:Int)<0):=by omega
 simp only [Int.toNat_natCast]
 by_cases M7:n=0
 ·subst M7
  refine ⟨μ,.slice a 0 0,w,?_,Mu.le_refl _,fun _ _=>rfl,h.HE hn ty false,.cg _ _ _ a⟩
  have hw0:IntKind.i64.wrap 0=0:=hw
  cases a<;>simp [Builtin.append_,run_underlying ht,run_underlying hu,sizeOf,typeInfo,hi,asInt,asIntOf,hw0,storeCells]
 ·have rF : n < cz := by omega
  have hfit:Builtin.nextslicecap n 0 * i.bytes<=281474976710656:=by
   refine growslice_fits (by omega) (Nat.le_trans (Nat.mul_le_mul (Nat.le_of_lt rF) hby) ?_)
   unfold cz lZ;decide
  have h63:¬(9223372036854775807<(n:Int)):=by unfold cz at rF;omega
  have h48:¬(281474976710656<Builtin.nextslicecap n 0 * i.bytes):=by omega
  have hf:(Builtin.firstCells i.size 0 (.slice a 0 0)).run P w.drew = .ok ([]:List Value).toArray w.drew:=by
   cases a with
   |none=>exact run_firstCells_none _ _ _ _ _
   |some a=>exact run_firstCells_some _ _ _ _ _ _ [] (by simp) (fun j u h=>by simp at h)
  have fI:=bS.rep (D:=ak ι ty) (HJ▸hcell) n
  have hl:=fI.length (fun _ _=>ak.length)
  have hge:=grownCap_ge w n 0 e
  obtain ⟨μ', m1, m0, m2, m3⟩ := vn (aM := aM) (rest := (Builtin.zeroCells z.cells (grownCap w n 0 e - n)).toList) h.drew hn fI e (grownCap w n 0 e) (by simpa using hge) (by
   have W2:(Builtin.zeroCells z.cells (grownCap w n 0 e - n)).toList.length=(grownCap w n 0 e - n) * ty.sz:=by
    rw [Array.length_toList,size_zeroCells,hzs,hsz,hk]
   rw [hl,W2,List.length_replicate,<-Nat.add_mul]
   exact Nat.mul_le_mul_right _ (by omega))
  have hzn:(Builtin.zeroCells z.cells n).toList=(List.replicate n z.cells.toList).flatten:=by
   rw [<-nZ z.cells.toList n]
   simp [Builtin.zeroCells]
  refine ⟨μ',.slice (some ⟨w.heap.size,0,none⟩) n (grownCap w n 0 e),_,?_,m1,m0,m2,by simpa using m3⟩
  have hnew:((List.replicate n z.cells.toList).flatten++(Builtin.zeroCells z.cells (grownCap w n 0 e - n)).toList).toArray=Builtin.zeroCells z.cells n++Builtin.zeroCells z.cells (grownCap w n 0 e - n):=by
   apply Array.ext'
   rw [<-hzn];simp
  rw [hnew]
  by_cases hs0:n * i.size=0
  ·have e0:Builtin.zeroCells z.cells n=#[]:=by
    apply Array.eq_empty_of_size_eq_zero
    rw [size_zeroCells,hzs];exact hs0
   simp [Builtin.append_,run_underlying ht,run_underlying hu,sizeOf,typeInfo,zeroValue,hi,hz,asInt,asIntOf,hw,hn0,hby3,M7,h63,h48,Question.forced,hf,newRow,grownCap,hs0,e0]
  ·simp [Builtin.append_,run_underlying ht,run_underlying hu,sizeOf,typeInfo,zeroValue,hi,hz,asInt,asIntOf,hw,hn0,hby3,M7,h63,h48,Question.forced,hf,newRow,grownCap,hs0]
theorem tu (h : Inv P Y ι μ H w) {aM : Nat} (hn : μ aM = none) {env : List (Nat × V)} {a : Act} (he : fS ι μ env a.tmps) {o : Oper} {i : I} (hI : M4 P o.op = some i) {ob : List Bool} {v : V} {u : dU}
  (aj:de (bM c1 c2 c3 c4 c5 c6 c7) i env H.bl aM=some (ob,v,u)) (cX:qm ob):Kv P Y ι μ H w aM (execOp a.eval o) v u i.lays:=by
 obtain ⟨dst,op,ty,pos,after,guard⟩:=o
 simp only at hI
 cases op<;>simp only [M4] at hI<;>try (cases hI;done)
 case panic x=>cases hI;simp [de,kV] at aj
 case range t x=>cases hI;simp [de,kV] at aj
 case next t x=>cases hI;simp [de,kV] at aj
 case entry t=>cases hI;simp [de,kV] at aj
 case move x =>
  cases hx:dY x<;>simp [hx] at hI
  subst hI;cases aj
  exact .pure h rfl (aK he hx)
 case assign x =>
  cases hx:dY x<;>simp [hx] at hI
  subst hI;cases aj
  exact .pure h rfl (aK he hx)
 case pick c x y =>
  split at hI<;>try (cases hI;done)
  rename_i c' x' y' hc hx hy
  cases hI
  have rc:=aK he hc
  have rx:=aK he hx
  have ry:=aK he hy
  simp only [de] at aj
  split at aj<;>try (cases aj;done)
  ·rename_i hce; rw [hce] at rc; cases aj
   generalize hg:a.eval c=cv at rc
   cases rc
   exact .pure h (by simp [execOp,hg,asBool]) rx
  ·rename_i hce; rw [hce] at rc; cases aj
   generalize hg:a.eval c=cv at rc
   cases rc
   exact .pure h (by simp [execOp,hg,asBool]) ry
  ·rename_i b hce; rw [hce] at rc
   split at aj<;>try (cases aj;done)
   rename_i p q hp hq
   cases aj
   generalize hg:a.eval c=cv at rc
   cases rc
   have ex:=kX hp rx
   have ey:=kX hq ry
   exact .pure h (x:=.bool (if b then p else q)) (by cases b<;>simp [execOp,hg,asBool,ex,ey]) (.bool _)
 case alloc e =>
  split at hI<;>try (cases hI;done)
  rename_i inf C9
  split at hI<;>try (cases hI;done)
  rename_i z hz
  split at hI
  ·rename_i ty m mW
   split at hI<;>try (cases hI;done)
   rename_i hzn
   cases hI
   obtain ⟨us,e1,fI⟩:=zJ (ι:=ι) hzn
   rw [List.append_nil] at e1
   simp only [de,kV,List.map_nil] at aj
   cases aj
   obtain ⟨μ',m1,m0,m2,m3⟩:=NT h hn fI e (n:=m) (by simp)
   rw [<-e1] at m2
   exact ⟨ι,μ',_,_,.inl (by simp [execOp,Instr.alloc,zeroValue,typeInfo,C9,hz,newVar,newRow];rfl),aB.le_refl _,m1,m0,by simpa [bV,I.lays,kQ.lays,gD] using m2,m3⟩
  cases hcs:yQ z.cells.toList<;>simp [hcs] at hI
  subst hI;cases aj
  obtain ⟨μ',m1,m0,m2,m3⟩:=zB h hn (nR hcs) (nS hcs) e
  exact ⟨ι,μ',_,_,.inl (by simp [execOp,Instr.alloc,zeroValue,typeInfo,C9,hz,newVar,newRow];rfl),aB.le_refl _,m1,m0,by simpa [bV,I.lays,gD] using m2,m3⟩
 case box e x =>
  split at hI
  ·rename_i ty m mW
   cases hx:dY x<;>simp [hx] at hI
   subst hI
   simp only [de,kV,List.map_cons,List.map_nil] at aj
   split at aj<;>try (cases aj;done)
   rename_i cs heq
   simp only [List.cons.injEq,and_true] at heq
   split at aj<;>try (cases aj;done)
   rename_i ys u0 hvn
   cases aj
   have rx:=aK he hx
   rw [heq] at rx
   obtain ⟨r1,r2⟩:=rx.cells rfl
   obtain ⟨z1,z2,z3,z4⟩:=we hvn r1
   obtain ⟨ι',hle,M8,hF⟩:=iS z1 h
   obtain ⟨μ',m1,m0,m2,m3⟩:=NT M8 hn (z4 ι' hle hF) e z2
   refine ⟨ι',μ',_,_,.inl (by simp [execOp,Instr.box,newVar,newRow];rfl),hle,m1,m0,?_,m3⟩
   rw [ef];simpa [bV,I.lays,kQ.lays,gD] using m2
  cases hx:dY x<;>simp [hx] at hI
  subst hI
  simp only [de] at aj
  split at aj<;>try (cases aj;done)
  rename_i cs hcs
  cases aj
  obtain ⟨r1,r2⟩:=(aK he hx).cells hcs
  obtain ⟨μ',m1,m0,m2,m3⟩:=zB h hn r1 r2 e
  exact ⟨ι,μ',_,_,.inl (by simp [execOp,Instr.box,newVar,newRow];rfl),aB.le_refl _,m1,m0,by simpa [bV,I.lays,gD] using m2,m3⟩
 case build t parts =>
  split at hI<;>try (cases hI;done)
  ·rename_i it fields hit hu
   split at hI<;>try (cases hI;done)
   rename_i z places hz hp
   split at hI<;>try (cases hI;done)
   rename_i zs ps hzs hps
   cases hI
   simp only [de] at aj
   split at aj<;>try (cases aj;done)
   rename_i cs hcs
   cases aj
   obtain ⟨out,f1,f2,f3⟩:=nW he hps hcs (nR hzs) (nS hzs)
   have hb:P.built t (parts.map fun (i,x)=>(i,a.eval x)).toList=some out:=by
    simp only [Program.built,hit,hu,hz,hp]
    rw [Array.toList_map];exact f1
   have hr:=run_build (P:=P) w t (parts.map fun (i,x)=>(i,a.eval x)) out hb
   refine .pure h (x:=.agg out) ?_ (.agg _ _ (by simpa using f2.1) (fun i v x hv hx=>f2.2 i v x hv (by simpa using hx)) f3)
   simp only [execOp,Sem.run_bind,hr];rfl
  ·rename_i it n e hit hu
   split at hI<;>try (cases hI;done)
   rename_i z places hz hp
   split at hI<;>try (cases hI;done)
   rename_i zs ps hzs hps
   cases hI
   simp only [de] at aj
   split at aj<;>try (cases aj;done)
   rename_i cs hcs
   cases aj
   obtain ⟨out,f1,f2,f3⟩:=nW he hps hcs (nR hzs) (nS hzs)
   have hb:P.built t (parts.map fun (i,x)=>(i,a.eval x)).toList=some out:=by
    simp only [Program.built,hit,hu,hz,hp]
    rw [Array.toList_map];exact f1
   have hr:=run_build (P:=P) w t (parts.map fun (i,x)=>(i,a.eval x)) out hb
   refine .pure h (x:=.agg out) ?_ (.agg _ _ (by simpa using f2.1) (fun i v x hv hx=>f2.2 i v x hv (by simpa using hx)) f3)
   simp only [execOp,Sem.run_bind,hr];rfl
 case buildSlice t n parts =>
  split at hI<;>try (cases hI;done)
  rename_i e hu
  split at hI<;>try (cases hI;done)
  rename_i tye k xs hty W8 hin
  split at hI<;>try (cases hI;done)
  rename_i jM
  obtain ⟨hsz,hlen,rF⟩:=jM
  cases hI
  simp only [de] at aj
  split at aj<;>try (cases aj;done)
  rename_i ys u0 hvl
  cases aj
  obtain ⟨q1,q2⟩:=n4 he hin
  obtain ⟨z1,z2,z3,z4⟩:=wg hvl q1
  obtain ⟨ι',hle,M8,hF⟩:=iS z1 h
  have fI:=z4 ι' hle hF
  obtain ⟨inf,zv,hi,hz,_,hzs,mX⟩:=fW W8
  have Yn:(parts.toList.map fun p=>a.eval p.2).length=n:=by have:=q1.1;simp at this;simp;omega
  obtain ⟨out, f1, f2⟩ := qn (k := k) (parts.toList.map fun p => a.eval p.2) 0
   ((Array.range (n * k)).map fun j=>(if n * k=0 then #[] else zv.cells)[j % (if n * k=0 then #[] else zv.cells).size]!) (fun v hv=>by rw [z3 v hv,hsz]) (by simp [<-Yn])
  obtain ⟨μ',m1,m0,m2,m3⟩:=vn (rest:=[]) M8 hn fI e ys.length (Nat.le_refl _) (by rw [fI.length (fun _ _=>ak.length)];simp)
  have hn:ys.length=xs.length:=by simpa using z2
  refine ⟨ι',μ',.slice (some ⟨w.heap.size,0,none⟩) n n,(w.alloc (.cells ((List.flatMap (fun (x:Value)=>x.cells.toList) (List.map (fun (p:Nat×Operand)=>a.eval p.2) parts.toList))++[]).toArray e)),.inl ?_,hle,m1,m0,?_,?_⟩
  rotate_left
  ·rw [ef];simpa [bV,I.lays,gD] using m2
  ·simpa [hn,hlen] using m3
  ·have hout:((List.flatMap (fun (x:Value)=>x.cells.toList) (List.map (fun (p:Nat×Operand)=>a.eval p.2) parts.toList))++[]).toArray=out:=by
    apply Array.ext';simp [f2]
   rw [hout]
   rw [<-q2,<-mX] at f1
   have hif:(if n * inf.size=0 then #[] else zv.cells)=(if n * k=0 then #[] else zv.cells):=by rw [mX]
   have hmap:(parts.map fun (i,x)=>(i,a.eval x)).toList=parts.toList.map fun (i,x)=>(i,a.eval x):=by simp
   simp only [execOp,Instr.buildSlice,Sem.run_bind,run_underlying hu,Result.andThen_ok,sizeOf,typeInfo,run_program,hi,Sem.run_pure]
   rw [if_neg (by rw [mX];omega)]
   by_cases h0:n * inf.size=0
   ·have NX : n * k = 0 := by rw [← mX]; exact h0
    rw [mX] at f1
    simp [NX] at f1
    simp [NX,mX,f1,newRow]
   ·have NX : ¬ n * k = 0 := by rw [← mX]; exact h0
    rw [mX] at f1
    simp [NX] at f1
    simp [NX,mX,zeroValue,typeInfo,hi,hz,f1,newRow]
 case load t x =>
  split at hI<;>try (cases hI;done)
  rename_i k g x' hk hg hx
  cases hI
  obtain ⟨rfl,y,hy,hr⟩:=wh h hk hg (aK he hx) aj cX
  exact .pure h (by simp only [execOp,Sem.run_bind,hy];rfl) hr
 case store t pa x =>
  split at hI<;>try (cases hI;done)
  rename_i k a' x' hk ha hx
  cases hI
  obtain ⟨ι',w',hy,hle,hinv,rfl⟩:=CX h hk (aK he hx) (aK he ha) aj cX
  exact ⟨ι',μ,undef,w',.inr ⟨by simp only [execOp,Sem.run_bind,hy];rfl,rfl⟩,hle,Mu.le_refl _,fun _ _=>rfl,hinv,.any _⟩
 case binOp op t x y yt =>
  unfold Hu at hI
  split at hI
  ·split at hI <;> try (cases hI; done)
   rename_i e x' ng hu hx hop
   cases hI
   simp only [de,List.map_cons,List.map_nil] at aj
   obtain ⟨rfl,z,hz,hr⟩:=C4 (w:=w) hu hop (xo:=x) (yo:=.const (.slice none 0 0)) (aK he hx) aj
   exact .pure h (by simp only [execOp,Act.eval,Sem.run_bind] at hz ⊢;rw [hz];rfl) hr
  ·split at hI <;> try (cases hI; done)
   rename_i k e x' ng hu hx hop
   cases hI
   simp only [de,List.map_cons,List.map_nil] at aj
   obtain ⟨rfl,z,hz,hr⟩:=A8 (w:=w) hu hop (xo:=x) (yo:=.const (.map none)) (aK he hx) aj
   exact .pure h (by simp only [execOp,Act.eval,Sem.run_bind] at hz ⊢;rw [hz];rfl) hr
  ·split at hI <;> try (cases hI; done)
   rename_i e x' ng hu hx hop
   cases hI
   simp only [de,List.map_cons,List.map_nil] at aj
   obtain ⟨rfl,z,hz,hr⟩:=A9 (w:=w) hu hop (xo:=x) (yo:=.const (.pointer none)) (aK he hx) aj
   exact .pure h (by simp only [execOp,Act.eval,Sem.run_bind] at hz ⊢;rw [hz];rfl) hr
  split at hI<;>try (cases hI;done)
  rename_i x' y' hx hy
  have rx:=aK he hx
  have ry:=aK he hy
  split at hI
  ·rename_i ks hks
   split at hI<;>try (cases hI;done)
   rename_i ng hng
   cases hI
   simp only [de] at aj
   split at aj<;>try (cases aj;done)
   rename_i as bs eF hye
   rw [eF] at rx
   rw [hye] at ry
   split at aj<;>try (cases aj;done)
   rename_i c hc
   cases aj
   generalize mQ:a.eval x=xv at rx
   generalize hgy:a.eval y=yv at ry
   cases rx with
   |agg _ xa p1 p2 p3 =>
   cases ry with
   |agg _ ya q1 q2 q3 =>
   have hrun:P.eqGuardType P.depth t=false/\(Op.equal t (.agg xa) (.agg ya)).run P w = .ok c w:=by
    unfold structEq at hks
    split at hks<;>try (cases hks;done)
    ·rename_i fs hu
     split at hks<;>try (cases hks;done)
     rename_i jM
     have hfo:P.fieldsOf t=fs:=by simp [Program.fieldsOf,hu]
     refine ⟨jM.1,?_⟩
     have e1:=run_equalIn_struct (P:=P) w 9999 t xa ya (by rw [hfo];exact hu) jM.2
     rw [hfo] at e1
     have e2 := gm (d := 9997) (w := w) (P := P) (ι := ι) (μ := μ) hks (xs := xa) (ys := ya) ⟨by simpa using p1, fun i v x hv hx => p2 i v x hv (by simpa using hx)⟩
      ⟨by simpa using q1,fun i v x hv hx=>q2 i v x hv (by simpa using hx)⟩ hc
     exact e1.trans e2
    ·split at hks <;> try (cases hks; done)
     rename_i jM
     exact ⟨jM, (NP (d := 9998) (w := w) (P := P) (ι := ι) (μ := μ) hks (xs := xa) (ys := ya) ⟨by simpa using p1, fun i v x hv hx => p2 i v x hv (by simpa using hx)⟩
      ⟨by simpa using q1,fun i v x hv hx=>q2 i v x hv (by simpa using hx)⟩ hc).1⟩
   obtain ⟨hg0,hrun⟩:=hrun
   have NY:∀op',(eqGuard op' t x y (.agg xa) (.agg ya)).run P w = .ok () w:=fun op'=>by
    cases op'<;>first|rfl|simp [eqGuard,hg0]
   cases op<;>simp [jL] at hng<;>subst hng
   ·exact .pure h (x:=.bool c) (by simp only [execOp,Sem.run_bind,mQ,hgy,NY,Result.andThen_ok,binOp,hrun];rfl) (.bool _)
   ·exact .pure h (x:=.bool (!c)) (by simp only [execOp,Sem.run_bind,mQ,hgy,NY,Result.andThen_ok,binOp,hrun];rfl) (.bool _)
  ·split at hI <;> try (cases hI; done)
   ·rename_i hu
    cases hb:jL op<;>simp [hb] at hI
    subst hI
    simp only [de] at aj
    split at aj<;>try (cases aj;done)
    rename_i p q hp hq
    cases aj
    have ex:=kX hp rx
    have ey:=kX hq ry
    have hg:=cE (P:=P) (w:=w) op t x y (a:=.bool p) (b:=.bool q) (by simp) (by simp)
    have heq:(Op.equal t (.bool p) (.bool q)).run P w = .ok (p==q) w:=run_equalIn_bool' w 9999 t p q hu
    cases op<;>simp [jL] at hb<;>subst hb
    ·exact .pure h (x:=.bool (p==q)) (by simp only [execOp,Sem.run_bind,ex,ey,hg,Result.andThen_ok,binOp,heq];rfl) (.bool _)
    ·exact .pure h (x:=.bool (!(p==q))) (by simp only [execOp,Sem.run_bind,ex,ey,hg,Result.andThen_ok,binOp,heq];rfl) (.bool _)
   ·cases hb : vT op <;> simp [hb] at hI
    subst hI
    obtain ⟨rfl,z,hz,hr⟩:=zD (w:=w) hb (t:=t) (xo:=x) (yo:=y) rx ry rfl rfl aj cX
    exact .pure h (by simp only [execOp,Sem.run_bind] at hz ⊢;rw [hz];rfl) hr
   ·cases hb : vT op <;> simp [hb] at hI
    subst hI
    obtain ⟨rfl,z,hz,hr⟩:=zD (w:=w) hb (t:=t) (xo:=x) (yo:=y) rx ry rfl rfl aj cX
    exact .pure h (by simp only [execOp,Sem.run_bind] at hz ⊢;rw [hz];rfl) hr
 case unOp op t x =>
  cases op<;>simp only [M4] at hI<;>try (cases hI;done)
  all_goals
   cases hx:dY x<;>simp [hx] at hI
   subst hI
   have rx:=aK he hx
   simp only [de] at aj
   generalize hg:a.eval x=xv at rx
  ·split at aj <;> try (cases aj; done)
   rename_i k n eF
   rw [eF] at rx
   split at aj
   ·cases aj
    cases rx
    have hw:=kj (cX _ (List.mem_singleton.2 rfl))
    simp only [Int.zero_sub] at hw
    exact .pure h (x:=.int k (0 - n)) (by simp [execOp,hg,Op.unary,Op.intArith,hw]) (.int _ _)
   ·cases aj
    cases rx
    exact .pure h (x:=.int k (k.wrap (0 - n))) (by simp [execOp,hg,Op.unary,Op.intArith]) (.int _ _)
  ·split at aj <;> try (cases aj; done)
   ·rename_i b eF
    rw [eF] at rx
    cases aj
    cases rx
    exact .pure h (x:=.bool (!b)) (by simp [execOp,hg,Op.unary]) (.tf _)
   ·rename_i b eF
    rw [eF] at rx
    cases aj
    cases rx
    exact .pure h (x:=.bool (!b)) (by simp [execOp,hg,Op.unary]) (.bool _)
 case convert s d x =>
  split at hI<;>try (cases hI;done)
  rotate_left
  rotate_left
  ·rename_i e hs hd
   split at hI<;>try (cases hI;done)
   rename_i hue
   cases hx:dY x<;>simp [hx] at hI
   subst hI
   have rx:=aK he hx
   simp only [de,kV,List.map_cons,List.map_nil] at aj
   split at aj<;>try (cases aj;done)
   rename_i ys hys
   cases aj
   exact .pure h (x:=.string (CL ys)) (by simp only [execOp,Sem.run_bind,Fl h hs hd hue hys rx];rfl) (.str _)
  rotate_left
  ·rename_i e hs hd
   split at hI<;>try (cases hI;done)
   rename_i hue
   cases hx:dY x<;>simp [hx] at hI
   subst hI
   have rx:=aK he hx
   simp only [de,kV,List.map_cons,List.map_nil] at aj
   split at aj<;>try (cases aj;done)
   rename_i s0 heq
   simp only [List.cons.injEq,and_true] at heq
   rw [heq] at rx
   cases aj
   generalize hg:a.eval x=xv at rx
   cases rx
   obtain ⟨ι',y,w',r1,r2,r3,r4⟩:=C6 h hs hd hue (s:=s0)
   exact ⟨ι',μ,y,w',.inl (by simp only [execOp,hg,Sem.run_bind,r1];rfl),r2,Mu.le_refl _,fun _ _=>rfl,r3,r4⟩
  rename_i k0 k hs hd
  cases hx:dY x<;>simp [hx] at hI
  subst hI
  have rx:=aK he hx
  simp only [de] at aj
  generalize hg:a.eval x=xv at rx
  split at aj<;>try (cases aj;done)
  rename_i k1 n eF
  rw [eF] at rx
  cases aj
  cases rx
  have hw:=kj (cX _ (List.mem_singleton.2 rfl))
  exact .pure h (x:=.int k n) (by simp [execOp,hg,convert,run_underlying hs,run_underlying hd,Conv.intToInt,hw]) (.int _ _)
 case makeFunc f fs cs =>
  cases f<;>simp only [M4] at hI<;>try (cases hI;done)
  rename_i fid
  split at hI<;>try (cases hI;done)
  rename_i fs' cs' h1 h2
  cases hI;cases aj
  have r1:=iz he h1
  have r2:=iz he h2
  refine .pure h (x:=.func (.func fid) (fs.map a.eval) (cs.map a.eval)) (by simp [execOp,Instr.makeFunc]) ?_
  exact .fn _ _ _ _ _ (by simpa using r1.1) (fun i v x hv hx=>r1.2 i v x hv (by simpa using hx)) (by simpa using r2.1) (fun i v x hv hx=>r2.2 i v x hv (by simpa using hx))
 case makeSlice t n m =>
  split at hI<;>try (cases hI;done)
  rename_i xn hsam
  obtain ⟨hxn,hmn⟩:=SV (a:=a) hsam
  split at hI<;>try (cases hI;done)
  rename_i e hu
  split at hI<;>try (cases hI;done)
  rename_i tye k inf hty W8 C9
  split at hI<;>try (cases hI;done)
  rename_i z hz
  split at hI<;>try (cases hI;done)
  rename_i M7
  split at hI<;>try (cases hI;done)
  rename_i jM
  cases hI
  simp only [de] at aj
  split at aj<;>try (cases aj;done)
  rename_i kk mm eF
  cases aj
  have rx:=aK he hxn
  rw [eF] at rx
  have hb:=cX _ (List.mem_singleton.2 rfl)
  simp only [decide_eq_true_eq] at hb
  generalize hg:a.eval n=xv at rx
  cases rx
  obtain ⟨μ',x,w',r1,r2,r0,r3,r4⟩:=yU h hn hu W8 C9 hz M7 jM.1 (kk:=kk) hb.1 hb.2
  refine ⟨ι,μ',x,w',.inl ?_,aB.le_refl _,r2,r0,by simpa [bV,I.lays,gD] using r3,r4⟩
  simp only [execOp,hmn,hg,Sem.run_bind,r1];rfl
 case slice t x lo hi mx =>
  split at hI<;>try (cases hI;done)
  ·rename_i e hu
   split at hI<;>try (cases hI;done)
   rename_i k x' lo' hi' NQ hk hx h1 h2 h3
   cases hI
   obtain ⟨rfl,y,hy,hr⟩:=C1 (w:=w) he hu hk (aK he hx) h1 h2 h3 aj cX
   exact .pure h (by simp only [execOp,Sem.run_bind,hy];rfl) hr
  ·rename_i n e hu
   split at hI<;>try (cases hI;done)
   rename_i k hk
   cases hx:dY x with
   |none=>simp [hx] at hI
   |some x' =>
    simp [hx] at hI;subst hI
    simp only [de,List.map_cons,List.map_nil] at aj
    obtain ⟨rfl,y,hy,hr⟩:=Fj (w:=w) h hu hk (aK he hx) aj
    exact .pure h (by simp only [execOp,Sem.run_bind,Option.map_none,hy];rfl) hr
 case fieldAddr s x f =>
  split at hI<;>try (cases hI;done)
  rename_i fd n hfd
  split at hI<;>try (cases hI;done)
  rename_i k x' hk hx
  cases hI
  obtain ⟨fs,hu,hf⟩:=pR hfd
  obtain ⟨rfl,b,o,hp,hr⟩:=zE (aK he hx) aj cX
  obtain ⟨_,_,_,hsz⟩:=jY hk
  refine .pure h ?_ hr
  simp [execOp,Instr.fieldAt,run_underlying hu,hf,hp,Instr.sureAddr,fieldPlace,hsz,Addr.add_mid]
 case field s x f =>
  split at hI<;>try (cases hI;done)
  rename_i fd n hfd
  split at hI<;>try (cases hI;done)
  rename_i k g x' hk hg hx
  cases hI
  obtain ⟨fs,hu,hf⟩:=pR hfd
  have rx:=aK he hx
  simp only [de] at aj
  split at aj<;>try (cases aj;done)
  rename_i cs eF
  rw [eF] at rx
  split at aj<;>try (cases aj;done)
  rename_i vs wj
  split at aj<;>try (cases aj;done)
  rename_i v' Kw
  cases aj
  generalize mQ:a.eval x=xv at rx
  cases rx with
  |agg _ xa p1 p2 p3 =>
   have hR:aR ι μ cs xa.toList:=⟨by simpa using p1,fun i v x hv hx=>p2 i v x hv (by simpa using hx)⟩
   obtain ⟨r1,r2,r3⟩:=hR.rz wj
   obtain ⟨y,hy,hv⟩:=tj Kw r1 (fun u hu=>p3 u (List.mem_of_mem_drop (List.mem_of_mem_take hu)))
   obtain ⟨_,_,_,hsz⟩:=jY hk
   have jF:=NW hg
   refine .pure h (x:=y) ?_ hv
   cases g with
   |true =>
    cases hy
    have:(List.take k (List.drop fd.offset xa.toList)).toArray=xa.extract fd.offset (fd.offset+k):=by
     apply Array.ext';simp [List.extract_eq_take_drop]
    simp [execOp,mQ,Instr.field,run_underlying hu,hf,asAgg,part,jF,hsz,this]
   |false =>
    have hl:=C8 hy
    have hc:xa[fd.offset]?=some y:=by
     have h0:(List.take k (List.drop fd.offset xa.toList))[0]?=some y:=by rw [hl];rfl
     rw [List.getElem?_take] at h0
     split at h0
     ·simpa using h0
     ·cases h0
    simp [execOp,mQ,Instr.field,run_underlying hu,hf,asAgg,part,jF,hc]
 case indexAddr t x i =>
  split at hI<;>try (cases hI;done)
  ·rename_i e x' i' hu hx hi
   cases hk:dA P e<;>simp [hk] at hI
   subst hI
   rename_i k
   obtain ⟨rfl,kk,m,b,o,len,cap,e1,e2,h0,h1,hr⟩:=Kx (aK he hx) (aK he hi) aj cX
   obtain ⟨_,_,_,hsz⟩:=jY hk
   refine .pure h ?_ hr
   simp [execOp,Instr.indexAt,e1,e2,asIntOf,run_underlying hu,h0,h1,hsz,Addr.add_mid]
  ·rename_i n e x' kk m hu hx hi
   split at hI<;>try (cases hI;done)
   rename_i k hk
   split at hI<;>try (cases hI;done)
   rename_i hmn
   cases hI
   obtain ⟨rfl,b,o,hp,hr⟩:=zE (aK he hx) aj cX
   obtain ⟨_,_,_,hsz⟩:=jY hk
   have ri:=aK he hi
   simp only [O.ev] at ri
   generalize KB:a.eval i=iv at ri
   cases ri
   have hm':(m:Int)<n:=by omega
   refine .pure h ?_ hr
   simp [execOp,Instr.indexAt,KB,hp,asIntOf,run_underlying hu,hsz,Addr.add_mid,Instr.sureAddr,hmn]
  ·rename_i n e x' i' _ hu hx hi
   cases hk:dA P e<;>simp [hk] at hI
   subst hI
   rename_i k
   obtain ⟨_,_,_,hsz⟩:=jY hk
   have rx:=aK he hx
   have ri:=aK he hi
   simp only [de] at aj
   split at aj<;>try (cases aj;done)
   ·rename_i id t m eF
    rw [eF] at rx
    split at aj<;>try (cases aj;done)
    rename_i kk j EX
    rw [EX] at ri
    split at aj<;>try (cases aj;done)
    rename_i hc
    obtain ⟨Yi,hc2⟩:=hc
    cases aj
    have hb:=cX _ (List.mem_singleton.2 rfl)
    simp only [decide_eq_true_eq] at hb
    generalize KB:a.eval i=iv at ri
    cases ri
    generalize mQ:a.eval x=xv at rx
    cases rx with
    |pa _ _ _ L hL hm =>
     have h1:j<(n:Int):=hb.2
     have hr:=Rel.ep (ι:=ι) id t j.toNat [] L hL
     have h0:t.b7 []=0:=by cases t<;>rfl
     rw [h0,Nat.add_zero,Yi] at hr
     refine .pure h (x:=.pointer (some ⟨L.b,L.ba+j.toNat * k,none⟩)) ?_ hr
     simp [execOp,Instr.indexAt,KB,mQ,asIntOf,run_underlying hu,hsz,Addr.add_mid,Instr.sureAddr,hb.1,h1]
   ·rename_i t xs eF
    rw [eF] at rx
    split at aj<;>try (cases aj;done)
    rename_i kk j EX
    rw [EX] at ri
    split at aj<;>try (cases aj;done)
    rename_i Yi
    cases aj
    have hb:=cX _ (List.mem_cons_self)
    have iw:=cX _ (List.mem_cons_of_mem _ (List.mem_cons_self))
    simp only [decide_eq_true_eq] at hb iw
    generalize KB:a.eval i=iv at ri
    cases ri
    generalize mQ:a.eval x=xv at rx
    cases rx with
    |jP _ _ b o us h1 h2 =>
     have h3:j<(n:Int):=hb.2
     have h4:j<(xs.length:Int):=iw.2
     have Fe:xs[j.toNat]?=some (xs.getD j.toNat t.zero):=by simp [List.getD,show j.toNat<xs.length by omega]
     have hcell:=h2.at (fun _ _=>ak.length) Fe
     refine .pure h (x:=.pointer (some ⟨b,o+j.toNat * k,none⟩)) ?_ (by rw [<-Yi];exact .ip t _ b _ _ (h1.sub (j.toNat * t.sz) t.sz) hcell)
     simp [execOp,Instr.indexAt,KB,mQ,asIntOf,run_underlying hu,hsz,Addr.add_mid,Instr.sureAddr,hb.1,h3]
   ·rename_i id off eF
    rw [eF] at rx
    split at aj<;>try (cases aj;done)
    rename_i kk j EX
    rw [EX] at ri
    cases aj
    have hb:=cX _ (List.mem_singleton.2 rfl)
    simp only [decide_eq_true_eq] at hb
    have kP:j<(n:Int):=hb.2
    generalize KB:a.eval i=iv at ri
    cases ri
    generalize mQ:a.eval x=xv at rx
    cases rx with
    |ptr _ _ L hL =>
     have hr:=Rel.sp (ι:=ι) id off [(k,n,j)] L hL (fun x hx=>by
      rcases List.mem_singleton.1 hx with rfl
      exact ⟨hb.1,kP⟩)
     simp only [ke,Nat.add_zero,<-Nat.add_assoc] at hr
     refine .pure h (x:=.pointer (some ⟨L.b,L.ba+off+j.toNat * k,none⟩)) ?_ hr
     simp [execOp,Instr.indexAt,KB,mQ,asIntOf,run_underlying hu,hsz,Addr.add_mid,Instr.sureAddr,hb.1,kP]
   ·rename_i id off l eF
    rw [eF] at rx
    split at aj<;>try (cases aj;done)
    rename_i kk j EX
    rw [EX] at ri
    cases aj
    have hb:=cX _ (List.mem_singleton.2 rfl)
    simp only [decide_eq_true_eq] at hb
    have kP:j<(n:Int):=hb.2
    generalize KB:a.eval i=iv at ri
    cases ri
    generalize mQ:a.eval x=xv at rx
    cases rx with
    |sp _ _ _ L hL hbn =>
     have hr:=Rel.sp (ι:=ι) id off ((k,n,j)::l) L hL (fun x hx=>by
      rcases List.mem_cons.1 hx with rfl|hx
      ·exact ⟨hb.1,kP⟩
      ·exact hbn x hx)
     have e:L.ba+(off+ke ((k,n,j)::l))=L.ba+(off+ke l)+j.toNat * k:=by simp only [ke];omega
     rw [e] at hr
     refine .pure h (x:=.pointer (some ⟨L.b,L.ba+(off+ke l)+j.toNat * k,none⟩)) ?_ hr
     simp [execOp,Instr.indexAt,KB,mQ,asIntOf,run_underlying hu,hsz,Addr.add_mid,Instr.sureAddr,hb.1,kP]
   ·rename_i cs eF
    rw [eF] at rx
    split at aj<;>try (cases aj;done)
    rename_i kk m EX
    rw [EX] at ri
    split at aj<;>try (cases aj;done)
    rename_i hmn
    generalize KB:a.eval i=iv at ri
    cases ri
    have hm':(m:Int)<n:=by omega
    split at aj<;>try (cases aj;done)
    rename_i hle
    cases aj
    generalize mQ:a.eval x=xv at rx
    cases rx with
    |av _ b o g h1 h2 h3 =>
     refine .pure h (x:=.pointer (some ⟨b,o+m * k,none⟩)) ?_ (.av _ b (o+m * k) (fun i=>g (m * k+i)) (fun i hi=>?_) (fun i v hv=>?_) (fun i=>h3 _))
     ·simp [execOp,Instr.indexAt,KB,mQ,asIntOf,run_underlying hu,hsz,Addr.add_mid,Instr.sureAddr,hmn]
     ·rw [Nat.add_assoc];exact h1 _ (by simp at hi;omega)
     ·exact h2 _ v (by simpa using hv)
  ·unfold AY at hI
   split at hI<;>try (cases hI;done)
   rename_i g _ _ _
   split at hI<;>try (cases hI;done)
   rename_i n e c8 i' hu hg hi
   split at hI<;>try (cases hI;done)
   rename_i hue hk
   split at hI<;>try (cases hI;done)
   rename_i hlen
   cases hI
   obtain ⟨_,_,_,hsz⟩:=jY hk
   have rx:=h.c8.rel μ hg
   have ri:=aK he hi
   simp only [de,O.ev] at aj
   split at aj<;>try (cases aj;done)
   rename_i kk j EX
   have hie':i'.ev env=V.int kk j:=EX
   rw [hie'] at ri
   split at aj<;>try (cases aj;done)
   cases aj
   have hb:=cX _ (List.mem_cons_self)
   have iw:=cX _ (List.mem_cons_of_mem _ (List.mem_cons_self))
   simp only [decide_eq_true_eq] at hb iw
   generalize KB:a.eval i=iv at ri
   cases ri
   cases rx with
   |jP _ _ b o us h1 h2 =>
    have h3:j<(n:Int):=hb.2
    have Fe:c8[j.toNat]?=some (c8.getD j.toNat (Ty.zero (.int .u8))):=by simp [List.getD,show j.toNat<c8.length by omega]
    have hcell:=h2.at (fun _ _=>ak.length) Fe
    refine .pure h (x:=.pointer (some ⟨g,0+j.toNat * 1,none⟩)) ?_ (.ip (.int .u8) _ g _ _ (h1.sub (j.toNat * 1) 1) hcell)
    have mQ:a.eval (.global g) = .pointer (some ⟨g,0,none⟩):=rfl
    simp [execOp,Instr.indexAt,KB,mQ,asIntOf,run_underlying hu,hsz,Addr.add_mid,Instr.sureAddr,hb.1,h3]
 case index t x i =>
  split at hI<;>try (cases hI;done)
  ·rename_i n e x' i' hu hx hi
   split at hI<;>try (cases hI;done)
   rename_i k g hk hg
   cases hI
   simp only [de,List.map_cons,List.map_nil] at aj
   obtain ⟨rfl,y,hy,hr⟩:=C2 (w:=w) hu hk hg (aK he hx) (aK he hi) aj cX
   exact .pure h (by simp only [execOp,Sem.run_bind,hy];rfl) hr
  ·rename_i x' i' hu hx hi
   cases hI
   simp only [de,List.map_cons,List.map_nil] at aj
   obtain ⟨rfl,y,hy,hr⟩:=C3 (w:=w) hu (aK he hx) (aK he hi) aj cX
   exact .pure h (by simp only [execOp,Sem.run_bind,hy];rfl) hr
 case makeMap t r =>
  cases r<;>simp only [M4] at hI<;>try (cases hI;done)
  split at hI<;>try (cases hI;done)
  rename_i kt kg vt vg hm
  cases hI
  simp only [de,kV,List.map_nil] at aj
  cases aj
  obtain ⟨μ',x,w',r1,r2,r0,r3,r4⟩:=C5 h hn t kt vt kg vg
  exact ⟨ι,μ',x,w',.inl (by simp only [execOp,Option.map_none,Sem.run_bind,r1];rfl),aB.le_refl _,r2,r0,by simpa [bV,I.lays,kQ.lays,gD] using r3,r4⟩
 case lookup t x i ok =>
  split at hI<;>try (cases hI;done)
  rename_i kt kg vt vg x' i' hm hx hi
  cases hI
  simp only [de,List.map_cons,List.map_nil] at aj
  obtain ⟨rfl,y,hy,hr⟩:=Fi h hm (aK he hx) (aK he hi) aj
  exact .pure h (by simp only [execOp,Sem.run_bind,hy];rfl) hr
 case mapUpdate t m k x =>
  split at hI<;>try (cases hI;done)
  rename_i kt kg vt vg m' k' x' hm hm' hk hx
  cases hI
  simp only [de,List.map_cons,List.map_nil] at aj
  obtain ⟨w',hy,hinv,rfl⟩:=wD h hm (aK he hm') (aK he hk) (aK he hx) aj
  exact ⟨ι,μ,undef,w',.inr ⟨by simp only [execOp,Sem.run_bind,hy];rfl,rfl⟩,aB.le_refl _,Mu.le_refl _,fun _ _=>rfl,hinv,.any _⟩
 case insert t m k x =>
  split at hI<;>try (cases hI;done)
  rename_i kt kg vt vg m' k' x' hm hm' hk hx
  cases hI
  simp only [de,List.map_cons,List.map_nil] at aj
  obtain ⟨w',hy,hinv,rfl⟩:=wD h hm (aK he hm') (aK he hk) (aK he hx) aj
  exact ⟨ι,μ,undef,w',.inr ⟨by simp only [execOp,Sem.run_bind,hy];rfl,rfl⟩,aB.le_refl _,Mu.le_refl _,fun _ _=>rfl,hinv,.any _⟩
 case nilCheck x =>
  cases hx:dY x<;>simp [hx] at hI
  subst hI
  have rx:=aK he hx
  simp only [de,kV,List.map_cons,List.map_nil] at aj
  split at aj<;>try (cases aj;done)
  ·rename_i t v heq
   cases aj
   simp only [List.cons.injEq,and_true] at heq
   rw [heq] at rx
   generalize mQ:a.eval x=xv at rx
   cases rx with
   |bU _ _ y hr=>exact .pure h (x:=.iface t y) (by simp [execOp,mQ]) (.bU t _ _ hr)
  ·rename_i id o heq
   cases aj
   simp only [List.cons.injEq,and_true] at heq
   rw [heq] at rx
   generalize mQ:a.eval x=xv at rx
   cases rx with
   |ptr _ _ L hL=>exact .pure h (by simp [execOp,mQ]) (.ptr id o L hL)
  ·rename_i cs heq
   cases aj
   simp only [List.cons.injEq,and_true] at heq
   rw [heq] at rx
   generalize mQ:a.eval x=xv at rx
   cases rx with
   |av _ b o g h1 h2 h3=>exact .pure h (by simp [execOp,mQ]) (.av _ b o g h1 h2 h3)
 case makeInterface t x =>
  split at hI<;>try (cases hI;done)
  rename_i d hni hu
  cases hx:dY x<;>simp [hx] at hI
  subst hI
  simp only [de,kV,List.map_cons,List.map_nil] at aj
  cases aj
  refine .pure h (x:=.iface t (a.eval x)) ?_ (.bU t _ _ (aK he hx))
  have:(Instr.makeInterface t (a.eval x)).run P w = .ok (.iface t (a.eval x)) w:=by
   unfold Instr.makeInterface
   rw [Sem.run_bind,run_underlying hu w]
   cases d<;>first|rfl|exact absurd rfl (hni _)
  simp only [execOp,Sem.run_bind,this];rfl
 case extract x k =>
  cases hx:dY x<;>simp [hx] at hI
  subst hI
  have rx:=aK he hx
  simp only [de] at aj
  split at aj<;>try (cases aj;done)
  rename_i vs eF
  rw [eF] at rx
  split at aj<;>try (cases aj;done)
  rename_i v' hv
  cases aj
  generalize mQ:a.eval x=xv at rx
  cases rx with
  |cG _ xa p1 p2 =>
   have hk:=(List.getElem?_eq_some_iff.1 hv).1
   have hxk:xa[k]?=some (xa[k]'(by omega)):=by simp
   exact .pure h (x:=xa[k]'(by omega)) (by simp only [execOp,mQ,Instr.extract,hxk];rfl) (p2 k _ _ hv hxk)
 case call c =>
  obtain ⟨callee,args,argTypes⟩:=c
  cases callee<;>simp only [M4] at hI<;>try (cases hI;done)
  rename_i b
  obtain ⟨args,rfl⟩:∃l:List Operand,l.toArray=args:=⟨args.toList,by simp⟩
  obtain ⟨argTypes,rfl⟩:∃l:List TypeId,l.toArray=argTypes:=⟨argTypes.toList,by simp⟩
  simp only at hI
  unfold trB at hI
  split at hI<;>try (cases hI;done)
  ·-- len
   rename_i t x
   split at hI<;>try (cases hI;done)
   ·rename_i hu
    cases hx:dY x<;>simp [hx] at hI
    subst hI
    have rx:=aK he hx
    simp only [de] at aj
    generalize mQ:a.eval x=xv at rx
    split at aj<;>try (cases aj;done)
    rename_i s eF
    rw [eF] at rx
    cases aj
    cases rx
    exact .pure h (x:=.int .i64 s.size) (by simp [execOp,resolve,invoke,builtin,Builtin.len_,mQ,run_underlying hu,goInt]) (.int _ _)
   ·rename_i e hu
    cases hx:dY x<;>simp [hx] at hI
    subst hI
    have rx:=aK he hx
    simp only [de] at aj
    generalize mQ:a.eval x=xv at rx
    split at aj<;>try (cases aj;done)
    ·rename_i _ _ _ m eF
     rw [eF] at rx
     cases aj
     cases rx with
     |sl=>exact .pure h (x:=.int .i64 m) (by simp [execOp,resolve,invoke,builtin,Builtin.len_,mQ,run_underlying hu,goInt]) (.int _ _)
     |cg=>exact .pure h (x:=.int .i64 (0:Nat)) (by simp [execOp,resolve,invoke,builtin,Builtin.len_,mQ,run_underlying hu,goInt]) (.int _ _)
    ·rename_i t' xs eF
     rw [eF] at rx
     cases aj
     cases rx with
     |eG _ _ _ hd =>
      obtain ⟨b,cap,e',_⟩:=hd
      cases e'
      exact .pure h (x:=.int .i64 xs.length) (by simp [execOp,resolve,invoke,builtin,Builtin.len_,mQ,run_underlying hu,goInt]) (.int _ _)
    ·rename_i eF
     rw [eF] at rx
     cases aj
     cases rx
     exact .pure h (x:=.int .i64 0) (by simp [execOp,resolve,invoke,builtin,Builtin.len_,mQ,run_underlying hu,goInt]) (.int _ _)
   ·rename_i n e hu
    cases hI;cases aj
    exact .pure h (x:=.int .i64 n) (by simp [execOp,resolve,invoke,builtin,Builtin.len_,run_underlying hu,goInt]) (.int _ _)
   ·rename_i k0 e0 hu
    cases hx:dY x<;>simp [hx] at hI
    subst hI
    simp only [de,List.map_cons,List.map_nil] at aj
    obtain ⟨rfl,y,hy,hr⟩:=Fk (ty:=ty) h hu (aK he hx) aj
    exact .pure h (by simp [execOp,resolve,invoke,builtin,hy]) hr
   ·rename_i arr hu
    split at hI<;>try (cases hI;done)
    rename_i n e hu2
    cases hI;cases aj
    exact .pure h (x:=.int .i64 n) (by simp [execOp,resolve,invoke,builtin,Builtin.len_,run_underlying hu,run_underlying hu2,goInt]) (.int _ _)
  ·-- append
   rename_i t u' x y
   split at hI<;>try (cases hI;done)
   ·rename_i e e' hu hu'
    split at hI<;>try (cases hI;done)
    rename_i k x' y' hk hx hy
    cases hI
    obtain ⟨μ',z,w',r1,r2,r0,r3,r4⟩:=A7 (ty:=ty) h hn hu hu' hk (aK he hx) (aK he hy) aj cX
    exact ⟨ι,μ',z,w',.inl (by simp [execOp,resolve,invoke,builtin,r1]),aB.le_refl _,r2,r0,by simpa [I.lays,gD] using r3,r4⟩
   ·rename_i e ik hu hu'
    split at hI<;>try (cases hI;done)
    rename_i tye k inf hty W8 C9
    split at hI<;>try (cases hI;done)
    rename_i z hz
    split at hI<;>try (cases hI;done)
    rename_i M7
    split at hI<;>try (cases hI;done)
    rename_i x' y' hx hy
    split at hI<;>try (cases hI;done)
    rename_i jM
    cases hI
    simp only [de,kV,List.map_cons,List.map_nil] at aj
    split at aj<;>try (cases aj;done)
    rename_i kk m heq
    simp only [List.cons.injEq,and_true] at heq
    obtain ⟨eF,hye⟩:=heq
    cases aj
    have rx:=aK he hx
    have ry:=aK he hy
    rw [eF] at rx
    rw [hye] at ry
    have hb:=cX _ (List.mem_singleton.2 rfl)
    simp only [decide_eq_true_eq] at hb
    generalize mQ:a.eval x=xv at rx
    generalize hgy:a.eval y=yv at ry
    cases rx with
    |bA =>
     cases ry
     obtain ⟨μ',v,w',r1,r2,r0,r3,r4⟩:=Fm (tt:=ty) h hn hu hu' W8 C9 hz M7 jM.1 (kk:=kk) hb.1 hb.2 none
     exact ⟨ι,μ',v,w',.inl (by simp [execOp,resolve,invoke,builtin,mQ,hgy,r1]),aB.le_refl _,r2,r0,by simpa [bV,I.lays,kQ.lays,gD] using r3,r4⟩
  ·-- cap
   rename_i t x
   split at hI<;>try (cases hI;done)
   rename_i e hu
   cases hx:dY x<;>simp [hx] at hI
   subst hI
   simp only [de,kV,List.map_cons,List.map_nil] at aj
   split at aj<;>try (cases aj;done)
   rename_i eF
   simp only [List.cons.injEq,and_true] at eF
   cases aj
   have rx:=aK he hx
   rw [eF] at rx
   generalize mQ:a.eval x=xv at rx
   cases rx with
   |bA=>exact .pure h (x:=.int .i64 0) (by simp [execOp,resolve,invoke,builtin,Builtin.cap_,mQ,run_underlying hu,goInt]) (.int _ _)
  ·-- clear
   rename_i t x
   split at hI<;>try (cases hI;done)
   rename_i e hu
   split at hI<;>try (cases hI;done)
   rename_i tye k inf hty W8 C9
   split at hI<;>try (cases hI;done)
   rename_i z hz
   split at hI<;>try (cases hI;done)
   rename_i M7
   split at hI<;>try (cases hI;done)
   rename_i jM
   cases hx:dY x<;>simp [hx] at hI
   subst hI
   simp only [de,List.map_cons,List.map_nil] at aj
   obtain ⟨w',r1,r2,r3⟩:=C7 (k:=k) h hu C9 hz M7 (tt:=ty) (aK he hx) aj
   exact ⟨ι,μ,_,w',.inl (by simp [execOp,resolve,invoke,builtin,r1]),aB.le_refl _,Mu.le_refl _,fun _ _=>rfl,r2,r3⟩
  ·-- max
   rename_i x r
   split at hI<;>try (cases hI;done)
   rename_i x' ys hx hys
   cases hI
   have rx:=aK he hx
   have rys:=iz he hys
   simp only [de] at aj
   split at aj<;>try (cases aj;done)
   rename_i k m eF
   rw [eF] at rx
   split at aj<;>try (cases aj;done)
   rename_i z hz
   cases aj
   generalize mQ:a.eval x=xv at rx
   cases rx
   have:=wv (w:=w) (P:=P) hz rys
   exact .pure h (x:=.int k z) (by simp [execOp,resolve,invoke,builtin,Builtin.max_,mQ,this]) (.int _ _)
  ·-- min
   rename_i x r
   split at hI<;>try (cases hI;done)
   rename_i x' ys hx hys
   cases hI
   have rx:=aK he hx
   have rys:=iz he hys
   simp only [de] at aj
   split at aj<;>try (cases aj;done)
   rename_i k m eF
   rw [eF] at rx
   split at aj<;>try (cases aj;done)
   rename_i z hz
   cases aj
   generalize mQ:a.eval x=xv at rx
   cases rx
   have:=wA (w:=w) (P:=P) hz rys
   exact .pure h (x:=.int k z) (by simp [execOp,resolve,invoke,builtin,Builtin.min_,mQ,this]) (.int _ _)
theorem tw (h : Inv P Y ι μ H w) {aM : Nat} (hn : μ aM = none) {env : List (Nat × V)} {a : Act} (he : fS ι μ env a.tmps) {o : Oper} {i : I} (hI : M4 P o.op = some i) {ob : List Bool} {v : V} {u : dU}
  (aj:vk (bM c1 c2 c3 c4 c5 c6 c7) i env H.bl aM=some (ob,v,u)) (cX:qm ob):Kv P Y ι μ H w aM (execOp a.eval o) v u i.lays:=by
 cases i
 case store k ao xo =>
  obtain ⟨dst,op,ty,pos,after,guard⟩:=o
  simp only at hI
  cases op<;>simp only [M4] at hI<;>try (cases hI;done)
  case store t pa x =>
   split at hI<;>try (cases hI;done)
   rename_i k' a' x' hk ha hx
   cases hI
   obtain ⟨w',hy,hinv,rfl⟩:=A5 h hk (aK he hx) (aK he ha) aj cX
   exact ⟨ι,μ,undef,w',.inr ⟨by simp only [execOp,Sem.run_bind,hy];rfl,rfl⟩,aB.le_refl _,Mu.le_refl _,fun _ _=>rfl,hinv,.any _⟩
  all_goals
   exfalso
   repeat' (first|(cases hI;done)|(rename _=Op.store _ _ _=>e;cases e;done)|(simp only [Option.map_eq_some_iff] at hI;obtain ⟨_,_,hI⟩:=hI;cases hI;done)|split at hI|(unfold Hu at hI)|(unfold trB at hI)|(unfold AY at hI))
 case bI tt xx =>
  obtain ⟨dst,op,ty,pos,after,guard⟩:=o
  simp only at hI
  cases op<;>simp only [M4] at hI<;>try (cases hI;done)
  case buildSlice t n parts =>
   split at hI<;>try (cases hI;done)
   rename_i e hu
   split at hI<;>try (cases hI;done)
   rename_i tye k xs hty W8 hin
   split at hI<;>try (cases hI;done)
   rename_i jM
   obtain ⟨hsz,hlen,rF⟩:=jM
   cases hI
   simp only [vk] at aj
   split at aj<;>try (cases aj;done)
   rename_i x1
   split at aj<;>try (cases aj;done)
   rename_i vs hvs
   split at aj<;>try (cases aj;done)
   rename_i p hp
   split at aj<;>try (cases aj;done)
   rename_i y hvl
   cases aj
   obtain ⟨q1,q2⟩:=n4 he hin
   have hof:sX (bM c1 c2 c3 c4 c5 c6 c7) H.bl tt ([x1].map (·.ev env))=some ([y],[]):=by simp [sX,hvs,hvl]
   obtain ⟨z1,z2,z3,z4⟩:=wg hof q1
   have fI:=z4 ι (aB.le_refl _) (fun id t xs h=>by cases h)
   obtain ⟨inf,zv,hi,hz,_,hzs,mX⟩:=fW W8
   have Yn:(parts.toList.map fun p=>a.eval p.2).length=n:=by have:=q1.1;simp at this;simp;simp at hlen;omega
   obtain ⟨out, f1, f2⟩ := qn (k := k) (parts.toList.map fun p => a.eval p.2) 0
    ((Array.range (n * k)).map fun j=>(if n * k=0 then #[] else zv.cells)[j % (if n * k=0 then #[] else zv.cells).size]!) (fun v hv=>by rw [z3 v hv,hsz]) (by simp [<-Yn])
   obtain ⟨xv,rv,exv,hxv,wE⟩:=q1.cA
   have hrv0:=wE.of_nil;subst hrv0
   obtain ⟨c,Yi,hc2⟩:=wq hp (hxv.cells hvs).1
   have hfm:(List.map (fun (p:Nat×Operand)=>a.eval p.2) parts.toList).flatMap (fun (x:Value)=>x.cells.toList)=xv.cells.toList:=by rw [exv];simp
   obtain ⟨μ',m1,m0,m2,m3⟩:=SN h hn fI e (p:=p) (c:=c) (by rw [hfm];exact Yi) hc2
   have W5:n=1:=by simpa using hlen.symm
   refine ⟨ι,μ',.slice (some ⟨w.heap.size,0,none⟩) n n,(w.alloc (.cells ((List.flatMap (fun (x:Value)=>x.cells.toList) (List.map (fun (p:Nat×Operand)=>a.eval p.2) parts.toList))++[]).toArray e)),.inl ?_,aB.le_refl _,m1,m0,?_,?_⟩
   rotate_left
   ·simpa [bV,I.lays,gD] using m2
   ·simpa [W5] using m3
   ·have hout:((List.flatMap (fun (x:Value)=>x.cells.toList) (List.map (fun (p:Nat×Operand)=>a.eval p.2) parts.toList))++[]).toArray=out:=by
     apply Array.ext';simp [f2]
    rw [hout]
    rw [<-q2,<-mX] at f1
    have hif:(if n * inf.size=0 then #[] else zv.cells)=(if n * k=0 then #[] else zv.cells):=by rw [mX]
    have hmap:(parts.map fun (i,x)=>(i,a.eval x)).toList=parts.toList.map fun (i,x)=>(i,a.eval x):=by simp
    simp only [execOp,Instr.buildSlice,Sem.run_bind,run_underlying hu,Result.andThen_ok,sizeOf,typeInfo,run_program,hi,Sem.run_pure]
    rw [if_neg (by rw [mX];omega)]
    by_cases h0:n * inf.size=0
    ·have NX : n * k = 0 := by rw [← mX]; exact h0
     rw [mX] at f1
     simp [NX] at f1
     simp [NX,mX,f1,newRow]
    ·have NX : ¬ n * k = 0 := by rw [← mX]; exact h0
     rw [mX] at f1
     simp [NX] at f1
     simp [NX,mX,zeroValue,typeInfo,hi,hz,f1,newRow]
  all_goals
   exfalso
   repeat' (first|(cases hI;done)|(rename _=Op.buildSlice _ _ _=>e;cases e;done)|(simp only [Option.map_eq_some_iff] at hI;obtain ⟨_,_,hI⟩:=hI;cases hI;done)|split at hI|(unfold Hu at hI)|(unfold trB at hI)|(unfold AY at hI))
 all_goals (simp [vk] at aj)
end
end Go.AM
end
section
namespace Go.AM
def Ctx.F (Y:Ctx):Fence:={ Fence.wide with round:=Y.ro }
def coll (b:Nat):Deferred:={ target:=.collected b,args:=#[] }
def jG (hid : List Nat) (μ : Mu) : List Nat → List Deferred → Prop
 |[],ds=>ds=hid.map coll
 |id::r,ds=>∃L d ds',ds=d::ds'/\μ id=some L/\d={ target:=.collected L.b,args:=#[] }/\jG hid μ r ds'
structure fG (P:Program) (N:Nat) (Y:Ctx) (ι:aB) (μ:Mu) (S:St) (a:Act) (w:World):Prop where
 env:fS ι μ S.env a.tmps
 sz:a.tmps.size=N
 inv:Inv P Y ι μ S.H w
 ms:jG Y.hid μ S.ms a.defers
def ExR : Ex → Exit → Prop
 | .normal,e=>e = .normal
 | .exit id,e=>e = .exit id
 | .ret,e=>e = .ret
def Ctx.base (Y:Ctx) (b:Nat):Prop:=∀id,b<=id->Y.m0 id=none
def Ctx.Bb (Y:Ctx) (w:World) (ι:aB) (r:Nat):Ctx:=⟨w,ι,Y.m0,Y.ro,fun b=>Y.own b/\b≠r,r::Y.hid⟩
inductive Ext (P : Program) : Ctx → Ctx → Prop
 |refl (Y:Ctx):Ext P Y Y
 |step {Y Y1:Ctx} {ι:aB} {μ:Mu} {H:aO} {w:World} {r:Nat} (h:Ext P Y Y1) (ro:Y1.ro=none) (hI:Inv P Y1 ι μ H w) (hr:w.heap[r]?=some (.deferred (some []))) (own:Y1.own r):Ext P Y (Y1.Bb w ι r)
def Post (P:Program) (N:Nat) (Y:Ctx) (Q:Ex->St->Prop):Exit->Act->World->Prop:=fun e a w=>∃Y1,Ext P Y Y1/\∃ι μ S e',fG P N Y1 ι μ S a w/\ExR e' e/\Q e' S
def nH (Y : Ctx) : Option Nat → Prop
 |none=>Y.ro=none
 |some id=>∃L,Y.m0 id=some L/\Y.ro=some L.b
def Fo (P:Program) (N:Nat) (out:Option Nat) (base:Nat) (c:Code) (S:St) (Q:Ex->St->Prop):Prop :=
 ∀Y ι μ a w,nH Y out->Y.base base->fG P N Y ι μ S a w->c.wpIn Y.F 0 P (Post P N Y Q) a w
def e9 (P:Program) (f:Nat):Prop:=∀args w,(callFunc f args).run P w = .ok (.enter f args) w
def KC (P:Program) (Y:Ctx) (ι:aB) (μ:Mu) (Q:V->aO->Prop):Ending->World->Prop:=fun e w' =>
 ∃v ι' μ' r H',e = .returned v/\ι.le ι'/\μ.le μ'/\Inv P Y ι' μ' H' w'/\Rel ι' μ' r v/\Q r H'
def dB (P:Program) (f:Nat) (vs:List V) (H:aO) (Q:V->aO->Prop):Prop :=
 e9 P f/\∀Y ι μ w (args:Array Value),Inv P Y ι μ H w->aR ι μ vs args.toList->CallsIn Fence.wide 0 P f args w (KC P Y ι μ Q)
def around (P:Program) (id:Nat) (vs:List V) (H:aO) (Q:V->aO->Prop):Prop :=
 ∀Y ι μ w (args:Array Value) L,Inv P Y ι μ H w->aR ι μ vs args.toList->μ id=some L ->
  ∃f tmps as bd w1,(Instr.yield L.b args).run P w = .ok (.round L.b f tmps as bd) w1/\RoundIn Fence.wide 0 P L.b f tmps as bd w1 (KC P Y ι μ Q)
def gH (ι:aB) (w:World):Prop:=∀b o x,ι b o=some x->w.cell? ⟨b,o,none⟩=some x
def dy (P:Program) (f:Nat) (vs:List V) (r:V):Prop :=
 e9 P f/\∀ι w (args:Array Value),iy P ι->gH ι w->aR ι (fun _=>none) vs args.toList->CallsIn Fence.wide 0 P f args w fun e w' =>
  ∃v ι',e = .returned v/\ι.le ι'/\(∀b o,b<w.heap.size->ι' b o=ι b o)/\gH ι' w'/\Dw w w'/\Rel ι' (fun _=>none) r v
def NZ (P:Program):GC:=fun f vs bl n v u=>e9 P f/\∀Y ι μ nx w (args:Array Value),n<nx->μ n=none->Inv P Y ι μ ⟨nx,bl⟩ w->aR ι μ vs args.toList->CallsIn Fence.wide 0 P f args w fun e w' =>
 ∃x ι' μ',e = .returned x/\ι.le ι'/\μ.le μ'/\(∀id,id≠n->μ' id=μ id)/\Inv P Y ι' μ' ⟨nx,bV u bl⟩ w'/\Rel ι' μ' v x
def cS (P : Program) (N : Nat) (out : Option Nat) (base : Nat) : Ar := bM (dB P) (dy P)
 (fun c S K=>∀body,l6 P N body=some c->Fo P N out base (.loop body) S K)
 (around P)
 (fun f ps a b S K=>∀fo CE ao bo,dY fo=some f->CE.toList=ps->l6 P N ao=some a->l6 P N bo=some b->Fo P N out base (.rangeFunc fo CE ao bo) S K)
 (fun c S K=>∀a b,l6 P N (.seq a b)=some c->(vV P N a b).isSome=true->Fo P N out base (.seq a b) S K)
 (NZ P)
section
variable {P:Program} {N:Nat} {Y:Ctx} {ι ι':aB} {μ μ':Mu} {H:aO} {w w':World} {out:Option Nat} {base:Nat}
theorem Ext.trans {Y Y1 Y2:Ctx} (h:Ext P Y Y1) (h2:Ext P Y1 Y2):Ext P Y Y2:=by
 induction h2 with
 |refl=>exact h
 |step _ ro hI hr own ih=>exact .step ih ro hI hr own
theorem Ext.ro {Y Y1:Ctx} (h:Ext P Y Y1):Y1.ro=Y.ro:=by
 induction h with
 |refl=>rfl
 |step _ _ _ _ _ ih=>exact ih
theorem Ext.m0 {Y Y1:Ctx} (h:Ext P Y Y1):Y1.m0=Y.m0:=by
 induction h with
 |refl=>rfl
 |step _ _ _ _ _ ih=>exact ih
theorem Ext.F {Y Y1:Ctx} (h:Ext P Y Y1):Y1.F=Y.F:=by unfold Ctx.F;rw [h.ro]
theorem Ext.same {Y Y1:Ctx} (h:Ext P Y Y1) (hro:Y.ro≠none):Y1=Y:=by
 cases h with
 |refl=>rfl
 |step h ro _ _ _=>exact absurd (h.ro▸ro) hro
theorem Ext.outE {Y Y1:Ctx} (h:Ext P Y Y1) (ho:nH Y out):nH Y1 out:=by
 cases out with
 |none=>exact h.ro.trans ho
 |some id=>obtain ⟨L,h1,h2⟩:=ho;exact ⟨L,by rw [h.m0];exact h1,by rw [h.ro];exact h2⟩
theorem Ext.wF {Y Y1:Ctx} (h:Ext P Y Y1) {b:Nat} (hb:Y.base b):Y1.base b:=fun id hid=>by rw [h.m0];exact hb id hid
theorem fT.owns {B B':Nat->Prop} {id:Nat} {b:jE} (h:fT P B ι μ id w b) (hB:∀L,μ id=some L->B L.b->B' L.b):fT P B' ι μ id w b:=by
 have mem:∀{fz:Bool} {L:Loc} {vs:List Value},Mem B ι μ id fz w L vs->Mem B' ι μ id fz w L vs:=fun hM=>⟨hM.mu,hB _ hM.mu hM.old,hM.row,hM.fits,hM.one,hM.CC,hM.qk⟩
 cases b with
 |cells cs fz=>obtain ⟨L',vs,hM,h⟩:=h;exact ⟨L',vs,mem hM,h⟩
 |arr t xs fz =>
  rcases h with h|⟨L',vs,hM,h⟩
  ·exact .inl h
  ·exact .inr ⟨L',vs,mem hM,h⟩
 |loop st j d env ps as bd N =>
  obtain ⟨L',r,Ld,h1,h2,h3⟩:=h
  exact ⟨L',r,Ld,h1,hB _ h1 h2,h3⟩
 |fC =>
  obtain ⟨L',h1,h2,h3⟩:=h
  exact ⟨L',h1,hB _ h1 h2,h3⟩
 |map kt kg vt vg es =>
  obtain ⟨L',ms,clock,kR,h1,h2,h3⟩:=h
  exact ⟨L',ms,clock,kR,h1,hB _ h1 h2,h3⟩
 |j8 t xs i p v =>
  obtain ⟨L',us,vs,c,hM,h⟩:=h
  exact ⟨L',us,vs,c,mem hM,h⟩
theorem Inv.N4 (h:Inv P Y ι μ H w) {r:Nat} {H':aO} (h2:Inv P (Y.Bb w ι r) ι' μ' H' w'):Inv P Y ι' μ' H' w':=by
 have hs:=h.below.size
 have Yl:∀k,k<Y.w0.heap.size->¬Y.x k->¬(Y.Bb w ι r).x k:=fun k hk hx hX=>by
  rcases hX.1 with h|h
  ·omega
  ·exact hx h
 have b2:=h2.below
 refine ⟨⟨b2.os.trans h.below.os,b2.tape.trans h.below.tape,b2.output.trans h.below.output,Nat.le_trans hs b2.size,fun k hk hx=>?_,Nat.le_trans h.below.dr b2.dr,fun k hk=>(h.below.maps k hk).trans (b2.maps k (Nat.lt_of_lt_of_le hk hs))⟩,
  aB.le_trans h.i0 h2.i0,fun b o hb hx=>?_,h2.rd,h2.m0,h2.nx,fun id B hB=>(h2.live id B hB).owns fun L _ ho=>?_,h2.inj,h2.lt,h.gl⟩
 ·exact (b2.block k (Nat.lt_of_lt_of_le hk hs) (Yl k hk hx)).trans (h.below.block k hk hx)
 ·exact (h2.iB b o (Nat.lt_of_lt_of_le hb hs) (Yl b hb hx)).trans (h.iB b o hb hx)
 ·rcases ho with ho | ho
  ·exact .inl (Nat.le_trans hs ho)
  ·exact ho.1
theorem Ext.inv {Y Y1:Ctx} (h:Ext P Y Y1):∀{ι:aB} {μ:Mu} {H:aO} {w:World},Inv P Y1 ι μ H w->Inv P Y ι μ H w:=by
 induction h with
 |refl=>exact fun h=>h
 |step _ _ hI _ _ ih=>exact fun h=>ih (hI.N4 h)
theorem Post.ext {Y Y1:Ctx} (hY:Ext P Y Y1) {Q:Ex->St->Prop} {e:Exit} {a:Act} (h:Post P N Y1 Q e a w):Post P N Y Q e a w :=
 let ⟨Y2,h2,h⟩:=h;⟨Y2,hY.trans h2,h⟩
theorem Post.of {Q:Ex->St->Prop} {S:St} {a:Act} {e:Exit} {e':Ex} (hR:fG P N Y ι μ S a w) (h:ExR e' e) (hQ:Q e' S):Post P N Y Q e a w:=⟨Y,.refl Y,ι,μ,S,e',hR,h,hQ⟩
theorem Post.of1 {Y Y1:Ctx} (hY:Ext P Y Y1) {Q:Ex->St->Prop} {S:St} {a:Act} {e:Exit} {e':Ex} (hR:fG P N Y1 ι μ S a w) (h:ExR e' e) (hQ:Q e' S):Post P N Y Q e a w:=⟨Y1,hY,ι,μ,S,e',hR,h,hQ⟩
theorem n8 {c:Code} {S:St} {Q:Ex->St->Prop} (h:Fo P N out base c S Q) {Y Y1:Ctx} (hY:Ext P Y Y1) (ho:nH Y out) (hb:Y.base base) {a:Act} (hR:fG P N Y1 ι μ S a w):c.wpIn Y.F 0 P (Post P N Y Q) a w:=by
 have:=h Y1 ι μ a w (hY.outE ho) (hY.wF hb) hR
 rw [hY.F] at this
 exact wpIn_mono this fun e a w hp=>hp.ext hY
theorem fG.Bb {S:St} {a:Act} (hR:fG P N Y ι μ S a w) {id:Nat} (SW:S.ms=[id]) (hb:aq id S.H.bl=some .fC) (hro:Y.ro=none):∃Y1,Ext P Y Y1/\fG P N Y1 ι μ ⟨S.env,⟨S.H.next,cB id S.H.bl⟩,[]⟩ a w:=by
 obtain ⟨L,h1,h2,h3⟩:=hR.inv.live id _ hb
 have hm:=hR.ms
 rw [SW] at hm
 obtain ⟨L',d,ds,e1,e2,e3,e4⟩:=hm
 rw [h1] at e2;cases e2
 refine ⟨Y.Bb w ι L.b,.step (.refl Y) hro hR.inv h3 h2,hR.env,hR.sz,?_,?_⟩
 ·have h := hR.inv
  refine ⟨HA.refl _ _,aB.le_refl _,fun _ _ _ _=>rfl,h.rd,h.m0,h.nx,fun i B hB=>?_,fun i i' B B' L1 L2 kP iw=>?_,fun i B hB=>?_,h.c8⟩
  ·simp only [bB] at hB
   split at hB
   ·cases hB
   ·rename_i hne
    exact (h.live i B hB).owns fun L1 Yh ho=>.inr ⟨ho,fun e=>hne (h.inj i id B _ L1 L hB hb Yh h1 e)⟩
  ·simp only [bB] at kP iw
   split at kP
   ·cases kP
   split at iw
   ·cases iw
   exact h.inj i i' B B' L1 L2 kP iw
  ·simp only [bB] at hB
   split at hB
   ·cases hB
   exact h.lt i B hB
 ·show a.defers = _
  rw [e1,e3,e4];rfl
theorem jG.mono {hid : List Nat} (hm : μ.le μ') : ∀ {ids : List Nat} {ds : List Deferred}, jG hid μ ids ds → jG hid μ' ids ds
 |[],_,h=>h
 |_::_,_,⟨L,d,ds',h1,h2,h3,h4⟩=>⟨L,d,ds',h1,hm _ _ h2,h3,h4.mono hm⟩
theorem fS.put {env:List (Nat×V)} {a:Act} (he:fS ι μ env a.tmps) (hsz:a.tmps.size=N) {d:Option Nat} (hd:uH N d=true) {v:V} {x:Value} (hv:Rel ι μ v x) :
  fS ι μ (put d v env) (a.put d x).tmps/\(a.put d x).tmps.size=N/\(a.put d x).defers=a.defers:=by
 cases d with
 |none=>exact ⟨he,hsz,rfl⟩
 |some d =>
  have hd':d<N:=by simpa [uH] using hd
  refine ⟨fun t=>?_,by simp [Act.put,hsz],rfl⟩
  simp only [AM.put,l9,Act.put]
  by_cases h:d=t
  ·subst h
   rw [if_pos rfl]
   have:(a.tmps.setIfInBounds d x).getD d undef=x:=by simp [Array.getD,hsz,hd']
   rw [this];exact hv
  ·rw [if_neg h]
   have:(a.tmps.setIfInBounds d x).getD t undef=a.tmps.getD t undef:=by
    simp only [Array.getD_eq_getD_getElem?]
    rw [Array.getElem?_setIfInBounds_ne h]
   rw [this];exact he t
theorem fG.put {S : St} {a : Act} (h : fG P N Y ι μ S a w) {d : Option Nat} (hd : uH N d = true) {ι' : aB} {μ' : Mu} (hi : ι.le ι') (hm : μ.le μ') {H' : aO} {w' : World} (hinv : Inv P Y ι' μ' H' w')
  {v:V} {x:Value} (hv:Rel ι' μ' v x):fG P N Y ι' μ' ⟨AM.put d v S.env,H',S.ms⟩ (a.put d x) w':=by
 obtain ⟨h1,h2,h3⟩:=(h.env.mono hi hm).put h.sz hd hv
 exact ⟨h1,h2,hinv,by rw [h3];exact h.ms.mono hm⟩
theorem wG {env : List (Nat × V)} {a : Act} (he : fS ι μ env a.tmps) {ops : Array Oper} {j d : Nat} {o : Oper} (ho : ops[j]? = some o) (hd : o.dst = some d) {b : Bool}
  (hv:get d env = .tf b\/get d env = .bool b):yielded ops a.tmps j=some b:=by
 have hr:=he d
 have:a.tmps.getD d undef = .bool b:=by
  generalize a.tmps.getD d undef=x at hr
  rcases hv with hv|hv<;>rw [hv] at hr<;>cases hr<;>rfl
 rw [Array.getD_eq_getD_getElem?] at this
 unfold yielded
 simp only [ho,Option.bind_some,hd]
 cases hq:a.tmps[d]? with
 |none=>rw [hq] at this;cases this
 |some x=>rw [hq] at this;simp at this;subst this;rfl
theorem uJ {env : List (Nat × V)} {a : Act} (he : fS ι μ env a.tmps) {ops : Array Oper} {j d : Nat} {o : Oper} (ho : ops[j]? = some o) (hd : o.dst = some d) {vs : List V}
  (hv:get d env = .cG vs):yielded ops a.tmps j=none:=by
 have hr:=he d
 have:∃xs,a.tmps.getD d undef = .tuple xs:=by
  generalize a.tmps.getD d undef=x at hr
  rw [hv] at hr;cases hr;exact ⟨_,rfl⟩
 obtain ⟨xs,this⟩:=this
 rw [Array.getD_eq_getD_getElem?] at this
 unfold yielded
 simp only [ho,Option.bind_some,hd]
 cases hq:a.tmps[d]? with
 |none=>rfl
 |some x=>rw [hq] at this;simp at this;subst this;rfl
theorem Rel.und:Rel ι μ (.cG []) undef:=.cG [] _ rfl (fun i v x hv=>by simp at hv)
theorem wH : ∀ {ob : List Bool}, qf ob → qm ob
 |[],_=>fun b h=>by cases h
 |[b],h=>fun b' h'=>by cases List.mem_singleton.1 h';exact h
 |b::c::r,h=>fun b' h'=>by
  rcases List.mem_cons.1 h' with rfl|h'
  ·exact h.1
  ·exact wH h.2 b' h'
theorem zK {o:Out} {l:Bool} {dst:Option Nat} {S:St} {K:St->Prop} (h:ru o l dst S K):∃ob v u,o=some (ob,v,u)/\qm ob /\
  K ⟨put dst v S.env,⟨gD l S.H.next S.H.next,bV u S.H.bl⟩,S.ms⟩:=by
 have hn:CA l S.H.next=gD l S.H.next S.H.next:=by
  unfold gD CA;cases l<;>simp
 unfold ru at h
 split at h
 ·rename_i v u
  rw [hn] at h
  exact ⟨[],v,u,rfl,(fun b hb=>by cases hb),h⟩
 ·rename_i ob v u _
  rw [hn] at h
  exact ⟨ob,v,u,rfl,wH h.1,h.2⟩
 ·exact h.elim
theorem fG.cl {c1 : Nat → List V → aO → (V → aO → Prop) → Prop} {c2 : Nat → List V → V → Prop} {c3 : C → St → (Ex → St → Prop) → Prop}
  {c4:Nat->List V->aO->(V->aO->Prop)->Prop} {c5:O->List Nat->C->C->St->(Ex->St->Prop)->Prop} {c6:C->St->(Ex->St->Prop)->Prop} {c7:GC} {S:St} {a:Act} (h:fG P N Y ι μ S a w) {ids:List Nat} {u:dU} (hu:Kq (bM c1 c2 c3 c4 c5 c6 c7) ids S.H.bl=some u) :
  ∃ι',fG P N Y ι' μ ⟨S.env,⟨S.H.next,bV u S.H.bl⟩,S.ms⟩ a w:=by
 obtain ⟨ι',hle,hI⟩:=HD hu h.inv
 exact ⟨ι',h.env.mono hle (Mu.le_refl _),h.sz,hI,h.ms⟩
def Next (P:Program) (N:Nat) (Y:Ctx) (K:St->Prop) (next:Act->World->Prop):Prop:=∀ι μ S a w,fG P N Y ι μ S a w->K S->next a w
theorem Da {a : Act} {f : Operand} {args : Array Operand} {tys : Array TypeId} {o : Oper} (ho : o.op = .call { callee := .value f, args := args, argTypes := tys }) {fid : Nat} {xs ys : Array Value}
  (hf:a.eval f = .func (.func fid) xs ys) (hent:e9 P fid) (w:World):(execOp a.eval o).run P w = .ok (.enter fid (xs++args.map a.eval++ys)) w:=by
 have:=hent (xs++args.map a.eval++ys) w
 simp only [Array.append_assoc] at this
 simp [execOp,ho,resolve,hf,Deferred.ofValue,invoke,this]
theorem wI {t f : Nat} : ∀ {l : List (Nat × Nat)}, l.lookup t = some f → (t, f) ∈ l
 |[],h=>by cases h
 |(a,b)::r,h=>by
  rw [List.lookup_cons] at h
  split at h
  ·rename_i e;cases h;rw [beq_iff_eq] at e;subst e;exact List.mem_cons_self ..
  ·exact List.mem_cons_of_mem _ (wI h)
theorem KE {name:String} {t f:Nat} (h:(SF P name).lookup t=some f):∃i m pr,P.info? t=some i/\i.methods.find? (·.name==name)=some m/\m.path=#[]/\m.func=some (f,pr) /\
  ((pr=true/\∃e,P.underlying t=some (.pointer e))\/(pr=false/\∃d,P.underlying t=some d/\∀e,d ≠ .pointer e)):=by
 have hm:=wI h
 unfold SF at hm
 obtain ⟨t',_,ht⟩:=List.mem_filterMap.1 hm
 split at ht<;>try (cases ht;done)
 rename_i i hi
 split at ht<;>try (cases ht;done)
 rename_i m hf
 split at ht<;>try (cases ht;done)
 rename_i hp
 have hp':m.path=#[]:=by simpa using hp
 split at ht<;>try (cases ht;done)
 ·rename_i f' e hfu hu
  cases ht
  exact ⟨i,m,true,hi,hf,hp',hfu,.inl ⟨rfl,e,hu⟩⟩
 ·rename_i f' d hnp hfu hu
  cases ht
  exact ⟨i,m,false,hi,hf,hp',hfu,.inr ⟨rfl,d,hu,fun e he=>by subst he;exact hnp _ rfl⟩⟩
theorem wJ {name:String} {t f:Nat} (h:(SF P name).lookup t=some f) (hent:e9 P f) (v:Value) (args:Array Value) (w:World):(callMethod (.iface t v) name args).run P w = .ok (.enter f (#[v]++args)) w:=by
 obtain ⟨i,m,pr,h1,h2,h3,h4,h5⟩:=KE h
 have hti:∀w:World,(typeInfo t).run P w = .ok i w:=fun w=>by simp [typeInfo,h1]
 have acT:∀n,(method (n+1) t v name).run P w = .ok (f,v) w:=fun n=>by
  unfold method
  simp only [Sem.run_bind,hti,Result.andThen_ok,h2,h3]
  have hfol:(follow (#[]:Array FieldStep).toList t (.val v)).run P w = .ok (t,.val v) w:=rfl
  simp only [hfol,Result.andThen_ok,h4]
  have hrec:(receiverAt t (.val v) pr (if m.path.isEmpty then some ((name.splitOn ".").getLastD name) else none)).run P w = .ok v w:=by
   unfold receiverAt
   rcases h5 with ⟨rfl,e,hu⟩|⟨rfl,d,hu,hd⟩
   ·rw [Sem.run_bind,run_underlying hu w];rfl
   ·rw [Sem.run_bind, run_underlying hu w]
    cases d<;>first|rfl|exact absurd rfl (hd _)
  rw [h3] at hrec
  simp only [Sem.run_bind,hrec,Result.andThen_ok];rfl
 have hsz:∀w:World,(program).run P w = .ok P w:=fun w=>rfl
 show ((do let p <-program;let (f,receiver) <-method (p.types.size+Made.depth) t v name;callFunc f (#[receiver]++args):Sem Go.Next)).run P w=_
 simp only [Sem.run_bind,hsz,Result.andThen_ok]
 rw [show P.types.size+Made.depth=(P.types.size+99)+1 from rfl,acT]
 simp only [Result.andThen_ok]
 exact hent _ _
theorem rJ {a : Act} {c : Callee} {args : Array Operand} {tys : Array TypeId} {o : Oper} (hop : o.op = .call { callee := c, args := args, argTypes := tys }) {fo : O} (hc : jQ P c = some fo) {env : List (Nat × V)} (he : fS ι μ env a.tmps)
  {fid:Nat} {fs cs:List V} (nI:fo.ev env = .fn fid fs cs) (hent:e9 P fid):∃xs ys:Array Value,aR ι μ fs xs.toList/\aR ι μ cs ys.toList/\∀w,(execOp a.eval o).run P w = .ok (.enter fid (xs++args.map a.eval++ys)) w:=by
 unfold jQ at hc
 split at hc<;>try (cases hc;done)
 ·rename_i f
  have rf:=aK he hc
  rw [nI] at rf
  generalize hg:a.eval f=fv at rf
  cases rf with
  |fn _ _ _ xs ys h1 h2 h3 h4 =>
   exact ⟨xs,ys,⟨by simpa using h1,fun i v x hv hx=>h2 i v x hv (by simpa using hx)⟩,⟨by simpa using h3,fun i v x hv hx=>h4 i v x hv (by simpa using hx)⟩,fun w=>Da hop hg hent w⟩
 ·rename_i t name
  cases hc
  have hr:=he t
  simp only [O.ev] at nI
  generalize hv:get t env=tv at nI hr
  cases tv<;>simp only [Nm] at nI<;>try (cases nI;done)
  rename_i ty v0
  split at nI<;>try (cases nI;done)
  rename_i f hf
  cases nI
  have aj:a.eval (.tmp t)=a.tmps.getD t undef:=rfl
  generalize hg:a.tmps.getD t undef=fv at hr aj
  cases hr with
  |bU _ _ x hx =>
   refine ⟨#[x],#[],.cons hx .nil,.nil,fun w=>?_⟩
   have hm:=wJ hf hent x (args.map a.eval) w
   simp only [execOp,hop,resolve,aj,Sem.run_bind,Sem.run_pure,Result.andThen_ok,invoke]
   have h0:(#[Value.iface ty x]++Array.map a.eval args)[0]?=some (.iface ty x):=by rw [Array.getElem?_append_left (by simp)];rfl
   have h1:(#[Value.iface ty x]++Array.map a.eval args).extract 1 (#[Value.iface ty x]++Array.map a.eval args).size=Array.map a.eval args:=by
    apply Array.ext'
    have:List.take args.size (List.map a.eval args.toList)=List.map a.eval args.toList:=List.take_of_length_le (by simp)
    simp [List.extract_eq_take_drop,this]
   rw [h0,h1]
   simpa using hm
theorem SX {c:Callee} {fo:O} (hc:jQ P c=some fo) {env:List (Nat×V)} {id:Nat} (nI:fo.ev env = .yl id):∃f,c = .value f/\dY f=some fo:=by
 unfold jQ at hc
 split at hc<;>try (cases hc;done)
 ·exact ⟨_,rfl,hc⟩
 ·cases hc
  simp only [O.ev] at nI
  generalize get _ env=tv at nI
  cases tv<;>simp only [Nm] at nI<;>try (cases nI;done)
  split at nI<;>cases nI
theorem uK {F : Fence} (hF : ∀ f, F.fn f) (hdep : F.depth = none) {ops : Array Oper} {i : Nat} {rest : List Nat} {o : Oper} (ho : ops[i]? = some o) {a : Act} {w : World} {Q : Exit → Act → World → Prop}
  (hw:Region.wanted o (yielded ops a.tmps)=true) (hdef:∀c,o.op ≠ .defer c) {x:Value} {w':World}
  (hrun:(execOp a.eval o).run P w = .ok (.value x) w'\/((execOp a.eval o).run P w = .ok .skip w'/\x=undef)) (hk:wpOpsIn F 0 P ops Q rest (a.put o.dst x) w') :
  wpOpsIn F 0 P ops Q (i::rest) a w:=by
 simp only [wpOpsIn,ho,hw,if_true,Oper.wpIn]
 refine ⟨fun f _=>hF f,?_⟩
 rw [Oper.semAt_eq _ _ _ hdef]
 rcases hrun with h|⟨h,rfl⟩<;>rw [h]<;>exact hk
theorem SY {F : Fence} (hF : ∀ f, F.fn f) {ops : Array Oper} {i : Nat} {rest : List Nat} {o : Oper} (ho : ops[i]? = some o) {a : Act} {w : World} {Q : Exit → Act → World → Prop}
  (hw:Region.wanted o (yielded ops a.tmps)=false) (hk:wpOpsIn F 0 P ops Q rest (a.put o.dst undef) w) :
  wpOpsIn F 0 P ops Q (i::rest) a w:=by
 simp only [wpOpsIn,ho,hw,Bool.false_eq_true,if_false]
 exact ⟨fun f _=>hF f,hk⟩
theorem o3 {op:Op} {i:I} (h:M4 P op=some i):∀c,op ≠ .defer c:=fun c e=>by subst e;simp [M4] at h
theorem HL {ops : Array Oper} {i : Nat} {rest : List Nat} {o : Oper} (ho : ops[i]? = some o) {a : Act} {w : World} {Q : Exit → Act → World → Prop} {S : St} (hR : fG P N Y ι μ S a w)
  (hw:Region.wanted o (yielded ops a.tmps)=true) {c:Callee} {args:Array Operand} {tys:Array TypeId} (hop:o.op = .call { callee:=c,args:=args,argTypes:=tys })
  {fo:O} {as:List O} (hf:jQ P c=some fo) (ha:sY args.toList=some as) (hd:uH N o.dst=true) {ts:List (Option Ty)} {K:St->Prop} (hK:AV (cS P N out base) o.dst fo as ts S K)
  (hn:Next P N Y K (wpOpsIn Y.F 0 P ops Q rest)):wpOpsIn Y.F 0 P ops Q (i::rest) a w:=by
 simp only [wpOpsIn,ho,hw,if_true,Oper.wpIn]
 refine ⟨fun f _=>trivial,?_⟩
 rw [Oper.semAt_eq _ _ _ (by rw [hop];simp)]
 have rj:∃ι S',fG P N Y ι μ S' a w/\mS (cS P N out base) o.dst fo as ts S' K:=by
  rcases hK with hK|⟨ids,u,hu,hK⟩
  ·exact ⟨ι,S,hR,hK⟩
  ·obtain ⟨ι', fU⟩ := hR.cl hu
   exact ⟨ι',_,fU,hK⟩
 clear hK hR
 obtain ⟨ι,S,hR,hK⟩:=rj
 have ra:=iz hR.env ha
 unfold mS at hK
 split at hK
 ·rename_i fid fs cs nI
  obtain ⟨hent,eW⟩:=hK
  obtain ⟨xs,ys,r1,r2,hrun⟩:=rJ hop hf hR.env nI hent
  rw [hrun]
  have rl:aR ι μ (fs++cw ts (as.map (·.ev S.env))++cs) (xs++args.map a.eval++ys).toList:=by
   have:=(r1.append (iN (ts:=ts) ra)).append r2
   simpa using this
  refine ⟨fun h=>by simp [Ctx.F,Fence.wide] at h,?_⟩
  refine CallsIn.mono (F:=Y.F) (eW Y ι μ w _ hR.inv rl) ?_
  rintro e w' ⟨v,ι',μ',r,H',rfl,hi,hm,hinv,hv,hq⟩
  exact hn _ _ _ _ _ (hR.put hd hi hm hinv hv) hq
 ·rename_i id nI
  obtain ⟨f,rfl,hf⟩:=SX hf nI
  have rf:=aK hR.env hf
  rw [nI] at rf
  generalize hg:a.eval f=fv at rf
  cases rf with
  |yl _ L hL =>
   obtain ⟨f',tmps,as',bd,w1,hy,Fp⟩:=hK Y ι μ w (args.map a.eval) L hR.inv (by simpa using iN (ts:=ts) ra) hL
   have:(execOp a.eval o).run P w = .ok (.round L.b f' tmps as' bd) w1:=by
    simp [execOp,hop,resolve,hg,Deferred.ofValue,invoke,hy]
   rw [this]
   refine ⟨fun h=>by simp [Ctx.F,Fence.wide] at h,?_⟩
   refine RoundIn.mono (F:=Y.F) Fp ?_
   rintro e w' ⟨v,ι',μ',r,H',rfl,hi,hm,hinv,hv,hq⟩
   exact hn _ _ _ _ _ (hR.put hd hi hm hinv hv) hq
 ·exact hK.elim
theorem wK {ops : Array Oper} {i : Nat} {rest : List Nat} {o : Oper} (ho : ops[i]? = some o) {a : Act} {w : World} {Q : Exit → Act → World → Prop} {S : St} (hR : fG P N Y ι μ S a w)
  {g:Option (Nat×Bool)} (hg:trG ops o.guard=some g) (hd:uH N o.dst=true) {K:St->Prop} {run:St->Prop} (h:jg g o.dst S K run)
  (hn:Next P N Y K (wpOpsIn Y.F 0 P ops Q rest))
  (hrun:∀S',fG P N Y ι μ S' a w->run S'->Region.wanted o (yielded ops a.tmps)=true->wpOpsIn Y.F 0 P ops Q (i::rest) a w):wpOpsIn Y.F 0 P ops Q (i::rest) a w:=by
 cases N5:o.guard with
 |none =>
  rw [N5] at hg;cases hg
  exact hrun S hR h (by simp [Region.wanted,N5])
 |some jb =>
  obtain ⟨j,b⟩:=jb
  rw [N5] at hg
  simp only [trG] at hg
  split at hg<;>try (cases hg;done)
  rename_i oj hoj
  split at hg<;>try (cases hg;done)
  rename_i d hdj
  cases hg
  have want:∀c,(get d S.env = .tf c\/get d S.env = .bool c)->Region.wanted o (yielded ops a.tmps)=(c==b):=fun c hc=>by
   simp only [Region.wanted,N5,wG hR.env hoj hdj hc]
   cases c<;>cases b<;>rfl
  have skip:∀S',fG P N Y ι μ S' a w->Region.wanted o (yielded ops a.tmps)=false->K ⟨put o.dst (.cG []) S'.env,S'.H,S'.ms⟩->wpOpsIn Y.F 0 P ops Q (i::rest) a w:=fun S' fU hw hk =>
   SY (fun _=>trivial) ho hw (hn _ _ _ _ _ (fU.put hd (aB.le_refl _) (Mu.le_refl _) fU.inv Rel.und) hk)
  have acX:∀c,get d S.env = .bool c->fG P N Y ι μ (Sg d c S) a w:=fun c hc =>
   ⟨fun t=>by
    simp only [Sg,l9]
    by_cases ht:d=t
    ·subst ht; rw [if_pos rfl]
     have:=hR.env d;rw [hc] at this
     generalize hx:a.tmps.getD d undef=x at this
     cases this;exact .tf _
    ·rw [if_neg ht];exact hR.env t,hR.sz,hR.inv,hR.ms⟩
  simp only [jg] at h
  split at h
  ·rename_i c hc
   have hw:=want c (.inl hc)
   cases c<;>cases b<;>simp only at h
   ·exact hrun S hR h (by rw [hw];rfl)
   ·exact skip S hR (by rw [hw];rfl) h
   ·exact skip S hR (by rw [hw];rfl) h
   ·exact hrun S hR h (by rw [hw];rfl)
  ·rename_i c hc
   have hw:=want c (.inr hc)
   have A3:=acX c hc
   obtain ⟨h1,h2⟩:=h
   cases c with
   |true =>
    have h1:=h1 rfl
    cases b
    ·exact skip _ A3 (by rw [hw];rfl) h1
    ·exact hrun _ A3 h1 (by rw [hw];rfl)
   |false =>
    have h2:=h2 rfl
    cases b
    ·exact hrun _ A3 h2 (by rw [hw];rfl)
    ·exact skip _ A3 (by rw [hw];rfl) h2
  ·rename_i vs hc
   exact skip S hR (by simp only [Region.wanted,N5,uJ hR.env hoj hdj hc];rfl) h
  ·exact h.elim
theorem tA {ops:Array Oper} {Q:Exit->Act->World->Prop} {K:St->Prop} {rest:List Nat} (hend:Next P N Y K (wpOpsIn Y.F 0 P ops Q rest)):∀{os:List Oper} {is:List dD} {k:Nat},ew P N ops os=some is ->
  (∀j,j<os.length->os[j]?=ops[k+j]?)->∀{S:St} {a:Act} {w:World} {ι:aB} {μ:Mu},fG P N Y ι μ S a w->dF (cS P N out base) is S K->wpOpsIn Y.F 0 P ops Q (List.range' k os.length++rest) a w
 |[],is,k,h,_,S,a,w,ι,μ,hR,hK=>by cases h;exact hend _ _ _ _ _ hR hK
 |o::os,is,k,h,hk,S,a,w,ι,μ,hR,hK=>by
  unfold ew at h
  split at h<;>try (cases h;done)
  rename_i it its hit N6
  cases h
  have ho:ops[k]?=some o:=by have:=hk 0 (by simp);simpa using this.symm
  have hk':∀j,j<os.length->os[j]?=ops[k+1+j]?:=fun j hj=>by have:=hk (j+1) (by simp only [List.length_cons];omega);rw [show k+(j+1)=k+1+j by omega] at this;simpa using this
  have hn:Next P N Y (fun S=>dF (cS P N out base) its S K) (wpOpsIn Y.F 0 P ops Q (List.range' (k+1) os.length++rest)):=fun ι μ S a w hR hK=>tA hend N6 hk' hR hK
  simp only [List.length_cons,List.range'_succ,List.cons_append]
  unfold rB at hit
  split at hit<;>try (cases hit;done)
  rename_i hd
  split at hit<;>try (cases hit;done)
  rename_i g hg
  split at hit
  ·rename_i f args tys hop
   split at hit<;>try (cases hit;done)
   rename_i fo as hf ha
   cases hit
   refine wK ho hR hg hd hK hn fun S' fU hrun hw=>?_
   exact HL (c:=.value f) ho fU hw hop hf ha hd hrun hn
  ·rename_i r name args tys hop
   split at hit<;>try (cases hit;done)
   rename_i fo as hf ha
   cases hit
   refine wK ho hR hg hd hK hn fun S' fU hrun hw=>?_
   exact HL (c:=.invoke r name) ho fU hw hop hf ha hd hrun hn
  ·rename_i op _
   split at hit<;>try (cases hit;done)
   rename_i i hi
   cases hit
   refine wK ho hR hg hd hK hn fun S' fU hrun hw=>?_
   have key:∀{ι:aB} {S':St},fG P N Y ι μ S' a w->ru (de (cS P N out base) i S'.env S'.H.bl S'.H.next) i.lays o.dst S' (fun S=>dF (cS P N out base) its S K)->wpOpsIn Y.F 0 P ops Q (k::(List.range' (k+1) os.length++rest)) a w:=by
    intro ι S' fU hrun
    obtain ⟨ob,v,u,aj,cX,hk⟩:=zK hrun
    have hnone:=fU.inv.nx S'.H.next (Nat.le_refl _)
    obtain ⟨ι',μ',x,w',hx,hi',hm,_,hinv,hv⟩:=tu fU.inv hnone fU.env hi aj cX
    exact uK (fun _=>trivial) rfl ho hw (o3 hi) hx (hn _ _ _ _ _ (fU.put hd hi' hm hinv hv) hk)
   rcases hrun with hrun|hrun|⟨ids,u,hu,hrun⟩
   ·exact key fU hrun
   ·obtain ⟨ob, v, u, aj, cX, hk⟩ := zK hrun
    obtain ⟨ι',μ',x,w',hx,hi',hm,_,hinv,hv⟩:=tw (aM:=S'.H.next) fU.inv (fU.inv.nx S'.H.next (Nat.le_refl _)) fU.env hi aj cX
    exact uK (fun _=>trivial) rfl ho hw (o3 hi) hx (hn _ _ _ _ _ (fU.put hd hi' hm hinv hv) hk)
   ·obtain ⟨ι', hR''⟩ := fU.cl hu
    exact key hR'' hrun
theorem wL {ops : Array Oper} {Q : Exit → Act → World → Prop} {K : St → Prop} (hend : Next P N Y K (Q .normal)) {os : List Oper} {is : List dD} {k : Nat} (hi : ew P N ops os = some is)
  (hk:∀j,os[j]?=ops[k+j]?) {S:St} {a:Act} {w:World} {ι:aB} {μ:Mu} (hR:fG P N Y ι μ S a w) (hK:dF (cS P N out base) is S K):wpOpsIn Y.F 0 P ops Q (List.range' k os.length) a w:=by
 have:=tA (Q:=Q) (rest:=[]) (fun ι μ S a w hR hK=>hend ι μ S a w hR hK) hi (fun j _=>hk j) hR hK
 rwa [List.append_nil] at this
end
end Go.AM
end
section
namespace Go.AM
section
variable {P:Program} {N:Nat} {Y:Ctx} {ι ι':aB} {μ μ':Mu} {H:aO} {w w':World} {out:Option Nat} {base:Nat}
theorem Post.mono {Q Q':Ex->St->Prop} (h:∀e S,Q e S->Q' e S) {e:Exit} {a:Act} (hp:Post P N Y Q e a w):Post P N Y Q' e a w :=
 let ⟨Y1,hY,ι,μ,S,e',hR,he,hq⟩:=hp;⟨Y1,hY,ι,μ,S,e',hR,he,h _ _ hq⟩
theorem Fo.mono {c:Code} {S:St} {Q Q':Ex->St->Prop} (h:Fo P N out base c S Q) (hq:∀e S,Q e S->Q' e S):Fo P N out base c S Q' :=
 fun Y ι μ a w ho hb hR=>wpIn_mono (h Y ι μ a w ho hb hR) fun _ _ _ hp=>hp.mono hq
theorem gO {α : Type} {F : Fence} {n : Nat} {c : Code} {Q : Exit → Act → World → Prop} (I : α → Act → World → Prop) (m : α → Nat) {x : α} {a : Act} {w : World} (h₀ : I x a w)
  (round:∀x a w,I x a w->c.wpIn F n P (Exit.then (fun a' w'=>∃y,I y a' w'/\m y<m x) Q) a w):(Code.loop c).wpIn F n P Q a w:=by
 intro b k cs hro hb hr
 have key:∀j x a w,m x=j->I x a w ->
   ∃e a' w',Q e a' w'/\ArrivesIn (Machine.fenced P F) P (lone (b.atR a (.code c :: .inLoop c::k)) cs w) b k cs e a' w':=by
  intro j
  induction j using Nat.strongRecOn with
  |_ j ih =>
   intro x a w hn hI
   obtain ⟨e,a₁,w₁,hq,mW⟩:=round x a w hI b (.inLoop c::k) cs hro hb hr
   cases e with
   |normal =>
    obtain ⟨y,hI₁,hlt⟩:=hq
    obtain ⟨e₂,a₂,w₂,hq₂,acY⟩:=ih (m y) (hn▸hlt) y a₁ w₁ rfl hI₁
    have h0:(lone (b.atR a₁ (.inLoop c::k)) cs w₁).fenced P F:=fenced_calm hb hr rfl
    exact ⟨e₂,a₂,w₂,hq₂,.of_steps (StepsIn.trans mW (.one h0 stepR_inLoop)) acY⟩
   |exit id=>exact ⟨_,a₁,w₁,hq,.pass (x:=.inLoop c) rfl (fun _ _=>.inl (by simp)) mW⟩
   |goto l=>exact ⟨_,a₁,w₁,hq,.pass (x:=.inLoop c) rfl (fun _ _=>.inl (by simp)) mW⟩
   |ret=>exact ⟨_,a₁,w₁,hq,.pass (x:=.inLoop c) rfl (fun _ _=>.inl (by simp)) mW⟩
   |panic ch=>exact ⟨_,a₁,w₁,hq,.pass (x:=.inLoop c) rfl (fun _ _=>.inl (by simp)) mW⟩
   |outgrown=>exact ⟨_,a₁,w₁,hq,.pass (x:=.inLoop c) rfl (fun _ _=>.inl (by simp)) mW⟩
 obtain ⟨e,a',w',hq,mW⟩:=key _ x a w rfl h₀
 exact ⟨e,a',w',hq,.of_steps (.one (fenced_calm hb hr rfl) stepR_loop) mW⟩
theorem ic {b:Frame} {a:Act} {k:List Item} {cs:List Frame} {c:Code}:step P (lone (b.atR a (.code (.scope c)::k)) cs w) = .next (lone (b.atR a (.code c :: .inScope c::k)) cs w) :=
 step_lone_go (by simp [stepG,stepG.exec,Frame.atR])
theorem yV {b:Frame} {a:Act} {k:List Item} {cs:List Frame} {c:Code}:step P (lone (b.atR a (.inScope c::k)) cs w) = .next (lone (b.atR a k) cs w) :=
 step_lone_go (by simp [stepG,stepG.exec,Frame.atR])
theorem Fq {F:Fence} {n:Nat} {c:Code} {Q:Exit->Act->World->Prop} {a:Act} {w:World} (h:c.wpIn F n P Q a w) (hg:∀l a w,¬Q (.goto l) a w):(Code.scope c).wpIn F n P Q a w:=by
 intro b k cs hro hb hr
 obtain ⟨e,a₁,w₁,hq,mW⟩:=h b (.inScope c::k) cs hro hb hr
 have h0:∀a w k,(lone (b.atR a (.code (.scope c)::k)) cs w).fenced P F:=fun a w k=>fenced_calm hb hr rfl
 have h1:∀a w k,(lone (b.atR a (.inScope c::k)) cs w).fenced P F:=fun a w k=>fenced_calm hb hr rfl
 cases e with
 |normal=>exact ⟨.normal,a₁,w₁,hq,.head (h0 _ _ _) ic (StepsIn.trans mW (.one (h1 _ _ _) yV))⟩
 |exit id=>exact ⟨.exit id,a₁,w₁,hq,fun k' hk=>.head (h0 _ _ _) ic (mW.1 k' (by simp [exitTo,hk])),fun hro' hk =>
   let ⟨k₁,e1,e2⟩:=mW.2 hro' (by simp [exitTo,hk]);⟨k₁,e1,.head (h0 _ _ _) ic e2⟩⟩
 |goto l=>exact absurd hq (hg _ _ _)
 |ret=>exact ⟨_,a₁,w₁,hq,.of_steps (.one (h0 _ _ _) ic) mW⟩
 |panic ch=>exact ⟨_,a₁,w₁,hq,.of_steps (.one (h0 _ _ _) ic) mW⟩
 |outgrown=>exact ⟨_,a₁,w₁,hq,.of_steps (b:=b) (k:=k) (cs:=cs) (e:=.outgrown) (.one (h0 _ _ _) ic) mW⟩
def HM (P:Program) (N:Nat) (out:Option Nat) (base:Nat):Prop:=∀(id:Nat) (ops:Array Oper) (CF SZ:List dD),ew P N ops ops.toList=some (CF++SZ)->jR (cn ops) (CF++SZ)=true->gN ops=true ->
 (∀i,CF.length<=i->i<CF.length+SZ.length->∀j,j<i->j∈(cn ops).getD i []) ->
 ∀S K,Fa (cS P N out base) (cn ops) CF S (fun S=>dF (cS P N out base) SZ S K)->Fo P N out base (.region id ops true) S fun e S=>match e with | .normal=>K S|_=>False
def HN (P:Program) (N:Nat) (out:Option Nat) (base:Nat):Prop:=∀(id:Nat) (ops:Array Oper) (is:List dD) (c e:Nat),ew P N ops ops.toList=some is->jR (cn ops) is=true->gN ops=true ->
 cut2 (cn ops) is=some (c,e) ->
 ∀S K,Fa (cS P N out base) [] (NA is c e) S (fun S=>dF (cS P N out base) (NB is c e) S K)->Fo P N out base (.region id ops true) S fun e S=>match e with | .normal=>K S|_=>False
def gT (P:Program) (N:Nat) (out:Option Nat) (base:Nat):Prop:=HM P N out base/\HN P N out base
theorem dI (cY:gT P N out base):∀(code:Code) {c:C},l6 P N code=some c->∀{S:St} {K:Ex->St->Prop},lW (cS P N out base) c S K->Fo P N out base code S K:=by
 intro code
 induction code with
 |skip => 
  intro c h S K hK Y ι μ a w ho hb hR
  cases h;exact wpIn_skip (Post.of (e':=.normal) hR rfl hK)
 |label l =>
  intro c h S K hK Y ι μ a w ho hb hR
  cases h;exact wpIn_label (Post.of (e':=.normal) hR rfl hK)
 |ret =>
  intro c h S K hK Y ι μ a w ho hb hR
  cases h;exact wpIn_ret (Post.of (e':=.ret) hR rfl hK)
 |exit id =>
  intro c h S K hK Y ι μ a w ho hb hR
  cases h;exact wpIn_exit (Post.of (e':=.exit id) hR rfl hK)
 |goto l=>intro c h;cases h
 |refuse why=>intro c h;cases h
 |scope b ih =>
  intro c h S K hK Y ι μ a w ho hb hR
  refine Fq (ih h hK Y ι μ a w ho hb hR) fun l a w hq=>?_
  obtain ⟨_,_,_,_,_,e',_,he,_⟩:=hq
  cases e'<;>cases he
 |region id ops draw =>
  intro c h S K hK Y ι μ a w ho hb hR
  simp only [l6] at h
  split at h<;>try (cases h;done)
  rename_i is nO
  cases draw with
  |true =>
   simp only at h
   split at h<;>try (cases h;done)
   rename_i KF
   cases h
   split at hK
   ·rename_i c e hl
    simp only [lW] at hK
    refine wpIn_mono (cY.2 id ops is c e nO KF.1 KF.2 hl S _ hK Y ι μ a w ho hb hR) fun e a w hp=>?_
    obtain ⟨Y1,hY,ι',μ',S',e',h1,h2,h3⟩:=hp
    cases e'<;>simp at h3
    exact ⟨Y1,hY,ι',μ',S',.normal,h1,h2,h3⟩
   split at hK
   ·rename_i c hl
    simp only [lW] at hK
    unfold WY at hl
    split at hl<;>try (cases hl;done)
    split at hl<;>try (cases hl;done)
    rename_i hq
    cases hl
    rw [Bool.and_eq_true,decide_eq_true_eq] at hq
    have Yo:(is.take c).length=c:=by simp [hq.2]
    have e:is.take c++is.drop c=is:=List.take_append_drop ..
    refine wpIn_mono (cY.1 id ops (is.take c) (is.drop c) (by rw [e];exact nO) (by rw [e];exact KF.1) KF.2 (fun i hi hi2 j hj=>?_) S _ hK Y ι μ a w ho hb hR) fun e a w hp=>?_
    ·rw [Yo] at hi
     rw [<-List.length_append,e] at hi2
     have:=List.all_eq_true.1 hq.1 i (List.mem_range.2 hi2)
     rw [Bool.or_eq_true,decide_eq_true_eq] at this
     rcases this with h|h
     ·omega
     ·simpa using List.all_eq_true.1 h j (List.mem_range.2 hj)
    ·obtain ⟨Y1, hY, ι', μ', S', e', h1, h2, h3⟩ := hp
     cases e'<;>simp at h3
     exact ⟨Y1,hY,ι',μ',S',.normal,h1,h2,h3⟩
   ·simp only [lW] at hK
    refine wpIn_mono (cY.1 id ops is [] (by rw [List.append_nil];exact nO) (by rw [List.append_nil];exact KF.1) KF.2 (fun i hi hi2=>by simp at hi2;omega) S _ hK Y ι μ a w ho hb hR) fun e a w hp=>?_
    obtain ⟨Y1,hY,ι',μ',S',e',h1,h2,h3⟩:=hp
    cases e'<;>simp at h3
    exact ⟨Y1,hY,ι',μ',S',.normal,h1,h2,h3⟩
  |false =>
   cases h
   simp only [lW] at hK
   refine wpIn_region ?_
   have:=wL (Y:=Y) (Q:=Post P N Y K) (K:=fun S=>K .normal S) (out:=out) (base:=base) (fun ι μ S a w hR hK=>(Post.of (e':=.normal) hR rfl hK)) (k:=0) nO (fun j=>by simp) hR hK
   rwa [Array.length_toList,<-List.range_eq_range'] at this
 |seq x y ihx ihy =>
  intro c h S K hK Y ι μ a w ho hb hR
  have h0:=h
  simp only [l6] at h
  split at h<;>try (cases h;done)
  rename_i cx cy hx hy
  split at h
  rotate_left
  next hd hmh =>
   split at h<;>try (cases h;done)
   rename_i bd hbd
   cases h
   rcases hK with hK|⟨ids,u,hu,hK⟩
   ·exact hK x y h0 (by rw [hmh];rfl) Y ι μ a w ho hb hR
   ·obtain ⟨ι', fU⟩ := hR.cl hu
    exact hK x y h0 (by rw [hmh];rfl) Y ι' μ a w ho hb fU
  cases h
  simp only [lW] at hK
  refine wpIn_seq (wpIn_mono (ihx hx hK Y ι μ a w ho hb hR) fun e a' w' hp=>?_)
  obtain ⟨Y1,hY,ι',μ',S',e',h1,h2,h3⟩:=hp
  cases e' with
  |normal=>cases h2;exact n8 (ihy hy h3) hY ho hb h1
  |exit id=>cases h2;exact ⟨Y1,hY,ι',μ',S',.exit id,h1,rfl,h3⟩
  |ret=>cases h2;exact ⟨Y1,hY,ι',μ',S',.ret,h1,rfl,h3⟩
 |cond c0 x y ihx ihy =>
  intro c h S K hK Y ι μ a w ho hb hR
  simp only [l6] at h
  split at h<;>try (cases h;done)
  rename_i co cx cy hc hx hy
  cases h
  simp only [lW] at hK
  have rc:=aK hR.env hc
  generalize hg:a.eval c0=cv at rc
  split at hK
  ·rename_i hce; rw [hce] at rc; cases rc
   exact wpIn_cond hg (ihx hx hK Y ι μ a w ho hb hR)
  ·rename_i hce; rw [hce] at rc; cases rc
   exact wpIn_cond hg (ihy hy hK Y ι μ a w ho hb hR)
  ·rename_i t hce; rw [hce] at rc; cases rc
   obtain ⟨k1,k2⟩:=hK
   have hrw:fG P N Y ι μ (M5 co t S) a w:=by
    cases co with
    |c v=>exact hR
    |m d c8=>exact hR
    |t d =>
     refine ⟨fun i=>?_,hR.sz,hR.inv,hR.ms⟩
     simp only [M5,Sg,l9]
     by_cases hi:d=i
     ·subst hi; rw [if_pos rfl]
      have:=hR.env d
      have e1:get d S.env = .bool t:=hce
      rw [e1] at this
      generalize a.tmps.getD d undef=x at this
      cases this;exact .tf _
     ·rw [if_neg hi];exact hR.env i
   cases t with
   |true=>exact wpIn_cond hg (ihx hx (k1 rfl) Y ι μ a w ho hb hrw)
   |false=>exact wpIn_cond hg (ihy hy (k2 rfl) Y ι μ a w ho hb hrw)
  ·rename_i t hce; rw [hce] at rc
   cases rc with
   |cb _ b hbt =>
   obtain ⟨k1,k2⟩:=hK
   have hrw:fG P N Y ι μ (M5 co b S) a w:=by
    cases co with
    |c v=>exact hR
    |m d c8=>exact hR
    |t d =>
     refine ⟨fun i=>?_,hR.sz,hR.inv,hR.ms⟩
     simp only [M5,Sg,l9]
     by_cases hi:d=i
     ·subst hi; rw [if_pos rfl]
      have e2:a.tmps.getD d undef = .bool b:=by
       unfold dY at hc
       split at hc<;>try (cases hc;done)
       ·cases hc;exact hg
       ·split at hc<;>cases hc
      rw [e2];exact .tf _
     ·rw [if_neg hi];exact hR.env i
   cases b with
   |true=>exact wpIn_cond hg (ihx hx (k1 (hbt rfl)) Y ι μ a w ho hb hrw)
   |false=>exact wpIn_cond hg (ihy hy k2 Y ι μ a w ho hb hrw)
  ·exact hK.elim
 |block id b ih =>
  intro c h S K hK Y ι μ a w ho hb hR
  simp only [l6] at h
  cases hx:l6 P N b<;>simp [hx] at h
  subst h
  simp only [lW] at hK
  refine wpIn_block (wpIn_mono (ih hx hK Y ι μ a w ho hb hR) fun e a' w' hp=>?_)
  obtain ⟨Y1,hY,ι',μ',S',e',h1,h2,h3⟩:=hp
  cases e' with
  |normal=>cases h2;exact ⟨Y1,hY,ι',μ',S',.normal,h1,rfl,h3⟩
  |exit id' =>
   cases h2
   simp only [Exit.inBlock]
   simp only at h3
   split at h3
   ·rename_i Bc
    rw [if_pos (Nat.eq_of_beq_eq_true Bc)]
    exact ⟨Y1,hY,ι',μ',S',.normal,h1,rfl,h3⟩
   ·rename_i Bc
    rw [if_neg (fun e=>by subst e;rw [Nat.beq_refl] at Bc;cases Bc)]
    exact ⟨Y1,hY,ι',μ',S',.exit id',h1,rfl,h3⟩
  |ret=>cases h2;exact ⟨Y1,hY,ι',μ',S',.ret,h1,rfl,h3⟩
 |loop b ih =>
  intro c h S K hK
  simp only [l6] at h
  cases hx:l6 P N b<;>simp [hx] at h
  subst h
  rcases hK with hK|⟨ids,u,hu,hK⟩
  ·exact hK b hx
  ·intro Y ι μ a w ho hb hR
   obtain ⟨ι',fU⟩:=hR.cl hu
   exact hK b hx Y ι' μ a w ho hb fU
 |rangeFunc f ps x y ihx ihy =>
  intro c h S K hK
  simp only [l6] at h
  split at h<;>try (cases h;done)
  rename_i fo cx cy hf hx hy
  cases h
  rcases hK with hK|⟨ids,u,hu,hK⟩
  ·exact hK f ps x y hf rfl hx hy
  ·intro Y ι μ a w ho hb hR
   obtain ⟨ι',fU⟩:=hR.cl hu
   exact hK f ps x y hf rfl hx hy Y ι' μ a w ho hb fU
end
end Go.AM
end
section
namespace Go.AM
def bW:Ar:=bM (fun _ _ _ _=>False) (fun _ _ _=>False) (fun _ _ _=>False) (fun _ _ _ _=>False) (fun _ _ _ _ _ _=>False) (fun _ _ _=>False) (fun _ _ _ _ _ _=>False)
def HO (ar : Ar) (bl : ai) (g : Bool) (k : Nat) : V → Option V
 | .ptr id off=>match aq id bl with
  |some (.cells cs _)=>match cut off k cs with
   |some vs=>fQ g vs
   |none=>none
  |_=>none
 | .av cs=>match cut 0 k cs with
  |some vs=>fQ g vs
  |none=>none
 | .pa id t m=>match aq id bl with
  |some (.arr t' xs _)=>if t=t' then (match CM ar t' xs m 0 with
   |vs=>if vs.length=k then fQ g vs else none) else none
  |_=>none
 |_=>none
def rK (ar : Ar) (S : St) : List RV → Option (List V)
 |[]=>some []
 | .t n::r=>match rK ar S r with
  |some vs=>some (get n S.env::vs)
  |none=>none
 | .cell n g k::r=>match HO ar S.H.bl g k (get n S.env) with
  |some v=>match rK ar S r with
   |some vs=>some (v::vs)
   |none=>none
  |none=>none
def nJ : List V → V
 |[v]=>v
 |vs=>.cG vs
def ej : List Nat → ai → Option ai
 |[],bl=>some bl
 |id::r,bl=>match aq id bl with
  |some .fC=>ej r (cB id bl)
  |_=>none
def uZ (ar:Ar) (res:List RV) (tys:List (Option Ty)) (K:V->Prop):Ex->St->Prop:=fun e S=>match e with
 | .exit _=>False
 | .normal=>kr ar res tys K S
 | .ret=>kr ar res tys K S
where kr (ar:Ar) (res:List RV) (tys:List (Option Ty)) (K:V->Prop) (S:St):Prop:=match ej S.ms S.H.bl with
 |some bl=>match rK bW ⟨S.env,⟨S.H.next,bl⟩,[]⟩ res with
  |some vs=>match fin ar bl 8 (nJ (cw tys vs)) with
   |some r=>K r
   |none=>False
  |none=>False
 |none=>False
def oa (res:List RV) (tys:List (Option Ty)) (K:V->aO->Prop):Ex->St->Prop:=fun e S=>match e with
 | .exit _=>False
 | .normal=>kr res tys K S
 | .ret=>kr res tys K S
where kr (res:List RV) (tys:List (Option Ty)) (K:V->aO->Prop) (S:St):Prop:=match ej S.ms S.H.bl with
 |some bl=>match rK bW ⟨S.env,⟨S.H.next,bl⟩,[]⟩ res with
  |some vs=>K (nJ (cw (hTs tys) vs)) ⟨S.H.next,bl⟩
  |none=>False
 |none=>False
section
variable {P : Program} {N : Nat} {Y : Ctx} {ι ι' : aB} {μ μ' : Mu} {H : aO} {w w' : World} {out : Option Nat} {base : Nat}
 {c1:Nat->List V->aO->(V->aO->Prop)->Prop} {c2:Nat->List V->V->Prop} {c3:C->St->(Ex->St->Prop)->Prop}
theorem eC : ∀ {n : Nat} {v : V} {x : Value}, cJ n v = true → Rel ι μ v x → Rel ι μ' v x
 |0,v,x,h,_=>by cases h
 |n+1,v,x,h,hr=>by
  have all:∀{cs:List V} {i:Nat} {v:V},cs.all (cJ n)=true->cs[i]?=some v->cJ n v=true:=fun h hv=>List.all_eq_true.1 h _ (List.mem_of_getElem? hv)
  cases hr<;>simp only [cJ] at h<;>try (cases h;done)
  case any=>exact .any _
  case tf=>exact .tf _
  case bool=>exact .bool _
  case int=>exact .int _ _
  case str=>exact .str _
  case eJ=>exact .eJ
  case cu=>exact .cu
  case cK=>exact .cK
  case eG t xs hd=>exact .eG t xs _ hd
  case kO t xs a hd=>exact .kO t xs a hd
  case bA=>exact .bA
  case av cs b o g h1 h2 h3=>exact .av cs b o g h1 (fun i v hv=>eC (all h hv) (h2 i v hv)) h3
  case ip t x b o us h1 h2=>exact .ip t x b o us h1 h2
  case fn f fs cs xs ys h1 h2 h3 h4 =>
   simp only [Bool.and_eq_true] at h
   exact .fn f fs cs xs ys h1 (fun i v x hv hx=>eC (all h.1 hv) (h2 i v x hv hx)) h3 (fun i v x hv hx=>eC (all h.2 hv) (h4 i v x hv hx))
  case agg cs xs h1 h2 h3=>exact .agg cs xs h1 (fun i v x hv hx=>eC (all h hv) (h2 i v x hv hx)) h3
  case cG cs xs h1 h2=>exact .cG cs xs h1 (fun i v x hv hx=>eC (all h hv) (h2 i v x hv hx))
  case bU t v x hv=>exact .bU t v x (eC h hv)
  case cb c b hc=>exact .cb c b hc
  case dZ=>exact .dZ
  case jP t xs b o us h1 h2=>exact .jP t xs b o us h1 h2
noncomputable def aB.all (ι:aB) (B:Nat->Prop) (w:World):aB:=by
 classical exact fun b o=>if B b then w.cell? ⟨b,o,none⟩ else ι b o
theorem aB.S2 {ι:aB} {B:Nat->Prop} {w:World} {b o:Nat} (h:B b):ι.all B w b o=w.cell? ⟨b,o,none⟩:=by unfold aB.all;rw [if_pos h]
theorem aB.HP {ι:aB} {B:Nat->Prop} {w:World} {b o:Nat} (h:¬B b):ι.all B w b o=ι b o:=by unfold aB.all;rw [if_neg h]
theorem aB.Bd {ι:aB} {B:Nat->Prop} {w:World} (hr:∀b o x,ι b o=some x->w.cell? ⟨b,o,none⟩=some x) {b o:Nat} {x:Value} (h:ι.all B w b o=some x):w.cell? ⟨b,o,none⟩=some x:=by
 unfold aB.all at h;split at h
 ·exact h
 ·exact hr _ _ _ h
theorem aB.wM (h:∀b o x,ι b o=some x->w.cell? ⟨b,o,none⟩=some x) {B:Nat->Prop}:ι.le (ι.all B w):=fun b o x hx=>by
 unfold aB.all;split
 ·exact h _ _ _ hx
 ·exact hx
theorem js {g : V → Option V} (hg : ∀ v r x, g v = some r → Rel ι μ v x → Rel ι' μ' r x) : ∀ {cs ds : List V} {xs : List Value}, cL g cs = some ds → aR ι μ cs xs → aR ι' μ' ds xs
 |[],ds,xs,h,hr=>by cases h;rw [hr.of_nil];exact .nil
 |v::r,ds,xs,h,hr=>by
  unfold cL at h
  obtain ⟨x,xs',rfl,h1,h2⟩:=hr.cA
  split at h<;>try (cases h;done)
  rename_i y hy
  split at h<;>try (cases h;done)
  rename_i ys hys
  cases h
  exact .cons (hg _ _ _ hy h1) (js hg hys h2)
theorem rL {ar:Ar} (hsub:∀{α:Type} (xs:List α) lo n,ar.sub' xs lo n=(xs.drop lo).take n) {bl:ai} {nx:Nat} (hI:Inv P Y ι μ ⟨nx,bl⟩ w) :
  ∀{n:Nat} {v r:V} {x:Value},fin ar bl n v=some r->Rel ι μ v x->Rel (ι.all Y.own w) (fun _=>none) r x
 |0,v,r,x,h,_=>by cases h
 |n+1,v,r,x,h,hr=>by
  have hle:=aB.wM (B:=Y.own) hI.rd
  have Fs:∀{L:Loc} {vs:List Value} {fz:Bool} {id:Nat},Mem Y.own ι μ id fz w L vs->Reads (ι.all Y.own w) L.b L.ba vs:=fun hM j v hv=>by
   rw [aB.S2 hM.old]
   exact hM.rangeAt j v hv
  have g:∀v r x,fin ar bl n v=some r->Rel ι μ v x->Rel (ι.all Y.own w) (fun _=>none) r x:=fun v r x h hr=>rL hsub hI h hr
  have conv:∀{cs ds:List V} {xs:Array Value},cL (fin ar bl n) cs=some ds->cs.length=xs.size->(∀(i:Nat) v x,cs[i]?=some v->xs[i]?=some x->Rel ι μ v x)->aR (ι.all Y.own w) (fun _=>none) ds xs.toList :=
   fun hm h1 h2=>js g hm ⟨by simpa using h1,fun i v x hv hx=>h2 i v x hv (by simpa using hx)⟩
  cases hr<;>simp only [fin] at h<;>try (cases h;done)
  case any=>cases h;exact .any _
  case tf=>cases h;exact .tf _
  case bool=>cases h;exact .bool _
  case int=>cases h;exact .int _ _
  case str=>cases h;exact .str _
  case eJ=>cases h;exact .eJ
  case cu=>cases h;exact .cu
  case cK=>cases h;exact .cK
  case eG t xs hd=>cases h;exact .eG t xs _ (ak.mono (t:=.list t) hle hd)
  case kO t xs a hd=>cases h;exact .kO t xs a (hd.imp id fun ⟨b,o,us,ha,hr,hc⟩=>⟨b,o,us,ha,hr.mono hle,bS.mono (fun _ _=>ak.mono hle) hc⟩)
  case bA=>cases h;exact .bA
  case sl id t lo m cap L hL h1 h2 h3 =>
   split at h<;>try (cases h;done)
   rename_i t' xs fz hb
   split at h<;>try (cases h;done)
   rename_i e;subst e
   cases h
   rw [hsub]
   have hF:iM (ι.all Y.own w) μ id t xs:=by
    rcases hI.live _ _ hb with ⟨e,hn⟩|⟨L',vs,hM,hR,hl⟩
    ·exact .inl ⟨e,hn⟩
    ·exact .inr ⟨L',vs,hM.mu,Fs hM,bS.mono (fun _ _=>ak.mono hle) hR,hl⟩
   exact .eG _ _ _ (hF.slice (.sl (ι:=ι) id t lo m cap L hL h1 h2 h3))
  case cg id t lo a =>
   split at h<;>try (cases h;done)
   rename_i t' xs fz hb
   split at h<;>try (cases h;done)
   rename_i e;subst e
   cases h
   rw [hsub]
   exact .eG _ _ _ ⟨a,0,by simp,by simp,.inl (by simp)⟩
  case ptr id off L hL =>
   split at h<;>try (cases h;done)
   rename_i cs fz hb
   split at h<;>try (cases h;done)
   rename_i ds hds
   split at h<;>try (cases h;done)
   rename_i hoff
   cases h
   obtain ⟨L',vs,hM,hR⟩:=hI.live _ _ hb
   rw [hM.mu] at hL;cases hL
   have fU:=js g hds hR
   have hrd:=Fs hM
   refine .av _ L.b (L.ba+off) (fun i=>vs.getD (off+i) .nilIface) (fun i hi=>?_) (fun i v hv=>?_) (fun i=>?_)
   ·have hlt : off + i < vs.length := by have := fU.1; simp at hi; omega
    have:vs[off+i]?=some (vs.getD (off+i) .nilIface):=by simp [List.getD,hlt]
    rw [Nat.add_assoc];exact hrd _ _ this
   ·have Db : ds[off + i]? = some v := by simpa using hv
    obtain ⟨y,hy,hry⟩:=fU.at Db
    simp only [List.getD,hy,Option.getD_some];exact hry
   ·by_cases hlt : off + i < vs.length
    ·have : vs.getD (off + i) .nilIface = vs[off + i] := by simp [List.getD, hlt]
     rw [this];exact hM.one _ (List.getElem_mem hlt)
    ·have : vs.getD (off + i) .nilIface = .nilIface := by simp [List.getD, List.getElem?_eq_none (show vs.length ≤ off + i by omega)]
     rw [this];rfl
  case av cs b o gf h1 h2 h3 =>
   split at h<;>try (cases h;done)
   rename_i hall
   cases h
   exact .av cs b o gf (fun i hi=>hle _ _ _ (h1 i hi)) (fun i v hv=>(eC (List.all_eq_true.1 hall _ (List.mem_of_getElem? hv)) (h2 i v hv)).mono hle (Mu.le_refl _)) h3
  case ip t y b o us h1 h2=>cases h;exact .ip t y b o us (h1.mono hle) (ak.mono hle h2)
  case fn f fs cs xs ys h1 h2 h3 h4 =>
   split at h<;>try (cases h;done)
   rename_i as bs ha hb
   cases h
   have r1:=conv ha h1 h2
   have r2:=conv hb h3 h4
   exact .fn f as bs xs ys (by simpa using r1.1) (fun i v x hv hx=>r1.2 i v x hv (by simpa using hx)) (by simpa using r2.1) (fun i v x hv hx=>r2.2 i v x hv (by simpa using hx))
  case agg cs xs h1 h2 h3 =>
   split at h<;>try (cases h;done)
   rename_i ds hds
   cases h
   have r1:=conv hds h1 h2
   exact .agg ds xs (by simpa using r1.1) (fun i v x hv hx=>r1.2 i v x hv (by simpa using hx)) h3
  case cG cs xs h1 h2 =>
   split at h<;>try (cases h;done)
   rename_i ds hds
   cases h
   have r1:=conv hds h1 h2
   exact .cG ds xs (by simpa using r1.1) (fun i v x hv hx=>r1.2 i v x hv (by simpa using hx))
  case bU t v x hv =>
   split at h<;>try (cases h;done)
   rename_i r' hr'
   cases h
   exact .bU t r' x (g _ _ _ hr' hv)
  case cb c b hc=>cases h;exact .cb c b hc
  case dZ=>cases h;exact .dZ
  case jP t xs b o us h1 h2=>cases h;exact .jP t xs b o us (h1.mono hle) (bS.mono (fun _ _=>ak.mono hle) h2)
  case pa id t m L hL hm =>
   split at h<;>try (cases h;done)
   rename_i t' xs fz hb
   split at h<;>try (cases h;done)
   rename_i e;subst e
   cases h
   rcases hI.live _ _ hb with ⟨e,hn⟩|⟨L',vs,hM,hR,hl⟩
   ·rw [hn] at hL;cases hL
   ·rw [hM.mu] at hL; cases hL
    exact .jP _ _ _ _ vs (Fs hM) (bS.mono (fun _ _=>ak.mono hle) hR)
end
end Go.AM
end
section
namespace Go.AM
section
variable {P:Program} {N:Nat} {Y:Ctx} {ι ι':aB} {μ μ':Mu} {H:aO} {w w':World} {out:Option Nat} {base:Nat}
theorem Inv.shut {bl:ai} {n id:Nat} {L:Loc} (h:Inv P Y ι μ ⟨n,bl⟩ w) (hb:aq id bl=some .fC) (hL:μ id=some L):Inv P Y ι μ ⟨n,cB id bl⟩ (w.putObj L.b (.deferred none)):=by
 obtain ⟨L',h1,h2,h3⟩:=h.live id _ hb
 rw [hL] at h1;cases h1
 have hlt:L.b<w.heap.size:=(Array.getElem?_eq_some_iff.1 h3).1
 have dG:∀k,k≠L.b->(w.putObj L.b (.deferred none)).heap[k]?=w.heap[k]?:=fun k hk=>World.putObj_heap_other hk
 have hsub:=h.del id
 refine ⟨⟨h.below.os, h.below.tape, h.below.output, by rw [World.putObj_size]; exact h.below.size, fun k hk hx => ?_, h.below.dr, fun k hk => (h.below.maps k hk).trans (by
   by_cases e:k=L.b
   ·subst e;exact .no (fun ms c e=>by rw [h3] at e;cases e)
   ·exact .eq (dG k e))⟩,h.i0,h.iB,fun b o x hx=>?_,h.m0,h.nx,fun i B hB=>?_,hsub.inj,hsub.lt,h.gl⟩
 ·rw [dG k (Ctx.mV h2 hk hx)];exact h.below.block k hk hx
 ·have := h.rd b o x hx
  have hne:b≠L.b:=fun e=>by subst e;simp [World.cell?,h3] at this
  unfold World.cell? at this ⊢
  simp only at this ⊢
  rw [dG b hne];exact this
 ·simp only at hB
  rw [bB] at hB
  split at hB
  ·cases hB
  ·rename_i e
   refine (h.live i B hB).mono (aB.le_refl _) (Mu.le_refl _) (fun h=>h) (fun L' hL'=>dG _ (fun e'=>e (h.inj i id B _ L' L hB hb hL' hL e'))) (fun _ _ h=>h)
theorem N7 {ar:Ar} {bl:ai} {g:Bool} {k:Nat} {v y:V} (h:HO ar bl g k v=some y):de ar (.load g k (.c v)) [] bl 0=some ([],y,[]):=by
 unfold HO at h
 simp only [de,O.ev]
 split at h<;>try (cases h;done)
 ·split at h <;> try (cases h; done)
  rename_i hb
  split at h<;>try (cases h;done)
  rename_i hc
  simp only [hb,hc,h]
 ·split at h <;> try (cases h; done)
  rename_i hc
  simp only [hc,h]
 ·split at h <;> try (cases h; done)
  rename_i hb
  split at h<;>try (cases h;done)
  rename_i e
  subst e
  dsimp only at h
  split at h<;>try (cases h;done)
  rename_i hk
  simp only [hb,if_true,if_pos hk,h]
def wN (tmps : Array Value) : ResultVar → Sem Value
 | .tmp t=>pure (tmps.getD t undef)
 | .cell a t=>do loadVar t (<-asAddr (tmps.getD a undef))
theorem Ft (fn : Func) (tmps : Array Value) : results fn tmps = (do
  let vs <-fn.results.mapM (wN tmps)
  pure (if h:vs.size=1 then vs[0] else .tuple vs)):=rfl
theorem wO (hI:Inv P Y ι μ H w) {env:List (Nat×V)} {ms:List Nat} {tmps:Array Value} (he:fS ι μ env tmps):∀{rs:List ResultVar} {res:List RV} {vs:List V},Ku P rs=some res->rK bW ⟨env,H,ms⟩ res=some vs ->
  ∃xs,(rs.mapM (wN tmps)).run P w = .ok xs w/\aR ι μ vs xs
 |[],res,vs,h,hv=>by cases h;cases hv;exact ⟨[],rfl,.nil⟩
 | .tmp t::rs,res,vs,h,hv=>by
  simp only [Ku] at h
  cases hr:Ku P rs<;>simp [hr] at h
  subst h
  simp only [rK] at hv
  split at hv<;>try (cases hv;done)
  rename_i vs' hvs
  cases hv
  obtain ⟨xs,h1,h2⟩:=wO hI he hr hvs
  exact ⟨tmps.getD t undef::xs,by simp only [List.mapM_cons,wN,Sem.run_bind,Sem.run_pure,Result.andThen_ok,h1],.cons (he t) h2⟩
 | .cell a t::rs,res,vs,h,hv=>by
  simp only [Ku] at h
  split at h<;>try (cases h;done)
  rename_i k g rs' hk hg hr
  cases h
  simp only [rK] at hv
  split at hv<;>try (cases hv;done)
  rename_i v hl
  split at hv<;>try (cases hv;done)
  rename_i vs' hvs
  cases hv
  obtain ⟨xs,h1,h2⟩:=wO hI he hr hvs
  have aj:=N7 (ar:=bW) hl
  obtain ⟨_,y,hy,hry⟩:=wh (env:=[]) (x:=.c (get a env)) hI hk hg (he a) aj (fun b hb=>by cases hb)
  have hp:∃ad,tmps.getD a undef = .pointer (some ad):=by
   have:=he a
   unfold HO at hl
   split at hl<;>try (cases hl;done)
   ·rename_i hge;rw [hge] at this;generalize tmps.getD a undef=x at this;cases this;exact ⟨_,rfl⟩
   ·rename_i hge;rw [hge] at this;generalize tmps.getD a undef=x at this;cases this;exact ⟨_,rfl⟩
   ·rename_i hge;rw [hge] at this;generalize tmps.getD a undef=x at this;cases this;exact ⟨_,rfl⟩
  obtain ⟨ad,hp⟩:=hp
  rw [hp] at hy
  have hy':(loadVar t ad).run P w = .ok y w:=by simpa [Instr.loadAt,Instr.sureAddr] using hy
  exact ⟨y::xs,by simp only [List.mapM_cons,wN,Sem.run_bind,hp,asAddr,Sem.run_pure,Result.andThen_ok,hy',h1],.cons hry h2⟩
theorem Dc (hI : Inv P Y ι μ H w) {env : List (Nat × V)} {ms : List Nat} {tmps : Array Value} (he : fS ι μ env tmps) {func : Func} {res : List RV} {vs : List V} (h : Ku P func.results.toList = some res)
  (hv:rK bW ⟨env,H,ms⟩ res=some vs):∃x,(results func tmps).run P w = .ok x w/\∀tys,Rel ι μ (nJ (cw tys vs)) x:=by
 obtain ⟨xs,h1,h2⟩:=wO hI he h hv
 have hm:(func.results.mapM (wN tmps)).run P w = .ok xs.toArray w:=by
  rw [Array.mapM_eq_mapM_toList]
  simp [h1]
 refine ⟨if h:xs.toArray.size=1 then xs.toArray[0] else .tuple xs.toArray,?_,?_⟩
 ·rw [Ft, Sem.run_bind, hm]
  rfl
 ·intro tys
  replace h2:=iN (ts:=tys) h2
  generalize cw tys vs=vs at h2
  match xs,vs,h2 with
  |[],vs,h2 => 
   have:vs=[]:=List.length_eq_zero_iff.1 h2.1
   subst this
   exact .cG _ _ rfl (fun i v x hv=>by simp at hv)
  |[x],[v],h2 => 
   obtain ⟨x',r,e,h3,_⟩:=h2.cA
   cases e;exact h3
  |x::y::r,v::v'::r',h2 =>
   rw [dif_neg (by simp)]
   exact .cG _ _ (by simpa using h2.1) (fun i v x hv hx=>h2.2 i v x hv (by simpa using hx))
  |[x],[],h2=>exact absurd h2.1 (by simp)
  |[x],v::v'::r',h2=>exact absurd h2.1 (by simp)
  |x::y::r,[],h2=>exact absurd h2.1 (by simp)
  |x::y::r,[v],h2=>exact absurd h2.1 (by simp)
theorem Inv.taken (h:Inv P Y ι μ H w) {r:Nat} (hr:w.heap[r]?=some (.deferred (some []))) (hown:Y.own r) (hne:∀id B L,aq id H.bl=some B->μ id=some L->L.b≠r) (o:Obj):Inv P Y ι μ H (w.putObj r o):=by
 have dG:∀k,k≠r->(w.putObj r o).heap[k]?=w.heap[k]?:=fun k hk=>World.putObj_heap_other hk
 refine ⟨⟨h.below.os,h.below.tape,h.below.output,by rw [World.putObj_size];exact h.below.size,fun k hk hx=>?_,h.below.dr,fun k hk=>(h.below.maps k hk).trans ?_⟩,h.i0,h.iB,fun b o2 x hx=>?_,h.m0,h.nx,fun i B hB=>?_,h.inj,h.lt,h.gl⟩
 ·rw [dG k (Ctx.mV hown hk hx)];exact h.below.block k hk hx
 ·by_cases e : k = r
  ·subst e;rw [hr];exact .no fun _ _ e=>by cases e
  ·exact .eq (dG k e)
 ·have := h.rd b o2 x hx
  have hne:b≠r:=fun e=>by subst e;simp [World.cell?,hr] at this
  unfold World.cell? at this ⊢
  simp only at this ⊢
  rw [dG b hne];exact this
 ·exact (h.live i B hB).mono (aB.le_refl _) (Mu.le_refl _) (fun h=>h) (fun L' hL'=>dG _ (hne i B L' hB hL')) (fun _ _ h=>h)
theorem Fu {func:Func} {R:Ending->World->Prop} {tmps:Array Value} {Y Y1:Ctx} (hY:Ext P Y Y1) (hid:Y.hid=[]):∀{H:aO} {w:World},Inv P Y1 ι μ H w ->
  (∀w',Inv P Y ι μ H w'->LeavesInM Fence.wide 0 P func tmps R [] .returning w')->LeavesInM Fence.wide 0 P func tmps R (Y1.hid.map coll) .returning w:=by
 induction hY with
 |refl=>intro H w hI h;rw [hid];exact h w hI
 |step hY ro hI0 hr own ih =>
  rename_i Y1 ι0 μ0 H0 w0 r
  intro H w hI h
  have hlt:=(Array.getElem?_eq_some_iff.1 hr).1
  have A3:w.heap[r]?=some (.deferred (some [])):=(hI.below.block r hlt fun h=>h.2 rfl).trans hr
  have hne:∀id B L,aq id H.bl=some B->μ id=some L->L.b≠r:=fun id B L hB hL e=>by
   rcases ((hI.live id B hB).loc hL).1 with h|h
   ·have : w0.heap.size ≤ L.b := h
    omega
   ·exact h.2 e
  have mP:=(hI0.N4 hI).taken A3 own hne (.deferred none)
  exact ⟨by simp [coll],.inl ⟨r,_,rfl,run_takeDeferred A3,ih mP h⟩⟩
theorem me {func:Func} {res:List RV} (hres:Ku P func.results.toList=some res) {R:Ending->World->Prop} {tmps:Array Value} {env:List (Nat×V)} {n:Nat} {vs:List V} {Y Y1:Ctx} (hY:Ext P Y Y1) (hid:Y.hid=[]) :
  ∀{ms:List Nat} {bl bO:ai} {ds:List Deferred} {w:World},Inv P Y1 ι μ ⟨n,bl⟩ w->fS ι μ env tmps->jG Y1.hid μ ms ds->ej ms bl=some bO->rK bW ⟨env,⟨n,bO⟩,[]⟩ res=some vs ->
   (∀x w',Inv P Y ι μ ⟨n,bO⟩ w'->(∀tys,Rel ι μ (nJ (cw tys vs)) x)->R (.returned x) w')->LeavesInM Fence.wide 0 P func tmps R ds .returning w
 |[],bl,bO,ds,w,hI,he,hm,hs,hv,hR=>by
  cases hs
  rw [show ds=Y1.hid.map coll from hm]
  refine Fu hY hid hI fun w' M8=>?_
  obtain ⟨x,h1,h2⟩:=Dc M8 he hres hv
  exact ⟨x,h1,hR x w' M8 h2⟩
 |id::ms,bl,bO,ds,w,hI,he,⟨L,d,ds',e1,hL,e2,hm⟩,hs,hv,hR=>by
  subst e1;subst e2
  unfold ej at hs
  split at hs<;>try (cases hs;done)
  rename_i hb
  obtain ⟨L',h1,h2,h3⟩:=hI.live id _ hb
  rw [hL] at h1;cases h1
  exact ⟨by simp,.inl ⟨L.b,_,rfl,run_takeDeferred h3,me hres hY hid (hI.shut hb hL) he hm hs hv hR⟩⟩
theorem rM : ∀ {vs : List V} {n t : Nat}, get t (args n vs) = if n ≤ t then vs.getD (t - n) .any else .any
 |[],n,t=>by simp [args,get]
 |v::r,n,t=>by
  rw [args,fF]
  by_cases h:n=t
  ·subst h;simp
  ·rw [if_neg h, rM]
   by_cases h2:n<=t
   ·rw [if_pos (by omega),if_pos h2,show t - n=(t - (n+1))+1 by omega];rfl
   ·rw [if_neg (by omega),if_neg h2]
theorem ah {f:Nat} {func:Func} (hf:P.funcs[f]?=some func) (hb:func.body.isSome=true) (hn:(func.name == "runtime.NumGoroutine")=false):e9 P f:=fun args w=>by
 have h1:¬func.body=none:=by cases h:func.body<;>simp_all
 have h2:¬func.name = "runtime.NumGoroutine" := by simpa using hn
 simp [callFunc,hf,h1,h2]
theorem Be {f : Nat} {func : Func} {fn : Fn} (hf : P.funcs[f]? = some func) (fP : cN P func = some fn) (cY : gT P fn.N none base) {vs : List V} {H : aO} (hlen : vs.length ≤ fn.np) {Q : Ex → St → Prop}
  (h:lW (cS P fn.N none base) fn.body ⟨args 0 vs,H,[]⟩ Q) {Y:Ctx} {ι:aB} {μ:Mu} {w:World} {as:Array Value} (hro:Y.ro=none) (N8:Y.hid=[]) (hbase:Y.base base) (hI:Inv P Y ι μ H w) (hr:aR ι μ vs as.toList)
  {R:Ending->World->Prop} (hR:∀Y1 ι' μ' S' a' w' e',Ext P Y Y1->fG P fn.N Y1 ι' μ' S' a' w'->Q e' S'->(e' = .normal\/e' = .ret)/\LeavesInM Fence.wide 0 P func a'.tmps R a'.defers .returning w') :
  CallsIn Fence.wide 0 P f as w R:=by
 unfold cN at fP
 split at fP<;>try (cases fP;done)
 rename_i c hb
 split at fP<;>try (cases fP;done)
 rename_i b rs hc hrs
 split at fP<;>try (cases fP;done)
 rename_i hnp
 cases fP
 simp only at *
 have hF:Y.F=Fence.wide:=by simp [Ctx.F,hro,Fence.wide]
 have hsize:as.size=vs.length:=by have:=hr.1;simp at this;omega
 have pM:fG P func.ntmps Y ι μ ⟨args 0 vs,H,[]⟩ { tmps:=as++Array.replicate (func.ntmps - as.size) undef,defers:=[] } w:=by
  refine ⟨fun t=>?_,by simp;omega,hI,by rw [N8];rfl⟩
  simp only [rM,Nat.zero_le,if_true,Nat.sub_zero]
  by_cases ht:t<vs.length
  ·have hv : vs[t]? = some (vs.getD t .any) := by simp [List.getD, ht]
   obtain ⟨x,hx,hrx⟩:=hr.at hv
   have:(as++Array.replicate (func.ntmps - as.size) undef).getD t undef=x:=by
    rw [Array.getD_eq_getD_getElem?,Array.getElem?_append_left (by omega)]
    simp at hx;simp [hx]
   rw [this];exact hrx
  ·have : vs.getD t .any = .any := by simp [List.getD, List.getElem?_eq_none (show vs.length ≤ t by omega)]
   rw [this];exact .any _
 refine callsIn_of_wp_marks hf hb trivial ?_
 have hwp:=dI cY c hc h Y ι μ _ w hro hbase pM
 rw [hF] at hwp
 refine wpIn_mono hwp fun e a' w' hp=>?_
 obtain ⟨Y1,hY,ι',μ',S',e',h1,h2,h3⟩:=hp
 obtain ⟨h4,h5⟩:=hR Y1 ι' μ' S' a' w' e' hY h1 h3
 rcases h4 with rfl|rfl<;>cases h2<;>exact h5
theorem ac0 {f : Nat} {func : Func} {fn : Fn} (hf : P.funcs[f]? = some func) (fP : cN P func = some fn) (hent : e9 P f) (cY : gT P fn.N none 0) {vs : List V} {r : V} (hlen : vs.length ≤ fn.np)
  (h:lW (cS P fn.N none 0) fn.body ⟨args 0 vs,⟨0,[]⟩,[]⟩ (uZ (cS P fn.N none 0) fn.res fn.tys (·=r))):dy P f vs r:=by
 refine ⟨hent,fun ι w as S4 hrd hr=>?_⟩
 let Y:Ctx:=⟨w,ι,fun _=>none,none,fun _=>False,[]⟩
 have hI:Inv P Y ι (fun _=>none) ⟨0,[]⟩ w:=⟨HA.refl _ _,aB.le_refl _,fun _ _ _ _=>rfl,hrd,fun id L h=>h,fun _ _=>rfl,fun id B h=>by simp [aq] at h,fun id id' B B' L L' h=>by simp [aq] at h,fun id B h=>by simp [aq] at h,S4⟩
 have hres:Ku P func.results.toList=some fn.res:=by
  unfold cN at fP
  split at fP<;>try (cases fP;done)
  split at fP<;>try (cases fP;done)
  rename_i hrs
  split at fP<;>try (cases fP;done)
  cases fP;exact hrs
 refine Be (Y:=Y) hf fP cY hlen h rfl rfl (fun _ _=>rfl) hI hr fun Y1 ι' μ' S' a' w' e' hY hR hq=>?_
 have key:uZ.kr (cS P fn.N none 0) fn.res fn.tys (·=r) S'->LeavesInM Fence.wide 0 P func a'.tmps (fun e w'=>∃v ι',e = .returned v/\ι.le ι'/\(∀b o,b<w.heap.size->ι' b o=ι b o)/\gH ι' w' /\
   Dw w w'/\Rel ι' (fun _=>none) r v) a'.defers .returning w':=by
  intro hs
  unfold uZ.kr at hs
  split at hs<;>try (exact hs.elim)
  rename_i bl sS
  split at hs<;>try (exact hs.elim)
  rename_i vs' hvs
  split at hs<;>try (exact hs.elim)
  rename_i r' Yp
  subst hs
  refine me hres (n:=S'.H.next) (bl:=S'.H.bl) hY rfl hR.inv hR.env hR.ms sS hvs fun x w2 mP hx=>?_
  refine ⟨x,ι'.all Y.own w2,rfl,aB.le_trans mP.i0 (aB.wM mP.rd),fun b o hb=>?_,fun b o y hy=>?_,mP.below.to (fun _ h=>h),?_⟩
  ·rw [aB.HP (fun h=>by rcases h with h|h;exact absurd hb (Nat.not_lt.2 h);exact h)];exact mP.iB b o hb (fun h=>h)
  ·exact aB.Bd mP.rd hy
  ·exact rL (Y:=Y) (ar:=cS P fn.N none 0) (fun _ _ _=>rfl) mP Yp (hx fn.tys)
 cases e' with
 |exit id=>exact hq.elim
 |normal=>exact ⟨.inl rfl,key hq⟩
 |ret=>exact ⟨.inr rfl,key hq⟩
end
end Go.AM
end
section
namespace Go.AM
def ir (π : List Nat) : Nat → V → Option V
 |0,_=>none
 |n+1,v=>match v with
  | .sl id t lo m=>match π[id]? with
   |some i=>some (.sl i t lo m)
   |none=>none
  | .ptr id o=>match π[id]? with
   |some i=>some (.ptr i o)
   |none=>none
  | .ep id t j p=>match π[id]? with
   |some i=>some (.ep i t j p)
   |none=>none
  | .yl id=>match π[id]? with
   |some i=>some (.yl i)
   |none=>none
  | .mp id=>match π[id]? with
   |some i=>some (.mp i)
   |none=>none
  | .pa id t m=>match π[id]? with
   |some i=>some (.pa i t m)
   |none=>none
  | .sp _ _ _=>none
  | .av cs=>match cL (ir π n) cs with
   |some cs=>some (.av cs)
   |none=>none
  | .fn f a b=>match cL (ir π n) a with
   |some a=>match cL (ir π n) b with
    |some b=>some (.fn f a b)
    |none=>none
   |none=>none
  | .agg cs=>match cL (ir π n) cs with
   |some cs=>some (.agg cs)
   |none=>none
  | .cG cs=>match cL (ir π n) cs with
   |some cs=>some (.cG cs)
   |none=>none
  | .bU t v=>match ir π n v with
   |some v=>some (.bU t v)
   |none=>none
  |v=>some v
def S5 (π:List Nat) (v' v:V):Prop:=match v' with
 | .any=>True
 |v'=>match ir π 8 v' with
  |some u=>v=u
  |none=>False
def Yq (π : List Nat) (env : List (Nat × V)) : List (Nat × V) → Prop
 |[]=>True
 |[(t,v)]=>S5 π v (get t env)
 |(t,v)::r=>S5 π v (get t env)/\Yq π env r
def Bf (π : List Nat) : jE → Option jE
 | .cells cs fz=>match cL (ir π 8) cs with
  |some cs=>some (.cells cs fz)
  |none=>none
 | .arr t xs fz=>some (.arr t xs fz)
 | .fC=>some .fC
 | .map kt kg vt vg es=>some (.map kt kg vt vg es)
 | .loop _ _ _ _ _ _ _ _=>none
 | .j8 _ _ _ _ _=>none
def Yr (π : List Nat) (bl : ai) : ai → Prop
 |[]=>True
 |(id,b)::r=>(match π[id]? with
  |some i=>match Bf π b with
   |some b'=>aq i bl=some b'
   |none=>False
  |none=>False)/\Yr π bl r
def Ent (base:Nat) (π:List Nat) (S S':St):Prop :=
 (π.take base=List.range base/\π.Nodup/\S'.H.next=π.length/\S'.ms.map (fun i=>π[i]?)=S.ms.map some)/\Yq π S.env S'.env/\Yr π S.H.bl S'.H.bl
section
variable {P:Program} {N:Nat} {Y:Ctx} {ι ι':aB} {μ μ':Mu} {H:aO} {w w':World} {out:Option Nat} {base:Nat} {π:List Nat}
def Mu.gE (μ:Mu) (π:List Nat):Mu:=fun id=>(π[id]?).bind μ
theorem rN {g : V → Option V} (hg : ∀ v u x, g v = some u → Rel ι μ u x → Rel ι' μ' v x) : ∀ {cs ds : List V} {xs : List Value}, cL g cs = some ds → aR ι μ ds xs → aR ι' μ' cs xs
 |[],ds,xs,h,hr=>by cases h;rw [hr.of_nil];exact .nil
 |v::r,ds,xs,h,hr=>by
  unfold cL at h
  split at h<;>try (cases h;done)
  rename_i y hy
  split at h<;>try (cases h;done)
  rename_i ys hys
  cases h
  obtain ⟨x,xs',rfl,h1,h2⟩:=hr.cA
  exact .cons (hg _ _ _ hy h1) (rN hg hys h2)
theorem wP : ∀ {n : Nat} {v u : V} {x : Value}, ir π n v = some u → Rel ι μ u x → Rel ι (μ.gE π) v x
 |0,v,u,x,h,_=>by cases h
 |n+1,v,u,x,h,hr=>by
  have g:∀v u x,ir π n v=some u->Rel ι μ u x->Rel ι (μ.gE π) v x:=fun v u x h hr=>wP h hr
  have lift:∀{cs ds:List V} {xs:Array Value},cL (ir π n) cs=some ds->ds.length=xs.size->(∀(i:Nat) v x,ds[i]?=some v->xs[i]?=some x->Rel ι μ v x)->aR ι (μ.gE π) cs xs.toList :=
   fun hm h1 h2=>rN g hm ⟨by simpa using h1,fun i v x hv hx=>h2 i v x hv (by simpa using hx)⟩
  cases v<;>simp only [ir] at h
  case any=>exact .any _
  case tf=>cases h;cases hr;exact .tf _
  case bool=>cases h;cases hr;exact .bool _
  case int=>cases h;cases hr;exact .int _ _
  case str=>cases h;cases hr;exact .str _
  case eJ=>cases h;cases hr;exact .eJ
  case cu=>cases h;cases hr;exact .cu
  case cK=>cases h;cases hr;exact .cK
  case eG t xs=>cases h;cases hr with|eG _ _ _ hd=>exact .eG t xs _ hd
  case kO t xs=>cases h;cases hr with|kO _ _ a hd=>exact .kO t xs a hd
  case bA=>cases h;cases hr;exact .bA
  case sl id t lo m =>
   split at h<;>try (cases h;done)
   rename_i i hi;cases h
   cases hr with
   |sl _ _ _ _ cap L hL h1 h2 h3=>exact .sl id t lo m cap L (by simp [Mu.gE,hi,hL]) h1 h2 h3
   |cg=>exact .cg _ _ _ _
  case ptr id o =>
   split at h<;>try (cases h;done)
   rename_i i hi;cases h
   cases hr with|ptr _ _ L hL=>exact .ptr id o L (by simp [Mu.gE,hi,hL])
  case ep id t j p =>
   split at h<;>try (cases h;done)
   rename_i i hi;cases h
   cases hr with|ep _ _ _ _ L hL=>exact .ep id t j p L (by simp [Mu.gE,hi,hL])
  case yl id =>
   split at h<;>try (cases h;done)
   rename_i i hi;cases h
   cases hr with|yl _ L hL=>exact .yl id L (by simp [Mu.gE,hi,hL])
  case av cs =>
   split at h<;>try (cases h;done)
   rename_i ds hds;cases h
   cases hr with
   |av _ b o gf h1 h2 h3 =>
    have hR:aR ι μ ds ((List.range ds.length).map gf):=⟨by simp,fun i v x hv hx=>by
     have hi:=(List.getElem?_eq_some_iff.1 hv).1
     simp [hi] at hx;subst hx;exact h2 i v hv⟩
    have fU:=rN g hds hR
    have hl:cs.length=ds.length:=by have:=fU.1;simpa using this
    exact .av cs b o gf (fun i hi => h1 i (by omega)) (fun i v hv => fU.2 i v (gf i) hv (by
     have hi:=(List.getElem?_eq_some_iff.1 hv).1
     simp [show i<ds.length by omega])) h3
  case ip t y=>cases h;cases hr with|ip _ _ b o us h1 h2=>exact .ip t y b o us h1 h2
  case fn f fs cs =>
   split at h<;>try (cases h;done)
   rename_i as ha
   split at h<;>try (cases h;done)
   rename_i bs hb;cases h
   cases hr with
   |fn _ _ _ xs ys h1 h2 h3 h4 =>
    have r1:=lift ha h1 h2
    have r2:=lift hb h3 h4
    exact .fn f fs cs xs ys (by simpa using r1.1) (fun i v x hv hx=>r1.2 i v x hv (by simpa using hx)) (by simpa using r2.1) (fun i v x hv hx=>r2.2 i v x hv (by simpa using hx))
  case agg cs =>
   split at h<;>try (cases h;done)
   rename_i ds hds;cases h
   cases hr with
   |agg _ xs h1 h2 h3 =>
    have r1:=lift hds h1 h2
    exact .agg cs xs (by simpa using r1.1) (fun i v x hv hx=>r1.2 i v x hv (by simpa using hx)) h3
  case cG cs =>
   split at h<;>try (cases h;done)
   rename_i ds hds;cases h
   cases hr with
   |cG _ xs h1 h2 =>
    have r1:=lift hds h1 h2
    exact .cG cs xs (by simpa using r1.1) (fun i v x hv hx=>r1.2 i v x hv (by simpa using hx))
  case bU t v =>
   split at h<;>try (cases h;done)
   rename_i u' hu;cases h
   cases hr with|bU _ _ x hx=>exact .bU t v x (g _ _ _ hu hx)
  case cb c=>cases h;cases hr with|cb _ b hc=>exact .cb c b hc
  case mp id =>
   split at h<;>try (cases h;done)
   rename_i i hi;cases h
   cases hr with|mp _ L hL=>exact .mp id L (by simp [Mu.gE,hi,hL])
  case dZ=>cases h;cases hr;exact .dZ
  case sp=>cases h
  case pa id t m =>
   split at h<;>try (cases h;done)
   rename_i i hi;cases h
   cases hr with|pa _ _ _ L hL hm=>exact .pa id t m L (by simp [Mu.gE,hi,hL]) hm
  case jP t xs=>cases h;cases hr with|jP _ _ b o us h1 h2=>exact .jP t xs b o us h1 h2
theorem Dd {v' v:V} {x:Value} (h:S5 π v' v) (hr:Rel ι μ v x):Rel ι (μ.gE π) v' x:=by
 unfold S5 at h
 split at h
 ·exact .any _
 ·split at h
  ·rename_i u hu;subst h;exact wP hu hr
  ·exact h.elim
theorem De {tmps : Array Value} {env : List (Nat × V)} (he : fS ι μ env tmps) : ∀ {env' : List (Nat × V)}, Yq π env env' → fS ι (μ.gE π) env' tmps
 |[],_=>fun t=>.any _
 |[(t,v)],h=>fun i=>by
  rw [fF];split
  ·rename_i e;subst e;exact Dd h (he _)
  ·exact .any _
 |(t,v)::p::r,h=>fun i=>by
  rw [fF];split
  ·rename_i e;subst e;exact Dd h.1 (he _)
  ·exact De he h.2 i
theorem oc : ∀ {bl bO : ai}, Yr π bl bO → ∀ {id : Nat} {b : jE}, aq id bO = some b → ∃ i b', π[id]? = some i ∧ Bf π b = some b' ∧ aq i bl = some b'
 |bl,[],_,id,b,hb=>by simp [aq] at hb
 |bl,(s,c)::r,h,id,b,hb=>by
  rw [aY] at hb
  split at hb
  ·rename_i e; subst e; cases hb
   have h1:=h.1
   split at h1
   ·rename_i i hi
    split at h1
    ·rename_i b' hb';exact ⟨i,b',hi,hb',h1⟩
    ·exact h1.elim
   ·exact h1.elim
  ·exact oc h.2 hb
theorem Ent.rep {S S':St} (h:Ent base π S S') (hbase:Y.base base) {a:Act} (hR:fG P N Y ι μ S a w):fG P N Y ι (μ.gE π) S' a w:=by
 obtain ⟨⟨h1,h2,h3,h4⟩,h5,h6⟩:=h
 have hI:=hR.inv
 have hle:Y.m0.le (μ.gE π):=fun id L hL=>by
  have hlt:id<base:=by
   rcases Nat.lt_or_ge id base with h|h
   ·exact h
   ·rw [hbase id h] at hL;cases hL
  have:π[id]?=some id:=by
   have e1:(π.take base)[id]?=(List.range base)[id]?:=by rw [h1]
   rw [List.getElem?_take,if_pos hlt,List.getElem?_range hlt] at e1
   exact e1
  simp [Mu.gE,this,hI.m0 id L hL]
 refine ⟨De hR.env h5,hR.sz,⟨hI.below,hI.i0,hI.iB,hI.rd,hle,fun id hid=>?_,fun id B hB=>?_,?_,fun id B hB=>?_,hI.gl⟩,?_⟩
 ·have : π[id]? = none := List.getElem?_eq_none (by omega)
  simp [Mu.gE,this]
 ·obtain ⟨i, b', e1, e2, e3⟩ := oc h6 hB
  have hb:=hI.live i b' e3
  have jS:(μ.gE π) id=μ i:=by simp [Mu.gE,e1]
  cases B with
  |cells cs fz =>
   simp only [Bf] at e2
   split at e2<;>try (cases e2;done)
   rename_i ds hds
   cases e2
   obtain ⟨L,vs,hM,Yt⟩:=hb
   exact ⟨L,vs,⟨by rw [jS];exact hM.mu,hM.old,hM.row,hM.fits,hM.one,hM.CC,hM.qk⟩,rN (fun _ _ _ h hr=>wP h hr) hds Yt⟩
  |arr t xs fz =>
   cases e2
   rcases hb with ⟨e,hn⟩|⟨L,vs,hM,hc,hl⟩
   ·exact .inl ⟨e,by rw [jS];exact hn⟩
   ·exact .inr ⟨L,vs,⟨by rw [jS];exact hM.mu,hM.old,hM.row,hM.fits,hM.one,hM.CC,hM.qk⟩,hc,hl⟩
  |loop=>cases e2
  |j8=>cases e2
  |fC =>
   cases e2
   obtain ⟨L,q1,q2,q3⟩:=hb
   exact ⟨L,by rw [jS];exact q1,q2,q3⟩
  |map kt kg vt vg es =>
   cases e2
   obtain ⟨L,ms,clock,kR,q1,q2,q3⟩:=hb
   exact ⟨L,ms,clock,kR,by rw [jS];exact q1,q2,q3⟩
 ·intro id id' B B' L L' hb hb' hm hm' e
  obtain ⟨i,b,e1,_,e3⟩:=oc h6 hb
  obtain ⟨i',b',EY,_,Yk⟩:=oc h6 hb'
  have jS:(μ.gE π) id=μ i:=by simp [Mu.gE,e1]
  have Yu:(μ.gE π) id'=μ i':=by simp [Mu.gE,EY]
  rw [jS] at hm;rw [Yu] at hm'
  have:=hI.inj i i' b b' L L' e3 Yk hm hm' e
  subst this
  obtain ⟨hlt,q1⟩:=List.getElem?_eq_some_iff.1 e1
  obtain ⟨hlt',q2⟩:=List.getElem?_eq_some_iff.1 EY
  exact (List.getElem_inj h2).1 (q1.trans q2.symm)
 ·obtain ⟨i, b', e1, _, _⟩ := oc h6 hB
  have:=(List.getElem?_eq_some_iff.1 e1).1
  omega
 ·have key:∀{ms ms':List Nat} {ds:List Deferred},ms'.map (fun i=>π[i]?)=ms.map some->jG Y.hid μ ms ds->jG Y.hid (μ.gE π) ms' ds:=by
   intro ms
   induction ms with
   |nil=>intro ms' ds e hm;cases ms'<;>simp at e;exact hm
   |cons i ms ih =>
    intro ms' ds e hm
    cases ms' with
    |nil=>simp at e
    |cons i' ms' =>
     simp only [List.map_cons,List.cons.injEq] at e
     obtain ⟨L,d,ds',q1,q2,q3,q4⟩:=hm
     exact ⟨L,d,ds',q1,by simp [Mu.gE,e.1,q2],q3,ih e.2 q4⟩
  exact key h4 hR.ms
theorem ab1 {α : Type} (cY : gT P N out base) (I : α → St) (m : α → Nat) (π : α → List Nat) (x0 : α) {π0 : List Nat} {c : C} {S : St} {K : Ex → St → Prop} (hstart : Ent base π0 S (I x0))
  (Fp:∀x,lW (cS P N out base) c (I x) fun e S'=>match e with
   | .normal=>∃y,m y<m x/\Ent base (π y) S' (I y)
   | .exit id=>K (.exit id) S'
   | .ret=>K .ret S'):(cS P N out base).loop c S K:=by
 intro body hbody Y ι μ a w ho hb hR
 refine gO (fun x a w=>∃Y1,Ext P Y Y1/\∃ι μ,fG P N Y1 ι μ (I x) a w) m (x:=x0) ⟨Y,.refl Y,ι,_,hstart.rep hb hR⟩ ?_
 rintro x a w ⟨Y0,N9,ι,μ,hR⟩
 refine wpIn_mono (n8 (dI cY body hbody (Fp x)) N9 ho hb hR) fun e a' w' hp=>?_
 obtain ⟨Y1,hY,ι',μ',S',e',h1,h2,h3⟩:=hp
 cases e' with
 |normal =>
  cases h2
  obtain ⟨y,hlt,hent⟩:=h3
  exact ⟨y,⟨Y1,hY,ι',_,hent.rep (hY.wF hb) h1⟩,hlt⟩
 |exit id=>cases h2;exact ⟨Y1,hY,ι',μ',S',.exit id,h1,rfl,h3⟩
 |ret=>cases h2;exact ⟨Y1,hY,ι',μ',S',.ret,h1,rfl,h3⟩
theorem wQ {f:Nat} {vs:List V} {r:V} (h:dy P f vs r) (hd:vs.all (cJ 8)=true) {K:V->aO->Prop} (hK:K r H):dB P f vs H K:=by
 refine ⟨h.1,fun Y ι μ w as hI hr=>?_⟩
 have hr':aR ι (fun _=>none) vs as.toList:=⟨hr.1,fun i v x hv hx=>eC (List.all_eq_true.1 hd _ (List.mem_of_getElem? hv)) (hr.2 i v x hv hx)⟩
 refine (h.2 ι w as hI.c8 hI.rd hr').mono ?_
 rintro e w' ⟨v,ι',rfl,hi,KG,hrd,jT,wE⟩
 refine ⟨v,ι',μ,r,H,rfl,hi,Mu.le_refl _,?_,wE.mono (aB.le_refl _) (fun _ _ h=>by cases h),hK⟩
 have hsz:=hI.below.size
 refine ⟨hI.below.then jT,aB.le_trans hI.i0 hi,fun b o hb hx=>by rw [KG b o (by omega)];exact hI.iB b o hb hx,hrd,hI.m0,hI.nx,fun id B hB=>?_,hI.inj,hI.lt,hI.gl⟩
 have k8:=hI.live id B hB
 refine k8.mono hi (Mu.le_refl _) (fun h=>h) (fun L hL=>jT.b.block _ (k8.loc hL).2) (fun L hL ho o=>?_)
 rw [KG _ _ (k8.loc hL).2];exact ho o
end
end Go.AM
end
section
namespace Go.AM
def wR (e e':List (Nat×V)):Prop:=∀t,get t e=get t e'
def Oa (b b':ai):Prop:=∀id,aq id b=aq id b'
theorem Df {x:O} {env env':List (Nat×V)} (h:∀t∈Hv x,get t env=get t env'):x.ev env=x.ev env':=by
  cases x with
  |t n=>exact h n (by simp [Hv])
  |c v=>rfl
  |m n c8=>simp only [O.ev,h n (by simp [Hv])]
section
variable {ar:Ar} {bl bO:ai}
theorem gU : ∀ {t : Ty} {vs : List V}, (∀ v ∈ vs, ∀ id ∈ tc v, aq id bl = aq id bO) → bQ ar bl t vs = bQ ar bO t vs ∧ ∀ x u r, bQ ar bl t vs = some (x, u, r) → ∀ v ∈ r, v ∈ vs
  | .unit,vs,h=>⟨by simp [bQ],fun x u r e v hv=>by simp [bQ] at e;obtain ⟨_,_,rfl⟩:=e;exact hv⟩
  | .prod a b,vs,h=>by
    obtain ⟨h1,h2⟩:=gU (t:=a) h
    constructor
    · simp only [bQ]
      rw [<-h1]
      split
      · rename_i x u r hr
        obtain ⟨h3,_⟩:=gU (t:=b) (vs:=r) (fun v hv=>h v (h2 _ _ _ hr v hv))
        rw [h3]
      · rfl
    · intro x u r e v hv
      simp only [bQ] at e
      split at e<;>try (cases e;done)
      rename_i x' u' r' hr
      split at e<;>try (cases e;done)
      rename_i y u'' r'' hr'
      cases e
      obtain ⟨_,h4⟩:=gU (t:=b) (vs:=r') (fun v hv=>h v (h2 _ _ _ hr v hv))
      exact h2 _ _ _ hr v (h4 _ _ _ hr' v hv)
  | .bool,[],h=>⟨rfl,fun x u r e=>by cases e⟩
  | .str,[],h=>⟨rfl,fun x u r e=>by cases e⟩
  | .int _,[],h=>⟨rfl,fun x u r e=>by cases e⟩
  | .list _,[],h=>⟨rfl,fun x u r e=>by cases e⟩
  | .bU _ _ _,[],h=>⟨rfl,fun x u r e=>by cases e⟩
  | .bU d g t,c::cs,h=>by
    cases c
    case bU d' v =>
      refine ⟨by simp only [bQ],fun x u r e=>?_⟩
      simp only [bQ] at e
      repeat' split at e
      all_goals first|(cases e;done)|(cases e;exact fun v hv=>List.mem_cons_of_mem _ hv)
    all_goals
      refine ⟨rfl,fun x u r e=>?_⟩
      cases e
  | .bool,c::cs,h=>by
    cases c<;>(refine ⟨rfl,fun x u r e=>?_⟩;first|(cases e;done)|(cases e;exact fun v hv=>List.mem_cons_of_mem _ hv))
  | .str,c::cs,h=>by
    cases c<;>(refine ⟨rfl,fun x u r e=>?_⟩;first|(cases e;done)|(cases e;exact fun v hv=>List.mem_cons_of_mem _ hv))
  | .int k,c::cs,h=>by
    cases c<;>(refine ⟨rfl,fun x u r e=>?_⟩;first|(cases e;done)|(simp only [bQ] at e;split at e<;>first|(cases e;done)|(cases e;exact fun v hv=>List.mem_cons_of_mem _ hv)))
  | .list t,c::cs,h=>by
    cases c
    case sl id t' lo n =>
      have hb:=h _ (List.mem_cons_self ..) id (by simp [tc])
      refine ⟨by simp only [bQ,hb],fun x u r e=>?_⟩
      simp only [bQ] at e
      repeat' split at e
      all_goals first|(cases e;done)|(cases e;exact fun v hv=>List.mem_cons_of_mem _ hv)
    all_goals
      refine ⟨rfl,fun x u r e=>?_⟩
      first
        |(cases e;done)
        | (simp only [bQ] at e; repeat' split at e
           all_goals first|(cases e;done)|(cases e;exact fun v hv=>List.mem_cons_of_mem _ hv))
theorem ku {v:V} {cs:List V} (h:v.cells?=some cs):∀c∈cs,∀id∈tc c,id∈qh v:=by
  intro c hc id hid
  cases v<;>simp only [V.cells?] at h<;>cases h
  case agg=>simp only [qh,List.mem_flatMap];exact ⟨c,hc,hid⟩
  all_goals (simp at hc;subst hc;exact hid)
theorem wS {t : Ty} : ∀ {vs : List V}, (∀ id ∈ vs.flatMap qh, aq id bl = aq id bO) → sX ar bl t vs = sX ar bO t vs
  |[],_=>rfl
  |v::r,h=>by
    have ih:=wS (t:=t) (vs:=r) (fun id hid=>h id (by simp only [List.flatMap_cons,List.mem_append];exact .inr hid))
    simp only [sX]
    cases hc:v.cells? with
    |none=>rfl
    |some cs =>
      have:=(gU (ar:=ar) (t:=t) (vs:=cs) (fun c hc' id hid=>h id (by simp only [List.flatMap_cons,List.mem_append];exact .inl (ku hc c hc' id hid)))).1
      simp only [this,ih]
theorem mY : ∀ {t : Ty} {x : t.den} {p : List Bool} {vs : List V}, (∀ v ∈ vs, ∀ id ∈ tc v, aq id bl = aq id bO) → dz ar bl t x p vs = dz ar bO t x p vs
  |t,x,[],vs,h=>by
    have:=(gU (ar:=ar) (t:=t) h).1
    cases t<;>simp only [dz,this]
  | .prod a b,x,false::p,vs,h=>by simp only [dz,mY (t:=a) h]
  | .prod a b,x,true::p,vs,h=>by simp only [dz,mY (t:=b) h]
  | .unit,_,_::_,_,h=>by simp [dz]
  | .bool,_,_::_,_,h=>by simp [dz]
  | .str,_,_::_,_,h=>by simp [dz]
  | .int _,_,_::_,_,h=>by simp [dz]
  | .list _,_,_::_,_,h=>by simp [dz]
  | .bU _ _ _,_,_::_,_,h=>by simp [dz]
theorem qq {t : Ty} : ∀ {n : Nat} {vs : List V}, (∀ v ∈ vs, ∀ id ∈ tc v, aq id bl = aq id bO) → lY ar bl t n vs = lY ar bO t n vs
  |0,vs,h=>by cases vs<;>rfl
  |n+1,vs,h=>by
    obtain ⟨h1,h2⟩:=gU (ar:=ar) (t:=t) h
    simp only [lY]
    rw [<-h1]
    split
    · rename_i x u r hr
      rw [qq (n:=n) (vs:=r) (fun v hv=>h v (h2 _ _ _ hr v hv))]
    · rfl
theorem uL {t:Ty} {v:V} (h:∀id∈tc v,aq id bl=aq id bO):elems ar bl t v=elems ar bO t v:=by
  cases v<;>try rfl
  rename_i id t' lo n
  simp only [elems,h id (by simp [tc])]
theorem KH {e:kQ} {vs:List V} {aM:Nat} (h:∀id∈vs.flatMap qh,aq id bl=aq id bO):kV ar e vs bl aM=kV ar e vs bO aM:=by
  have one:∀{v:V} {r:List V},vs=v::r->∀id∈qh v,aq id bl=aq id bO:=fun hv id hid=>h id (by subst hv;simp [hid])
  cases e<;>simp only [kV]
  case text =>
    split
    · rename_i v;rw [uL (fun id hid=>one rfl id (by cases v<;>simp_all [qh,tc]))]
    · rfl
  case clear t =>
    split
    · rename_i id t' lo n;rw [one rfl id (by simp [qh,tc])]
    · rfl
  case E5 kt kg vt vg ok =>
    split
    · rename_i m k
      split
      · rename_i x _
        cases m<;>try rfl
        rename_i id
        simp only [jm,one rfl id (by simp [qh,tc])]
      · rfl
    · rfl
  case fM kt kg vt vg =>
    split
    · rename_i id k v
      simp only [jm,one rfl id (by simp [qh,tc])]
    · rfl
  case Sy =>
    split
    · rename_i id;rw [one rfl id (by simp [qh,tc])]
    · rfl
    · rfl
  case Sz n =>
    split
    · rename_i id _ _;rw [one rfl id (by simp [qh,tc])]
    · rfl
  case SA t n =>
    split
    · rename_i cs
      rw [qq (fun v hv id hid=>one rfl id (by simp only [qh,List.mem_flatMap];exact ⟨v,hv,hid⟩))]
    · rfl
theorem uM {env env' : List (Nat × V)} : ∀ {ps : List (Nat × Nat × O)} {cs : List V}, (∀ x ∈ ps.map (·.2.2), x.ev env = x.ev env') → uF ps env cs = uF ps env' cs
  |[],_,_=>rfl
  |(off,k,x)::r,cs,h=>by
    simp only [uF,h x (by simp)]
    cases (x.ev env').cells? with
    |none=>rfl
    |some vs =>
      simp only
      split
      · cases nP off vs cs with
        |none=>rfl
        |some cs'=>exact uM (fun y hy=>h y (by simp at hy ⊢;exact .inr hy))
      · rfl
theorem dH {env env':List (Nat×V)} {xs:List O} (h:∀x∈xs,x.ev env=x.ev env'):xs.map (·.ev env)=xs.map (·.ev env'):=List.map_congr_left h
theorem rO {env env':List (Nat×V)} {d:Int} {x:Option O} (h:∀y,x=some y->y.ev env=y.ev env'):cV env d x=cV env' d x:=by
  cases x with
  |none=>rfl
  |some y=>simp only [cV,h y rfl]
theorem KI {i:I} {env env':List (Nat×V)} {aM:Nat} (he:∀x∈i.os,x.ev env=x.ev env') (hb:∀id∈mU i env,aq id bl=aq id bO) :
    de ar i env bl aM=de ar i env' bO aM/\mU i env=mU i env':=by
  cases i
  case load g k x =>
    have hx:=he x (by simp [I.os])
    simp only [mU,hx] at hb ⊢
    refine ⟨?_,trivial⟩
    simp only [de,hx]
    generalize x.ev env'=v at hb ⊢
    cases v<;>try rfl
    all_goals (simp only [hb _ (by simp only [tc];exact List.mem_singleton_self _)])
  case store k a x =>
    have ha:=he a (by simp [I.os])
    have hx:=he x (by simp [I.os])
    simp only [mU,hx,ha,List.mem_append] at hb ⊢
    refine ⟨?_,trivial⟩
    simp only [de,hx,ha]
    generalize a.ev env'=v at hb ⊢
    generalize x.ev env'=y at hb ⊢
    cases hc:y.cells? with
    |none=>rfl
    |some vs =>
      have hsp:∀(t:Ty) (z:t.den) p,dz ar bl t z p vs=dz ar bO t z p vs:=fun t z p=>mY (fun v hv id hid=>hb id (.inr (ku hc v hv id hid)))
      cases v<;>try rfl
      case ptr id o=>simp only [hb id (.inl (by simp [tc]))]
      case ep id t i p=>simp only [hb id (.inl (by simp [tc])),hsp]
      case sp id o l=>simp only [hb id (.inl (by simp [tc]))]
      case pa id t n=>simp only [hb id (.inl (by simp [tc])),fun t n=>qq (ar:=ar) (t:=t) (n:=n) (vs:=vs) (fun v hv id hid=>hb id (.inr (ku hc v hv id hid)))]
  case bI t xs =>
    have hx:=dH (xs:=xs) (fun x hx=>he x (by simpa [I.os] using hx))
    simp only [mU,hx] at hb ⊢
    exact ⟨by simp only [de,hx,wS hb],trivial⟩
  case append eZ x y =>
    have hx:=he x (by simp [I.os])
    have hy:=he y (by simp [I.os])
    simp only [mU,hx,hy,List.mem_append] at hb ⊢
    refine ⟨?_,trivial⟩
    simp only [de,hx,hy]
    generalize x.ev env'=v at hb ⊢
    generalize y.ev env'=z at hb ⊢
    have hel:∀t,elems ar bl t z=elems ar bO t z:=fun t=>uL (fun id hid=>hb id (.inr hid))
    cases v<;>try rfl
    case kO t xs=>simp only [hel]
    case bA=>simp only [hel]
    case sl id t lo n=>simp only [hel,hb id (.inl (by simp [tc]))]
  case ex e xs =>
    have hx:=dH (xs:=xs) (fun x hx=>he x (by simpa [I.os] using hx))
    simp only [mU,hx] at hb ⊢
    refine ⟨?_,trivial⟩
    simp only [de,hx]
    cases e<;>first|exact KH hb|rfl
  case build z ps =>
    exact ⟨by simp only [de,uM (ps:=ps) (fun x hx=>he x (by simpa [I.os] using hx))],rfl⟩
  case AL f a b =>
    exact ⟨by simp only [de,dH (xs:=a) (fun x hx=>he x (by simp [I.os,hx])),dH (xs:=b) (fun x hx=>he x (by simp [I.os,hx]))],rfl⟩
  case lF mx x ys =>
    exact ⟨by simp only [de,he x (by simp [I.os]),dH (xs:=ys) (fun y hy=>he y (by simp [I.os,hy]))],rfl⟩
  case slice eZ x lo hi mx =>
    refine ⟨?_,rfl⟩
    have hx:=he x (by simp [I.os])
    have h1:∀d,cV env d lo=cV env' d lo:=fun d=>rO fun y hy=>he y (by simp [I.os,hy])
    have h2:∀d,cV env d hi=cV env' d hi:=fun d=>rO fun y hy=>he y (by simp [I.os,hy])
    cases mx with
    |none=>simp only [de,hx,h1,h2]
    |some m =>
      have hm:=he m (by simp [I.os])
      cases hi with
      |none=>simp only [de]
      |some h=>simp only [de,hx,h1,hm,he h (by simp [I.os])]
  case bin op x y=>exact ⟨by simp only [de,he x (by simp [I.os]),he y (by simp [I.os])],rfl⟩
  case SB n x y=>exact ⟨by simp only [de,he x (by simp [I.os]),he y (by simp [I.os])],rfl⟩
  case eqs n ks x y=>exact ⟨by simp only [de,he x (by simp [I.os]),he y (by simp [I.os])],rfl⟩
  case idx eZ x y=>exact ⟨by simp only [de,he x (by simp [I.os]),he y (by simp [I.os])],rfl⟩
  case yO n eZ x y=>exact ⟨by simp only [de,he x (by simp [I.os]),he y (by simp [I.os])],rfl⟩
  case pick c x y=>exact ⟨by simp only [de,he x (by simp [I.os]),he y (by simp [I.os]),he c (by simp [I.os])],rfl⟩
  case alloc=>exact ⟨rfl,rfl⟩
  case yP=>exact ⟨rfl,rfl⟩
  case mv x=>exact ⟨by simp only [de,he x (by simp [I.os])],rfl⟩
  case box x=>exact ⟨by simp only [de,he x (by simp [I.os])],rfl⟩
  case neg x=>exact ⟨by simp only [de,he x (by simp [I.os])],rfl⟩
  case not x=>exact ⟨by simp only [de,he x (by simp [I.os])],rfl⟩
  case conv k x=>exact ⟨by simp only [de,he x (by simp [I.os])],rfl⟩
  case qc a b x=>exact ⟨by simp only [de,he x (by simp [I.os])],rfl⟩
  case field a b c x=>exact ⟨by simp only [de,he x (by simp [I.os])],rfl⟩
  case ext k x=>exact ⟨by simp only [de,he x (by simp [I.os])],rfl⟩
  case len x=>exact ⟨by simp only [de,he x (by simp [I.os])],rfl⟩
  case lens x=>exact ⟨by simp only [de,he x (by simp [I.os])],rfl⟩
  case je t n=>exact ⟨by simp only [de,he n (by simp [I.os])],rfl⟩
theorem wT : ∀ {t : Ty} {vs : List V} {q : List Bool} {v : V} {vs' : List V}, lG t vs = some (q, v, vs') → ∀ x ∈ vs', x ∈ vs ∨ x = .bA
  | .list s,[],q,v,vs',h=>by simp [lG] at h
  | .list s,y::r,q,v,vs',h=>by
    cases y<;>simp [lG] at h
    obtain ⟨rfl,rfl,rfl⟩:=h
    intro x hx
    rcases List.mem_cons.1 hx with rfl|hx
    · exact .inr rfl
    · exact .inl (List.mem_cons_of_mem _ hx)
  | .prod a b,vs,q,v,vs',h=>by
    simp only [lG] at h
    split at h
    · rename_i h1;cases h;exact wT h1
    · split at h <;> try (cases h; done)
      rename_i h1
      cases h
      intro x hx
      rcases List.mem_append.1 hx with hx|hx
      · exact .inl (List.mem_of_mem_take hx)
      · exact (wT h1 x hx).imp List.mem_of_mem_drop id
  | .unit,vs,q,v,vs',h=>by simp [lG] at h
  | .bool,vs,q,v,vs',h=>by simp [lG] at h
  | .str,vs,q,v,vs',h=>by simp [lG] at h
  | .int k,vs,q,v,vs',h=>by simp [lG] at h
  | .bU _ _ _,vs,q,v,vs',h=>by simp [lG] at h
theorem KJ {i:I} {env env':List (Nat×V)} {aM:Nat} (he:∀x∈i.os,x.ev env=x.ev env') (hb:∀id∈mU i env,aq id bl=aq id bO):vk ar i env bl aM=vk ar i env' bO aM:=by
  cases i<;>try rfl
  case bI t xs =>
    cases xs with
    |nil=>rfl
    |cons x r =>
      cases r with
      |cons _ _=>rfl
      |nil =>
        have hx:=he x (by simp [I.os])
        simp only [mU,List.map_cons,List.map_nil,hx,List.flatMap_cons,List.flatMap_nil,List.append_nil] at hb
        simp only [vk,hx]
        generalize x.ev env'=y at hb ⊢
        cases hc:y.cells? with
        |none=>rfl
        |some vs =>
          simp only
          rw [(gU (ar:=ar) (bl:=bl) (bO:=bO) (t:=t) (vs:=vs) (fun v hv id hid=>hb id (ku hc v hv id hid))).1]
  case store k a x =>
    have ha:=he a (by simp [I.os])
    have hx:=he x (by simp [I.os])
    simp only [mU,hx,ha,List.mem_append] at hb
    simp only [vk,hx,ha]
    generalize a.ev env'=v at hb ⊢
    generalize x.ev env'=y at hb ⊢
    cases hc:y.cells? with
    |none=>rfl
    |some vs =>
      cases v<;>try rfl
      case ep id t i p =>
        simp only [hb id (.inl (by simp [tc]))]
        split<;>try rfl
        split<;>try rfl
        split<;>try rfl
        split<;>try rfl
        rename_i t1 hat
        split<;>try rfl
        rename_i q v vs' hop
        rw [mY (bl:=bl) (bO:=bO) (fun v hv id hid=>?_)]
        rcases wT hop v hv with h|rfl
        · exact hb id (.inr (ku hc v h id hid))
        · simp [tc] at hid
theorem tB {n:Nat} (hg:∀v,(∀id∈gC bl n v,aq id bl=aq id bO)->fin ar bl n v=fin ar bO n v/\gC bl n v=gC bO n v) :
    ∀{vs:List V},(∀id∈vs.flatMap (gC bl n),aq id bl=aq id bO)->cL (fin ar bl n) vs=cL (fin ar bO n) vs/\vs.flatMap (gC bl n)=vs.flatMap (gC bO n)
  |[],_=>⟨rfl,rfl⟩
  |v::r,h=>by
    simp only [List.flatMap_cons,List.mem_append] at h
    obtain ⟨h1,h2⟩:=hg v (fun id hid=>h id (.inl hid))
    obtain ⟨h3,h4⟩:=tB hg (vs:=r) (fun id hid=>h id (.inr hid))
    exact ⟨by simp only [cL,h1,h3],by simp only [List.flatMap_cons,h2,h4]⟩
theorem tC : ∀ {n : Nat} {v : V}, (∀ id ∈ gC bl n v, aq id bl = aq id bO) → fin ar bl n v = fin ar bO n v ∧ gC bl n v = gC bO n v
  |0,v,_=>⟨rfl,rfl⟩
  |n+1,v,h=>by
    have ih:=fun vs h=>tB (ar:=ar) (bl:=bl) (bO:=bO) (n:=n) (fun v h=>tC h) (vs:=vs) h
    cases v<;>simp only [gC] at h<;>try (exact ⟨rfl,rfl⟩)
    case sl id t lo m=>exact ⟨by simp only [fin,h id (by simp)],rfl⟩
    case pa id t m=>exact ⟨by simp only [fin,h id (by simp)],rfl⟩
    case ptr id off =>
      have hb:=h id (by simp)
      simp only [fin,gC,<-hb]
      cases hq:aq id bl with
      |none=>exact ⟨rfl,rfl⟩
      |some B =>
        rw [hq] at h
        cases B<;>try (exact ⟨rfl,rfl⟩;done)
        rename_i cs fz
        obtain ⟨h1,h2⟩:=ih cs (fun id hid=>h id (List.mem_cons_of_mem _ hid))
        exact ⟨by simp only [h1],by simp only [h2]⟩
    case fn f a b =>
      simp only [List.mem_append] at h
      obtain ⟨h1,h2⟩:=ih a (fun id hid=>h id (.inl hid))
      obtain ⟨h3,h4⟩:=ih b (fun id hid=>h id (.inr hid))
      exact ⟨by simp only [fin,h1,h3],by simp only [gC,h2,h4]⟩
    case agg cs =>
      obtain ⟨h1,h2⟩:=ih cs h
      exact ⟨by simp only [fin,h1],by simp only [gC,h2]⟩
    case cG cs =>
      obtain ⟨h1,h2⟩:=ih cs h
      exact ⟨by simp only [fin,h1],by simp only [gC,h2]⟩
    case bU t v =>
      obtain ⟨h1,h2⟩:=tC (n:=n) (v:=v) h
      exact ⟨by simp only [fin,h1],by simp only [gC,h2]⟩
end
end Go.AM
end
section
namespace Go.AM
inductive Ac where
 |skip
 |op (v:V) (u:dU)
 |call (v:V) (u:dU)
 |Si (v:V) (u:dU)
structure TR where
 k:Nat
 it:dD
 ac:Ac
 rd:List Nat
def Ac.val : Ac → V
 | .skip=>.cG []
 | .op v _=>v
 | .call v _=>v
 | .Si v _=>v
def Ac.M9 : Ac → dU
 | .op _ u=>u
 | .call _ u=>u
 | .Si _ u=>u
 |_=>[]
def TR.wr (t:TR):List Nat:=t.ac.M9.map (·.1)
def TR.dr (t:TR):DR:=⟨t.k,t.rd,t.wr⟩
def vOk (v0 v:V):Prop:=v=v0\/∃c,v0 = .bool c/\v = .tf c
def En (ar:Ar) (b:Nat) (t:TR) (env:List (Nat×V)) (bl:ai):Prop :=
 match t.ac,t.it with
 | .skip,it=>CB it.SG env=some false/\t.rd=[]
 | .op v u,.op _ g i=>CB g env=some true/\∃ob v0,(de ar i env bl (b+t.k)=some (ob,v0,u)\/vk ar i env bl (b+t.k)=some (ob,v0,u))/\qm ob/\vOk v0 v/\mU i env=t.rd
 | .call v u,.call _ g f a tys=>CB g env=some true/\∃fid fs cs vs' v0,f.ev env = .fn fid fs cs/\cL (fin ar bl 8) (fs++cw tys (a.map (·.ev env))++cs)=some vs'/\ar.dy fid vs' v0 /\
   Hz (A2 v0||(fs++cw tys (a.map (·.ev env))++cs).all (cJ 8)) (jn bl (fs++cw tys (a.map (·.ev env))++cs)) bl=some u/\vOk v0 v/\jn bl (fs++cw tys (a.map (·.ev env))++cs)=t.rd
 | .Si v u,.call _ g f a tys=>CB g env=some true/\∃fid fs cs v0,f.ev env = .fn fid fs cs/\(∀bO,(∀id∈t.rd,aq id bO=aq id bl)->ar.CK fid (fs++cw tys (a.map (·.ev env))++cs) bO (b+t.k) v0 u)/\vOk v0 v
 |_,_=>False
def TR.Dg (t:TR) (env:List (Nat×V)):List (Nat×V):=put t.it.dst t.ac.val env
def TR.pN (t:TR) (bl:ai):ai:=bV t.ac.M9 bl
def kA (ar : Ar) (b : Nat) : List TR → List (Nat × V) → ai → (List (Nat × V) → ai → Prop) → Prop
 |[],env,bl,F=>F env bl
 |t::ts,env,bl,F=>En ar b t env bl/\kA ar b ts (t.Dg env) (t.pN bl) F
def wU (F:List (Nat×V)->ai->Prop):Prop:=∀env env' bl bO,wR env env'->Oa bl bO->F env bl->F env' bO
theorem wR.symm {e e':List (Nat×V)} (h:wR e e'):wR e' e:=fun t=>(h t).symm
theorem Oa.symm {b b':ai} (h:Oa b b'):Oa b' b:=fun t=>(h t).symm
theorem wR.trans {e e' e'':List (Nat×V)} (h:wR e e') (h':wR e' e''):wR e e'':=fun t=>(h t).trans (h' t)
theorem rP {d:Option Nat} {v:V} {env:List (Nat×V)} (t:Nat):get t (put d v env)=if d=some t then v else get t env:=by
 cases d with
 |none=>simp [put]
 |some s=>simp only [put,l9,Option.some.injEq]
theorem wR.put {d:Option Nat} {v:V} {e e':List (Nat×V)} (h:wR e e'):wR (put d v e) (put d v e'):=fun t=>by rw [rP,rP,h t]
theorem gP : ∀ {u : dU} {b b' : ai} {id : Nat}, aq id b = aq id b' → aq id (bV u b) = aq id (bV u b')
 |[],_,_,_,h=>h
 |(s,none)::r,b,b',id,h=>gP (u:=r) (by rw [bB,bB,h])
 |(s,some B)::r,b,b',id,h=>gP (u:=r) (by rw [aY,aY,bB,bB,h])
theorem cH : ∀ {u : dU} {b : ai} {id : Nat}, id ∉ u.map (·.1) → aq id (bV u b) = aq id b
 |[],_,_,_=>rfl
 |(s,none)::r,b,id,h=>by
  simp at h
  simp only [bV]
  rw [cH (u:=r) (by simpa using h.2),bB,if_neg h.1]
 |(s,some B)::r,b,id,h=>by
  simp at h
  simp only [bV]
  rw [cH (u:=r) (by simpa using h.2),aY,if_neg (fun e=>h.1 e.symm),bB,if_neg h.1]
theorem pT : ∀ {u : dU} {b b' : ai} {id : Nat}, id ∈ u.map (·.1) → aq id (bV u b) = aq id (bV u b')
 |[],_,_,_,h=>by simp at h
 |(s,o)::r,b,b',id,h=>by
  by_cases hr:id∈r.map (·.1)
  ·cases o<;>exact pT (u:=r) hr
  ·have e : id = s := by simp at h hr; rcases h with h | ⟨x, h⟩; exact h; exact absurd h (hr x)
   subst e
   cases o with
   |none=>simp only [bV];rw [cH hr,cH hr,bB,bB];simp
   |some B=>simp only [bV];rw [cH hr,cH hr,aY,aY];simp
theorem KK {g:Option (Nat×Bool)} {env env':List (Nat×V)} (h:∀s b,g=some (s,b)->get s env=get s env'):CB g env=CB g env':=by
 cases g with
 |none=>rfl
 |some p=>obtain ⟨s,b⟩:=p;simp only [CB,h s b rfl]
theorem HQ {it:dD} {env env':List (Nat×V)} (h:∀t∈it.uses,get t env=get t env'):(∀x∈it.os,x.ev env=x.ev env')/\CB it.SG env=CB it.SG env':=by
 refine ⟨fun x hx=>Df fun t ht=>h t ?_,KK fun s b e=>h s ?_⟩
 ·simp only [dD.uses, List.mem_append, List.mem_flatMap]
  exact .inl ⟨x,hx,ht⟩
 ·simp only [dD.uses, e, List.mem_append]
  exact .inr (List.mem_singleton_self _)
theorem wV : ∀ {ids : List Nat} {bl bO : ai}, (∀ id ∈ ids, aq id bl = aq id bO) → vX ids bl = vX ids bO
 |[],_,_,_=>rfl
 |id::r,bl,bO,h=>by
  have key:∀B,vX r ((id,B)::cB id bl)=vX r ((id,B)::cB id bO):=fun B=>wV fun i hi=>by
   by_cases e:id=i
   ·subst e;rw [aY,aY];simp
   ·rw [aY, aY, if_neg e, if_neg e, bB, bB, if_neg (fun h => e h.symm), if_neg (fun h => e h.symm)]
    exact h i (List.mem_cons_of_mem _ hi)
  simp only [vX,h id (List.mem_cons_self ..),key]
theorem Dh {b:Bool} {ids:List Nat} {bl bO:ai} (h:∀id∈ids,aq id bl=aq id bO):Hz b ids bl=Hz b ids bO:=by
 cases b with
 |true=>rfl
 |false=>exact wV h
theorem mg {ar:Ar} {b:Nat} {t:TR} {env env':List (Nat×V)} {bl bO:ai} (he:∀s∈t.it.uses,get s env=get s env') (hb:∀id∈t.rd,aq id bl=aq id bO) (h:En ar b t env bl):En ar b t env' bO:=by
 obtain ⟨k,it,ac,rd⟩:=t
 obtain ⟨h1,h2⟩:=HQ he
 unfold En at h ⊢
 cases ac with
 |skip=>exact ⟨by rw [<-h2];exact h.1,h.2⟩
 |op v u =>
  cases it with
  |call=>exact h.elim
  |op d g i =>
   simp only [dD.SG] at h2
   obtain ⟨hg,ob,v0,aj,cX,hv,hr⟩:=h
   have:=KI (ar:=ar) (i:=i) (aM:=b+k) (fun x hx=>h1 x hx) (fun id hid=>hb id (by rw [hr] at hid;exact hid))
   have ac2:=KJ (ar:=ar) (i:=i) (aM:=b+k) (fun x hx=>h1 x hx) (fun id hid=>hb id (by rw [hr] at hid;exact hid))
   exact ⟨by rw [<-h2];exact hg,ob,v0,by rw [<-this.1,<-ac2];exact aj,cX,hv,by rw [<-this.2];exact hr⟩
 |call v u =>
  cases it with
  |op=>exact h.elim
  |call d g f a tys =>
   simp only [dD.SG] at h2
   obtain ⟨hg,fid,fs,cs,vs',v0,hf,hm,hp,hs,hv,hr⟩:=h
   have ha:a.map (·.ev env)=a.map (·.ev env'):=dH fun x hx=>h1 x (by simp [dD.os,hx])
   have nI:=h1 f (by simp [dD.os])
   simp only [ha] at hm hs hr
   obtain ⟨q1,q2⟩:=tB (ar:=ar) (bl:=bl) (bO:=bO) (n:=8) (fun v h=>tC h) (vs:=fs++cw tys (a.map (·.ev env'))++cs) (fun id hid=>hb id (by rw [<-hr];exact hid))
   exact ⟨by rw [<-h2];exact hg,fid,fs,cs,vs',v0,by rw [<-nI];exact hf,by rw [<-q1];exact hm,hp,by rw [show jn bO (fs++cw tys (a.map (·.ev env'))++cs)=jn bl (fs++cw tys (a.map (·.ev env'))++cs) from q2.symm,<-Dh (bl:=bl) (fun id hid=>hb id (by rw [<-hr];exact hid))];exact hs,hv,by rw [<-hr];exact q2.symm⟩
 |Si v u =>
  cases it with
  |op=>exact h.elim
  |call d g f a tys =>
   simp only [dD.SG] at h2
   obtain ⟨hg,fid,fs,cs,v0,hf,hp,hv⟩:=h
   have ha:a.map (·.ev env)=a.map (·.ev env'):=dH fun x hx=>h1 x (by simp [dD.os,hx])
   have nI:=h1 f (by simp [dD.os])
   rw [ha] at hp
   exact ⟨by rw [<-h2];exact hg,fid,fs,cs,v0,by rw [<-nI];exact hf,fun CG h2=>hp CG fun id hid=>(h2 id hid).trans (hb id hid).symm,hv⟩
theorem qu {ar : Ar} {b : Nat} {F : List (Nat × V) → ai → Prop} (hF : wU F) : ∀ {ts : List TR} {env env' : List (Nat × V)} {bl bO : ai}, wR env env' → Oa bl bO → kA ar b ts env bl F → kA ar b ts env' bO F
 |[],_,_,_,_,he,hb,h=>hF _ _ _ _ he hb h
 |t::ts,_,_,_,_,he,hb,h=>⟨mg (fun s _=>he s) (fun id _=>hb id) h.1,qu hF (wR.put he) (fun id=>gP (hb id)) h.2⟩
structure Ob (a b:TR):Prop where
 slots:iP a.it b.it=true
 wr:∀id∈a.wr,id∉b.rd/\id∉b.wr
 rw:∀id∈b.wr,id∉a.rd
theorem mZ {d:Option Nat} {l:List Nat} {v:V} {env:List (Nat×V)} (h:mT d l=true):∀t∈l,get t (put d v env)=get t env:=fun t ht=>by
 rw [rP,if_neg]
 rintro rfl
 simp [mT] at h
 exact h ht
theorem pull {ar:Ar} {b:Nat} {F:List (Nat×V)->ai->Prop} (hF:wU F) {t:TR} {L2:List TR}:∀{L1:List TR} {env:List (Nat×V)} {bl:ai},(∀a∈L1,Ob a t)->kA ar b (L1++t::L2) env bl F ->
  En ar b t env bl/\kA ar b (L1++L2) (t.Dg env) (t.pN bl) F
 |[],_,_,_,h=>h
 |a::L1,env,bl,hA,h=>by
  obtain ⟨h1,h2⟩:=h
  obtain ⟨h3,h4⟩:=pull hF (fun x hx=>hA x (List.mem_cons_of_mem _ hx)) h2
  have hap:=hA a (List.mem_cons_self ..)
  have hs:=hap.slots
  simp only [iP,Bool.and_eq_true] at hs
  obtain ⟨⟨s1,s2⟩,s3⟩:=hs
  refine ⟨mg (fun s hs=>mZ s1 s hs) (fun id hid=>cH fun hw=>(hap.wr id hw).1 hid) h3,?_,?_⟩
  ·exact mg (fun s hs=>(mZ s2 s hs).symm) (fun id hid=>(cH fun hw=>hap.rw id hw hid).symm) h1
  ·refine qu hF (fun s => ?_) (fun id => ?_) h4
   ·simp only [TR.Dg, rP]
    by_cases q1:t.it.dst=some s
    ·by_cases q2 : a.it.dst = some s
     ·rw [q2] at s3;simp [q1] at s3
     ·simp [q1,q2]
    ·simp [q1]
   ·simp only [TR.pN]
    by_cases q1:id∈t.ac.M9.map (·.1)
    ·have q2 : id ∉ a.ac.M9.map (·.1) := fun hw => (hap.wr id hw).2 q1
     rw [pT (b':=bl) q1,cH q2]
    ·rw [cH q1]
     exact gP (cH q1).symm
def uN (t:TR):Option DR:=match t.rd,t.wr with
 |[],[]=>none
 |_,_=>some t.dr
theorem Bg (k:Nat) (it:dD) (ac:Ac) (rd:List Nat) (bP:List DR):qi k rd (ac.M9.map (·.1)) bP=bP++([(⟨k,it,ac,rd⟩:TR)].filterMap uN):=by
 cases rd with
 |cons x r=>rfl
 |nil =>
  cases hu:ac.M9.map (·.1) with
  |nil=>simp [qi,uN,TR.wr,hu]
  |cons x r=>simp [qi,uN,TR.wr,TR.dr,hu]
theorem wW {gs:List Nat} {d:Option Nat} {v:V} {env:List (Nat×V)} {K:List (Nat×V)->Prop} (h:th gs d v env K):∃v',vOk v v'/\K (put d v' env):=by
 unfold th at h
 cases d with
 |none=>exact ⟨v,.inl rfl,h⟩
 |some t =>
  simp only at h
  split at h
  ·exact ⟨v,.inl rfl,h⟩
  ·split at h
   ·rename_i c
    cases c with
    |true=>exact ⟨.tf true,.inr ⟨_,rfl,rfl⟩,h.1 rfl⟩
    |false=>exact ⟨.tf false,.inr ⟨_,rfl,rfl⟩,h.2 rfl⟩
   ·exact ⟨v,.inl rfl,h⟩
theorem mh {ar:Ar} {gs:List Nat} {b:Nat}:∀{is:List dD} {k:Nat} {env:List (Nat×V)} {bl:ai} {bP:List DR} {K:List (Nat×V)->ai->List DR->Prop},lH ar gs b is k env bl bP K ->
  ∃ts:List TR,ts.map (·.it)=is/\ts.map (·.k)=List.range' k is.length/\kA ar b ts env bl fun env' bO=>K env' bO (bP++ts.filterMap uN)
 |[],k,env,bl,bP,K,h=>⟨[],rfl,rfl,by simpa [kA,lH] using h⟩
 | .op d g i::r,k,env,bl,bP,K,h=>by
  simp only [lH] at h
  split at h
  ·rename_i hg
   have h':∃ob v u,(de ar i env bl (b+k)=some (ob,v,u)\/vk ar i env bl (b+k)=some (ob,v,u))/\qf ob/\th gs d v env fun env'=>lH ar gs b r (k+1) env' (bV u bl) (qi k (mU i env) (u.map (·.1)) bP) K:=by
    rcases h with h|h
    ·obtain ⟨ob,v,u,h1,h2,h3⟩:=vZ h;exact ⟨ob,v,u,.inl h1,h2,h3⟩
    ·obtain ⟨ob,v,u,h1,h2,h3⟩:=vZ h;exact ⟨ob,v,u,.inr h1,h2,h3⟩
   clear h
   obtain ⟨ob,v,u,aj,cX,h⟩:=h'
   obtain ⟨v',Db,h⟩:=wW h
   obtain ⟨ts,h1,h2,h3⟩:=mh h
   refine ⟨⟨k,.op d g i,.op v' u,mU i env⟩::ts,by simp [h1],by simp [h2,List.range'_succ],⟨hg,ob,v,aj,wH cX,Db,rfl⟩,?_⟩
   rw [show u.map (·.1)=(Ac.op v' u).M9.map (·.1) from rfl,Bg k (.op d g i) (.op v' u)] at h3
   rw [<-List.singleton_append,List.filterMap_append,<-List.append_assoc]
   exact h3
  ·rename_i hg
   obtain ⟨ts,h1,h2,h3⟩:=mh h
   exact ⟨⟨k,.op d g i,.skip,[]⟩::ts,by simp [h1],by simp [h2,List.range'_succ],⟨hg,rfl⟩,h3⟩
  ·exact h.elim
 | .call d g f a tys::r,k,env,bl,bP,K,h=>by
  simp only [lH] at h
  split at h
  ·rename_i hg
   split at h
   ·rename_i f' fs cs hf
    rcases h with h|⟨l8,x,u,hp,h⟩
    ·split at h
     ·rename_i vs' hm
      obtain ⟨x,u,hp,hs,h⟩:=h
      obtain ⟨v',Db,h⟩:=wW h
      obtain ⟨ts,h1,h2,h3⟩:=mh h
      refine ⟨⟨k,.call d g f a tys,.call v' u,jn bl (fs++cw tys (a.map (·.ev env))++cs)⟩::ts,by simp [h1],by simp [h2,List.range'_succ],⟨hg,f',fs,cs,vs',x,hf,hm,hp,hs,Db,rfl⟩,?_⟩
      rw [show u.map (·.1)=(Ac.call v' u).M9.map (·.1) from rfl,Bg k (.call d g f a tys) (.call v' u)] at h3
      rw [<-List.singleton_append,List.filterMap_append,<-List.append_assoc]
      exact h3
     ·exact h.elim
    ·obtain ⟨v', Db, h⟩ := wW h
     obtain ⟨ts,h1,h2,h3⟩:=mh h
     refine ⟨⟨k,.call d g f a tys,.Si v' u,l8⟩::ts,by simp [h1],by simp [h2,List.range'_succ],⟨hg,f',fs,cs,x,hf,hp,Db⟩,?_⟩
     rw [show u.map (·.1)=(Ac.Si v' u).M9.map (·.1) from rfl,Bg k (.call d g f a tys) (.Si v' u)] at h3
     rw [<-List.singleton_append,List.filterMap_append,<-List.append_assoc]
     exact h3
   ·exact h.elim
  ·rename_i hg
   obtain ⟨ts,h1,h2,h3⟩:=mh h
   exact ⟨⟨k,.call d g f a tys,.skip,[]⟩::ts,by simp [h1],by simp [h2,List.range'_succ],⟨hg,rfl⟩,h3⟩
  ·exact h.elim
theorem mj {x : Nat} : ∀ {l : List Nat}, tg x l = true ↔ x ∈ l
 |[]=>by simp [tg]
 |y::r=>by
  have ih:=mj (x:=x) (l:=r)
  simp only [tg,List.mem_cons]
  split
  ·rename_i h;have:=Nat.eq_of_beq_eq_true h;simp [this]
  ·rename_i h; have : x ≠ y := fun e => by subst e; rw [Nat.beq_refl] at h; cases h
   rw [ih];simp [this]
theorem o4 {l' : List Nat} : ∀ {l : List Nat}, zz l l' = true → ∀ x ∈ l, x ∉ l'
 |[],_=>by simp
 |y::r,h=>by
  simp only [zz] at h
  split at h
  ·cases h
  ·rename_i hm
   intro x hx
   rcases List.mem_cons.1 hx with rfl|hx
   ·intro hx';rw [mj.2 hx'] at hm;cases hm
   ·exact o4 h x hx
def DrP (cU:List (List Nat)) (a b:TR):Prop:=a.k∈cU.getD b.k []\/((∀id∈a.wr,id∉b.rd/\id∉b.wr)/\∀id∈b.wr,id∉a.rd)
theorem Oc {cU:List (List Nat)} {a b:TR} (h:AZ cU a.dr b.dr=true):DrP cU a b:=by
 unfold AZ at h
 split at h
 ·rename_i hm;exact .inl (mj.1 hm)
 ·split at h <;> try (cases h; done)
  rename_i h1
  split at h<;>try (cases h;done)
  rename_i h2
  exact .inr ⟨fun id hid=>⟨o4 h1 id hid,o4 h2 id hid⟩,fun id hid hr=>o4 h id hr hid⟩
theorem zL {cU : List (List Nat)} {a : DR} : ∀ {l : List DR}, Hx cU a l = true → ∀ b ∈ l, AZ cU a b = true
 |[],_=>by simp
 |c::r,h=>by
  simp only [Hx] at h
  split at h
  ·rename_i hc
   intro b hb
   rcases List.mem_cons.1 hb with rfl|hb
   ·exact hc
   ·exact zL h b hb
  ·cases h
theorem uO (t:TR):(t.rd=[]/\t.wr=[]/\uN t=none)\/uN t=some t.dr:=by
 unfold uN
 split
 ·rename_i h1 h2;exact .inl ⟨h1,h2,rfl⟩
 ·exact .inr rfl
theorem qw {cU : List (List Nat)} : ∀ {ts : List TR}, NF cU (ts.filterMap uN) = true → ts.Pairwise (DrP cU)
 |[],_=>.nil
 |t::ts,h=>by
  rcases uO t with ⟨h1,h2,h3⟩|h3
  ·simp only [List.filterMap_cons, h3] at h
   exact .cons (fun b _=>.inr ⟨fun id hid=>by rw [h2] at hid;simp at hid,fun id _=>by rw [h1];simp⟩) (qw h)
  ·simp only [List.filterMap_cons, h3, NF] at h
   split at h<;>try (cases h;done)
   rename_i ho
   refine .cons (fun b hb=>?_) (qw h)
   rcases uO b with ⟨q1,q2,_⟩|q3
   ·exact .inr ⟨fun id _=>by rw [q1,q2];simp,fun id hid=>by rw [q2] at hid;simp at hid⟩
   ·exact Oc (zL ho _ (List.mem_filterMap.2 ⟨b,hb,q3⟩))
section
variable {c1 : Nat → List V → aO → (V → aO → Prop) → Prop} {c2 : Nat → List V → V → Prop} {c3 : C → St → (Ex → St → Prop) → Prop}
 {c4:Nat->List V->aO->(V->aO->Prop)->Prop} {c5:O->List Nat->C->C->St->(Ex->St->Prop)->Prop} {c6:C->St->(Ex->St->Prop)->Prop} {c7:GC} {bl:ai}
theorem iT {g h : V → Option V} (e : ∀ v, g v = h v) : ∀ vs, cL g vs = cL h vs
 |[]=>rfl
 |v::r=>by simp only [cL,e v,iT e r]
theorem od : ∀ {n : Nat} {v : V}, fin (bM c1 c2 c3 c4 c5 c6 c7) bl n v = fin bW bl n v
 |0,v=>rfl
 |n+1,v=>by
  have:=iT (fun v=>od (n:=n) (v:=v))
  cases v<;>first|rfl|(simp only [fin,this];done)|(simp only [fin,od];done)|(simp only [fin];rfl)
end
section
variable {P:Program} {N:Nat} {out:Option Nat} {base:Nat}
def uP : List Nat → ai → Option ai
 |[],bl=>some bl
 |id::r,bl=>match aq id bl with
  |some (.arr t xs _)=>uP r ((id,.arr t xs true)::cB id bl)
  |some (.cells cs _)=>uP r ((id,.cells cs true)::cB id bl)
  |_=>none
def yW (ι : aB) (μ : Mu) (id : Nat) : Option jE → Prop
 |some (.arr t xs _)=>iM ι μ id t xs
 |some (.cells cs _)=>∃L vs,μ id=some L/\Reads ι L.b L.ba vs/\aR ι μ cs vs/\∀v∈vs,v.oneCell'=true
 |_=>True
theorem yW.mono {ι ι':aB} {μ:Mu} {id:Nat} {o:Option jE} (h:yW ι μ id o) (hi:ι.le ι'):yW ι' μ id o:=by
 unfold yW at h ⊢
 split at h
 ·exact iM.mono hi h
 ·obtain ⟨L, vs, h1, h2, h3, h4⟩ := h
  exact ⟨L,vs,h1,h2.mono hi,h3.mono hi (Mu.le_refl _),h4⟩
 ·trivial
theorem Inv.S6 {Y:Ctx} {ι:aB} {μ:Mu} {H:aO} {w:World} (h:Inv P Y ι μ H w) {id:Nat} {cs:List V} {fz:Bool} (hb:aq id H.bl=some (.cells cs fz)) :
  ∃ι',ι.le ι'/\Inv P Y ι' μ ⟨H.next,(id,.cells cs true)::cB id H.bl⟩ w/\yW ι' μ id (some (.cells cs fz)):=by
 obtain ⟨L,vs,hM,hR⟩:=h.live id _ hb
 cases fz with
 |true=>exact ⟨ι,aB.le_refl _,h.same hb ⟨L,vs,hM,hR⟩,L,vs,hM.mu,hM.CC rfl,hR,hM.one⟩
 |false =>
  have hfree:=hM.qk rfl
  have hle:=aB.Fb (vs:=vs) hfree
  have fU:aR (ι.add L vs) μ cs vs:=hR.mono hle (Mu.le_refl _)
  refine ⟨ι.add L vs,hle,?_,L,vs,hM.mu,Reads.add,fU,hM.one⟩
  refine ⟨h.below,aB.le_trans h.i0 hle,fun b o hb' hx=>?_,fun b o x hx=>?_,h.m0,h.nx,fun i B hB=>?_,?_,?_,h.gl⟩
  ·unfold aB.add;rw [if_neg (fun e=>Ctx.mV hM.old hb' hx e)];exact h.iB b o hb' hx
  ·unfold aB.add at hx
   split at hx
   ·rename_i e; subst e
    split at hx
    ·rename_i ho
     obtain ⟨c,e,h1,h2,h3⟩:=hM.row
     have:=h3 _ _ hx
     rw [show L.ba+(o - L.ba)=o by omega] at this
     simp [World.cell?,h1,this]
    ·cases hx
   ·exact h.rd b o x hx
  ·rw [bx] at hB
   split at hB
   ·rename_i e; subst e; cases hB
    exact ⟨L,vs,⟨hM.mu,hM.old,hM.row,hM.fits,hM.one,fun _=>Reads.add,fun e=>by cases e⟩,fU⟩
   ·rename_i e
    refine (h.live i B hB).mono hle (Mu.le_refl _) (fun h=>h) (fun _ _=>rfl) (fun L' hL' ho o=>?_)
    unfold aB.add
    rw [if_neg (fun e'=>e (h.inj i id B _ L' L hB hb hL' hM.mu e'))]
    exact ho o
  ·intro i i' B B' L1 L2 h1 h2 lI hm2 e
   have:∀{j B},aq j ((id,.cells cs true)::cB id H.bl)=some B->∃X8,aq j H.bl=some X8:=fun {j B} hj=>by
    rw [bx] at hj
    split at hj
    ·rename_i e;subst e;exact ⟨_,hb⟩
    ·exact ⟨B,hj⟩
   obtain ⟨C,hC⟩:=this h1
   obtain ⟨C',SI⟩:=this h2
   exact h.inj i i' C C' L1 L2 hC SI lI hm2 e
  ·intro i B hB
   rw [bx] at hB
   split at hB
   ·rename_i e;subst e;exact h.lt _ _ hb
   ·exact h.lt i B hB
theorem vo {Y:Ctx} {μ:Mu} {w:World} {nx:Nat}:∀{ids:List Nat} {bl bO:ai} {ι:aB},Inv P Y ι μ ⟨nx,bl⟩ w->uP ids bl=some bO ->
  ∃ι',ι.le ι'/\Inv P Y ι' μ ⟨nx,bO⟩ w/\∀id∈ids,yW ι' μ id (aq id bl)
 |[],bl,bO,ι,hI,h=>by cases h;exact ⟨ι,aB.le_refl _,hI,fun id hid=>by simp at hid⟩
 |i::r,bl,bO,ι,hI,h=>by
  simp only [uP] at h
  split at h
  ·rename_i t xs fz hb
   obtain ⟨ι1,h1,h2,h3⟩:=hI.freeze hb
   obtain ⟨ι2,h4,h5,h6⟩:=vo h2 h
   refine ⟨ι2,aB.le_trans h1 h4,h5,fun id hid=>?_⟩
   by_cases e:id=i
   ·subst e
    rw [show aq id bl=some (.arr t xs fz) from hb]
    exact iM.mono h4 h3
   ·rcases List.mem_cons.1 hid with rfl | hid
    ·exact absurd rfl e
    ·have := h6 id hid
     have e2:aq id ((i,jE.arr t xs true)::cB i bl)=aq id bl:=by rw [aY,if_neg (fun h=>e h.symm),bB,if_neg e]
     rw [show aq id ((i,jE.arr t xs true)::cB i (aO.bl ⟨nx,bl⟩))=aq id bl from e2] at this
     exact this
  ·rename_i cs fz hb
   obtain ⟨ι1,h1,h2,h3⟩:=hI.S6 hb
   obtain ⟨ι2,h4,h5,h6⟩:=vo h2 h
   refine ⟨ι2,aB.le_trans h1 h4,h5,fun id hid=>?_⟩
   by_cases e:id=i
   ·subst e
    rw [show aq id bl=some (.cells cs fz) from hb]
    exact h3.mono h4
   ·rcases List.mem_cons.1 hid with rfl | hid
    ·exact absurd rfl e
    ·have := h6 id hid
     have e2:aq id ((i,jE.cells cs true)::cB i bl)=aq id bl:=by rw [aY,if_neg (fun h=>e h.symm),bB,if_neg e]
     rw [show aq id ((i,jE.cells cs true)::cB i (aO.bl ⟨nx,bl⟩))=aq id bl from e2] at this
     exact this
  ·cases h
theorem Bh {ι : aB} {μ : Mu} {bl : ai} : ∀ {n : Nat} {v r : V} {x : Value}, fin bW bl n v = some r → (∀ id ∈ gC bl n v, yW ι μ id (aq id bl)) → Rel ι μ v x → Rel ι (fun _ => none) r x
 |0,v,r,x,h,_,_=>by cases h
 |n+1,v,r,x,h,hF,hr=>by
  have conv:∀{cs ds:List V} {xs:List Value},cL (fin bW bl n) cs=some ds->(∀id∈cs.flatMap (gC bl n),yW ι μ id (aq id bl))->aR ι μ cs xs->aR ι (fun _=>none) ds xs:=by
   intro cs
   induction cs with
   |nil=>intro ds xs hm _ hl;cases hm;rw [hl.of_nil];exact .nil
   |cons c cs ih =>
    intro ds xs hm hf hl
    unfold cL at hm
    obtain ⟨y,ys,rfl,h1,h2⟩:=hl.cA
    split at hm<;>try (cases hm;done)
    rename_i u hu
    split at hm<;>try (cases hm;done)
    rename_i us HJ
    cases hm
    simp only [List.flatMap_cons,List.mem_append] at hf
    exact .cons (Bh hu (fun id hid=>hf id (.inl hid)) h1) (ih HJ (fun id hid=>hf id (.inr hid)) h2)
  cases hr<;>simp only [fin] at h<;>try (cases h;done)
  case any=>cases h;exact .any _
  case tf=>cases h;exact .tf _
  case bool=>cases h;exact .bool _
  case int=>cases h;exact .int _ _
  case str=>cases h;exact .str _
  case eJ=>cases h;exact .eJ
  case cu=>cases h;exact .cu
  case cK=>cases h;exact .cK
  case eG t xs hd=>cases h;exact .eG t xs _ hd
  case kO t xs a hd=>cases h;exact .kO t xs a hd
  case bA=>cases h;exact .bA
  case sl id t lo m cap L hL h1 h2 h3 =>
   split at h<;>try (cases h;done)
   rename_i t' xs fz hb
   split at h<;>try (cases h;done)
   rename_i e;subst e
   cases h
   have hf:=hF id (by simp [gC])
   rw [hb] at hf
   exact .eG _ _ _ (iM.slice hf (.sl (ι:=ι) id t lo m cap L hL h1 h2 h3))
  case cg id t lo a =>
   split at h<;>try (cases h;done)
   rename_i t' xs fz hb
   split at h<;>try (cases h;done)
   rename_i e;subst e
   cases h
   exact .eG _ _ _ ⟨a,0,by simp [bM,bW],by simp [bM,bW],.inl (by simp [bM,bW])⟩
  case ptr id off L hL =>
   split at h<;>try (cases h;done)
   rename_i cs fz hb
   split at h<;>try (cases h;done)
   rename_i ds hds
   split at h<;>try (cases h;done)
   rename_i hoff
   cases h
   have hf:=hF id (by simp [gC])
   rw [hb] at hf
   obtain ⟨L',vs,hM,hrd,hR,hone⟩:=hf
   rw [hM] at hL;cases hL
   have fU:=conv hds (fun i hi=>hF i (by simp only [gC,hb,List.mem_cons];exact .inr hi)) hR
   refine .av _ L.b (L.ba+off) (fun i=>vs.getD (off+i) .nilIface) (fun i hi=>?_) (fun i v hv=>?_) (fun i=>?_)
   ·have hlt : off + i < vs.length := by have := fU.1; simp at hi; omega
    have:vs[off+i]?=some (vs.getD (off+i) .nilIface):=by simp [List.getD,hlt]
    rw [Nat.add_assoc];exact hrd _ _ this
   ·have Db : ds[off + i]? = some v := by simpa using hv
    obtain ⟨y,hy,hry⟩:=fU.at Db
    simp only [List.getD,hy,Option.getD_some];exact hry
   ·by_cases hlt : off + i < vs.length
    ·have : vs.getD (off + i) .nilIface = vs[off + i] := by simp [List.getD, hlt]
     rw [this];exact hone _ (List.getElem_mem hlt)
    ·have : vs.getD (off + i) .nilIface = .nilIface := by simp [List.getD, List.getElem?_eq_none (show vs.length ≤ off + i by omega)]
     rw [this];rfl
  case av cs b o gf h1 h2 h3 =>
   split at h<;>try (cases h;done)
   rename_i hall
   cases h
   exact .av cs b o gf h1 (fun i v hv=>eC (List.all_eq_true.1 hall _ (List.mem_of_getElem? hv)) (h2 i v hv)) h3
  case ip t y b o us h1 h2=>cases h;exact .ip t y b o us h1 h2
  case fn f fs cs xs ys h1 h2 h3 h4 =>
   split at h<;>try (cases h;done)
   rename_i as bs ha hb
   cases h
   have r1:=conv ha (fun i hi=>hF i (by simp only [gC,List.mem_append];exact .inl hi)) (xs:=xs.toList) ⟨by simpa using h1,fun i v x hv hx=>h2 i v x hv (by simpa using hx)⟩
   have r2:=conv hb (fun i hi=>hF i (by simp only [gC,List.mem_append];exact .inr hi)) (xs:=ys.toList) ⟨by simpa using h3,fun i v x hv hx=>h4 i v x hv (by simpa using hx)⟩
   exact .fn f as bs xs ys (by simpa using r1.1) (fun i v x hv hx=>r1.2 i v x hv (by simpa using hx)) (by simpa using r2.1) (fun i v x hv hx=>r2.2 i v x hv (by simpa using hx))
  case agg cs xs h1 h2 h3 =>
   split at h<;>try (cases h;done)
   rename_i ds hds
   cases h
   have r1:=conv hds (fun i hi=>hF i (by simpa [gC] using hi)) (xs:=xs.toList) ⟨by simpa using h1,fun i v x hv hx=>h2 i v x hv (by simpa using hx)⟩
   exact .agg ds xs (by simpa using r1.1) (fun i v x hv hx=>r1.2 i v x hv (by simpa using hx)) h3
  case cG cs xs h1 h2 =>
   split at h<;>try (cases h;done)
   rename_i ds hds
   cases h
   have r1:=conv hds (fun i hi=>hF i (by simpa [gC] using hi)) (xs:=xs.toList) ⟨by simpa using h1,fun i v x hv hx=>h2 i v x hv (by simpa using hx)⟩
   exact .cG ds xs (by simpa using r1.1) (fun i v x hv hx=>r1.2 i v x hv (by simpa using hx))
  case bU t v x hv =>
   split at h<;>try (cases h;done)
   rename_i r' hr'
   cases h
   exact .bU t r' x (Bh hr' (fun i hi=>hF i (by simpa [gC] using hi)) hv)
  case cb c b hc=>cases h;exact .cb c b hc
  case dZ=>cases h;exact .dZ
  case jP t xs b o us h1 h2=>cases h;exact .jP t xs b o us h1 h2
  case pa id t m L hL hm =>
   split at h<;>try (cases h;done)
   rename_i t' xs fz hb
   split at h<;>try (cases h;done)
   rename_i e;subst e
   cases h
   have hf:=hF id (by simp [gC])
   rw [hb] at hf
   rcases hf with ⟨e,hn⟩|⟨L',vs,hM,hrd,hR,hl⟩
   ·rw [hn] at hL;cases hL
   ·rw [hM] at hL; cases hL
    exact .jP _ _ _ _ vs hrd hR
theorem Bi : ∀ {ids : List Nat} {bl : ai} {u : dU}, vX ids bl = some u → uP ids bl = some (bV u bl)
 |[],_,_,h=>by cases h;rfl
 |id::r,bl,u,h=>by
  simp only [vX] at h
  simp only [uP]
  split at h
  ·rename_i hb
   split at h<;>try (cases h;done)
   rename_i hu
   cases h
   rw [hb]
   exact Bi hu
  ·rename_i hb
   split at h<;>try (cases h;done)
   rename_i hu
   cases h
   rw [hb]
   exact Bi hu
  ·cases h
theorem S7 {ι ι':aB} {μ:Mu} {bl:ai} (h1:ι.le ι'):∀{vs vs':List V} {xs:List Value},cL (fin bW bl 8) vs=some vs'->(∀id∈jn bl vs,yW ι' μ id (aq id bl))->aR ι μ vs xs->aR ι' (fun _=>none) vs' xs:=by
 intro vs
 induction vs with
 |nil=>intro vs' xs hm _ hl;cases hm;rw [hl.of_nil];exact .nil
 |cons v r ih =>
  intro vs' xs hm hfz hl
  unfold cL at hm
  split at hm<;>try (cases hm;done)
  rename_i u hu
  split at hm<;>cases hm
  rename_i us HJ
  obtain ⟨x,xs',rfl,r1,r2⟩:=hl.cA
  simp only [jn,List.flatMap_cons,List.mem_append] at hfz
  exact .cons (Bh hu (fun id hid=>hfz id (.inl hid)) (r1.mono h1 (Mu.le_refl _))) (ih HJ (fun id hid=>hfz id (.inr hid)) r2)
end
end Go.AM
end
