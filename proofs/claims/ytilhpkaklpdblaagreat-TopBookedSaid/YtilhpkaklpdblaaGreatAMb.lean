/- Each operation of the small machine is the model's: slices of slices; the sum. Each operation of the small machine is the model's: the sum. The small machine's code is the model's: what is said of calls, loops and rounds; a region's items. The small machine's code is the model's: sequences, tests, blocks, loops. A function's contract: data in, data out. A function's contract out of its code. States that stand for as much: at a loop's head. Calls of functions whose contract speaks of data. A region whose order is drawn: what an item does depends on little, and items that have nothing to do with each other change places. A drawn region's trace: its items in the canonical order, and each brought to the front where nothing forbids it. -/
import Derived.Test.YtilhpkaklpdblaaGreatAMa
import Derived.MapKept
import Derived.WideKeyRuns
import Derived.Laws.IdiomCopy
import Derived.Laws.BytesString
set_option linter.unusedSectionVars false
set_option linter.unusedVariables false
set_option linter.unusedSimpArgs false
section
namespace Go.AM
section
variable {P : Program} {Y : Ctx} {ι ι' : aj} {μ μ' : Mu} {H : aF} {w w' : World}
 {c1:Nat->List V->aF->(V->aF->Prop)->Prop} {c2:Nat->List V->V->Prop} {c3:C->St->(Ex->St->Prop)->Prop}
 {c4:Nat->List V->aF->(V->aF->Prop)->Prop} {c5:O->List Nat->C->C->St->(Ex->St->Prop)->Prop} {c6:C->St->(Ex->St->Prop)->Prop}
theorem HW {v:V} {z:Int} {x:Value} (h:rA v=some z) (hr:Rel ι μ v x):∃k,x = .int k z:=by
 cases v<;>simp [rA] at h
 subst h;cases hr;exact ⟨_,rfl⟩
theorem eO {env:List (Nat×V)} {a:Act} (he:fu ι μ env a.tmps) {d z:Int} {o:Option O} {oo:Option Operand} (ht:Cu oo=some o) (h:cH env d o=some z) :
  (oo=none/\z=d)\/∃x k,oo=some x/\a.eval x = .int k z:=by
 cases oo with
 |none=>cases ht;simp [cH] at h;exact .inl ⟨rfl,h.symm⟩
 |some x =>
  simp only [Cu] at ht
  cases hx:dI x with
  |none=>simp [hx] at ht
  |some y =>
   simp [hx] at ht;subst ht
   simp only [cH] at h
   obtain ⟨k,hk⟩:=HW h (aC he hx)
   exact .inr ⟨x,k,rfl,hk⟩
theorem E3 {env : List (Nat × V)} {a : Act} (he : fu ι μ env a.tmps) {t e : TypeId} {ff : Nat} (ht : P.underlying t = some (.slice e)) (hsz : dm P e = some ff) {x : O} {px : Value} (hx : Rel ι μ (x.ev env) px)
  {lo hi mx:Option O} {lo' hi' Ts:Option Operand} (h1:Cu lo'=some lo) (h2:Cu hi'=some hi) (h3:Cu Ts=some mx) {bl:ah} {n:Nat} {ob:List Bool} {v:V} {u:eZ}
  (ag:cg (bn c1 c2 c3 c4 c5 c6) (.slice ff x lo hi mx) env bl n=some (ob,v,u)) (cV:oL ob) :
  u=[]/\∃y,(Instr.sliceAt t px (lo'.map a.eval) (hi'.map a.eval) (Ts.map a.eval)).run P w = .ok y w/\Rel ι μ v y:=by
 have hsize:∀w:World,(sizeOf e).run P w = .ok ff w:=fun w=>by
  unfold dm at hsz
  cases hq:P.info? e with
  |none=>simp [hq] at hsz
  |some i=>simp [hq] at hsz;subst hsz;simp [sizeOf,typeInfo,hq]
 -- the run, between bounds
 have run:∀(base:Option Addr) (len cap:Nat) (l h:Nat),(∃z:Int,z.toNat=l/\0<=z/\((lo'=none/\z=0)\/∃x k,lo'=some x/\a.eval x = .int k z)) ->
   (∃z:Int,z.toNat=h/\0<=z/\((hi'=none/\z=len)\/∃x k,hi'=some x/\a.eval x = .int k z))->l<=h->h<=len->len<=cap->Ts=none ->
   (Instr.sliceAt t (.slice base len cap) (lo'.map a.eval) (hi'.map a.eval) (Ts.map a.eval)).run P w = .ok (.slice (if cap=l then base else base.map (·.add (l * ff))) (h - l) (cap - l)) w:=by
  intro base len cap l h hl hh hlh hhl hlc hm
  subst hm
  obtain ⟨zl,rfl,hl0,hl⟩:=hl
  obtain ⟨zh,rfl,hh0,hh⟩:=hh
  simp only [Instr.sliceAt,Instr.slice,Sem.run_bind,run_underlying ht,Result.andThen_ok,Instr.sliceBounds]
  rcases hl with ⟨rfl,rfl⟩|⟨xl,kl,rfl,hl⟩<;>rcases hh with ⟨rfl,rfl⟩|⟨xh,kh,rfl,hh⟩
  ·simp [hsize]
  ·have q1 : zh ≤ (cap : Int) := by omega
   simp [hsize,hh,Instr.sliceBound,asIntOf,hh0,q1]
  ·have q1 : zl ≤ (len : Int) := by omega
   simp [hsize,hl,Instr.sliceBound,asIntOf,hl0,q1]
  ·have q1 : zh ≤ (cap : Int) := by omega
   have q2:zl<=zh:=by omega
   simp [hsize,hl,hh,Instr.sliceBound,asIntOf,hl0,hh0,q1,q2]
   intro hc;omega
 simp only [cg] at ag
 split at ag
 ·rename_i mO
  split at ag<;>try (cases ag;done)
  rename_i hO
  split at ag<;>try (cases ag;done)
  rename_i za zb zc ZB ZC ZA
  -- the run with a bound on the capacity: nothing is left
  have fin:∀(base:Option Addr) (len cap:Nat),za=0->zb=0->zc=0->(Instr.sliceAt t (.slice base len cap) (lo'.map a.eval) (hi'.map a.eval) (Ts.map a.eval)).run P w = .ok (.slice base 0 0) w:=by
   intro base len cap e1 e2 e3
   subst e1;subst e2;subst e3
   have g1:=eO he (d:=0) h1 ZA
   have g2:∃x k,hi'=some x/\a.eval x = .int k 0:=by
    rcases eO he (d:=1) h2 (z:=0) (by simpa [cH] using ZC) with ⟨e,e'⟩|h
    ·cases e'
    ·exact h
   have g3:∃x k,Ts=some x/\a.eval x = .int k 0:=by
    rcases eO he (d:=1) h3 (z:=0) (by simpa [cH] using ZB) with ⟨e,e'⟩|h
    ·cases e'
    ·exact h
   obtain ⟨xh,kh,rfl,hh⟩:=g2
   obtain ⟨xm,km,rfl,hm⟩:=g3
   simp only [Instr.sliceAt,Instr.slice,Sem.run_bind,run_underlying ht,Result.andThen_ok,Instr.sliceBounds]
   rcases g1 with ⟨rfl,_⟩|⟨xl,kl,rfl,hl⟩
   ·simp [hsize,hh,hm,Instr.sliceBound,asIntOf]
   ·simp [hsize,hh,hm,hl,Instr.sliceBound,asIntOf]
  have obs:ob=[za==0,zb==0,zc==0]->za=0/\zb=0/\zc=0:=fun e=>by
   subst e
   have e1:=cV _ (List.mem_cons_self)
   have e2:=cV _ (List.mem_cons_of_mem _ (List.mem_cons_self))
   have e3:=cV _ (List.mem_cons_of_mem _ (List.mem_cons_of_mem _ (List.mem_cons_self)))
   simp at e1 e2 e3;exact ⟨e1,e2,e3⟩
  split at ag<;>try (cases ag;done)
  ·rename_i dN; rw [dN] at hx
   cases ag
   obtain ⟨e1,e2,e3⟩:=obs rfl
   cases hx with
   |sl=>exact ⟨rfl,_,fin _ _ _ e1 e2 e3,.cw _⟩
   |bO=>exact ⟨rfl,_,fin _ _ _ e1 e2 e3,.cw _⟩
  ·rename_i dN; rw [dN] at hx
   cases ag
   obtain ⟨e1,e2,e3⟩:=obs rfl
   cases hx with
   |fM _ _ _ hd =>
    obtain ⟨b,cap,e,_⟩:=hd
    cases e
    exact ⟨rfl,_,fin _ _ _ e1 e2 e3,.cw _⟩
  ·rename_i dN; rw [dN] at hx
   cases ag
   obtain ⟨e1,e2,e3⟩:=obs rfl
   cases hx with
   |cw=>exact ⟨rfl,_,fin _ _ _ e1 e2 e3,.cw _⟩
 ·have Mh:Ts=none:=by
   cases Ts with
   |none=>rfl
   |some q=>simp only [Cu] at h3;cases hq:dI q<;>simp [hq] at h3
  split at ag<;>try (cases ag;done)
  ·rename_i id te l len dN
   rw [dN] at hx
   split at ag<;>try (cases ag;done)
   rename_i Tt
   split at ag<;>try (cases ag;done)
   rename_i za zb ZB ZC
   cases ag
   have e1:=cV _ (List.mem_cons_self)
   have e2:=cV _ (List.mem_cons_of_mem _ (List.mem_cons_self))
   have e3:=cV _ (List.mem_cons_of_mem _ (List.mem_cons_of_mem _ (List.mem_cons_self)))
   simp only [decide_eq_true_eq] at e1 e2 e3
   have e3':zb<=(len:Int):=e3
   have g1:=eO he h1 ZB
   have g2:=eO he h2 ZC
   refine ⟨rfl,?_⟩
   cases hx with
   |bO _ _ _ base =>
    refine ⟨_,run base 0 0 za.toNat zb.toNat ⟨za,rfl,e1,g1⟩ ⟨zb,rfl,by omega,g2⟩ (by omega) (by omega) (by omega) Mh,?_⟩
    have ha:za.toNat=0:=by omega
    have hb:zb.toNat=0:=by omega
    simp only [ha,hb,Nat.sub_self,if_true]
    exact .bO _ _ _ _
   |sl _ _ _ _ cap L hL q1 q2 q3 =>
    refine ⟨_,run _ len cap za.toNat zb.toNat ⟨za,rfl,e1,g1⟩ ⟨zb,rfl,by omega,g2⟩ (by omega) (by omega) q1 Mh,?_⟩
    by_cases hc:cap=za.toNat
    ·rw [if_pos hc, show zb.toNat - za.toNat = 0 by omega, show cap - za.toNat = 0 by omega]
     exact .bO _ _ _ _
    ·rw [if_neg hc]
     have := Rel.sl (ι := ι) id te (l + za.toNat) (zb.toNat - za.toNat) (cap - za.toNat) L hL (by omega)
      (by rw [show l+za.toNat+(cap - za.toNat)=l+cap by omega];exact q2) (by omega)
     simp only [Option.map_some,Addr.add_mid]
     rw [Nat.add_mul,<-Nat.add_assoc,Tt] at this
     rw [Tt];exact this
  ·rename_i te xs dN
   rw [dN] at hx
   split at ag<;>try (cases ag;done)
   rename_i Tt
   split at ag<;>try (cases ag;done)
   rename_i za zb ZB ZC
   cases ag
   have e1:=cV _ (List.mem_cons_self)
   have e2:=cV _ (List.mem_cons_of_mem _ (List.mem_cons_self))
   have e3:=cV _ (List.mem_cons_of_mem _ (List.mem_cons_of_mem _ (List.mem_cons_self)))
   simp only [decide_eq_true_eq] at e1 e2 e3
   have e3':zb<=(xs.length:Int):=e3
   have g1:=eO he h1 ZB
   have g2:=eO he h2 ZC
   refine ⟨rfl,?_⟩
   cases hx with
   |fM _ _ _ hd =>
    obtain ⟨base,cap,e,hle,hd⟩:=hd
    cases e
    refine ⟨_,run base xs.length cap za.toNat zb.toNat ⟨za,rfl,e1,g1⟩ ⟨zb,rfl,by omega,g2⟩ (by omega) (by omega) hle Mh,?_⟩
    have hlen:((xs.drop za.toNat).take (zb.toNat - za.toNat)).length=zb.toNat - za.toNat:=by simp;omega
    refine .fM _ _ _ ⟨_,_,by rw [hlen],by omega,?_⟩
    by_cases hz:zb.toNat - za.toNat=0
    ·left;rw [hz];simp
    ·right
     rcases hd with rfl|⟨b,o,us,rfl,hrd,hc⟩
     ·simp at e3';omega
     ·rw [if_neg (by omega)]
      refine ⟨b,o+za.toNat * ff,(us.drop (za.toNat * te.sz)).take ((zb.toNat - za.toNat) * te.sz),by simp [Addr.add_mid],?_,?_⟩
      ·rw [<-Tt];exact hrd.sub _ _
      ·exact (hc.drop (fun _ _=>af.length) _).take (fun _ _=>af.length) _
  ·rename_i dN
   rw [dN] at hx
   split at ag<;>try (cases ag;done)
   rename_i za zb ZB ZC
   cases ag
   have e1:=cV _ (List.mem_cons_self)
   have e2:=cV _ (List.mem_cons_of_mem _ (List.mem_cons_self))
   have Mi:za=0:=by simpa using e1
   have e2':zb=0:=by simpa using e2
   subst Mi;subst e2'
   have g1:=eO he h1 ZB
   have g2:=eO he h2 ZC
   cases hx with
   |cw ad =>
    refine ⟨rfl,_,run ad 0 0 0 0 ⟨0,rfl,by omega,g1⟩ ⟨0,rfl,by omega,by simpa using g2⟩ (by omega) (by omega) (by omega) Mh,?_⟩
    exact .cw _
theorem Bb {k : IntKind} : ∀ {cs : List V} {zs : List Int}, Ju k cs = some zs → zs.length = cs.length ∧ ∀ (j : Nat) v, cs[j]? = some v → v = .int k (zs.getD j 0)
 |[],zs,h=>by cases h;exact ⟨rfl,fun j v hv=>by simp at hv⟩
 |v::r,zs,h=>by
  cases v<;>simp only [Ju] at h<;>try (cases h;done)
  split at h<;>try (cases h;done)
  rename_i e;subst e
  split at h<;>try (cases h;done)
  rename_i ys hy
  cases h
  obtain ⟨h1,h2⟩:=Bb hy
  exact ⟨by simp [h1],fun j v hv=>by
   cases j with
   |zero=>simp at hv;subst hv;rfl
   |succ j=>simpa using h2 j v (by simpa using hv)⟩
theorem OV {e:TypeId} {k:Nat} {g:Bool} (hk:dm P e=some k) (hg:uu P e=some g) {xa:Array Value} {off:Nat} {y:Value} (hoff:off+k<=xa.size) (hy:iC g ((xa.toList.drop off).take k)=some y) :
  (part e xa off).run P w = .ok y w:=by
 have hsz:∀w:World,(sizeOf e).run P w = .ok k w:=by
  unfold dm at hk
  cases hq:P.info? e with
  |none=>simp [hq] at hk
  |some i=>simp [hq] at hk;subst hk;exact fun w=>by simp [sizeOf,typeInfo,hq]
 have hagg:∀w:World,(isAgg e).run P w = .ok g w:=by
  intro w
  unfold uu at hg
  split at hg
  ·rename_i hu;cases hg;unfold isAgg;rw [Sem.run_bind,run_underlying hu w];rfl
  ·rename_i hu;cases hg;unfold isAgg;rw [Sem.run_bind,run_underlying hu w];rfl
  ·rename_i d h1 h2 hu
   cases hg;unfold isAgg;rw [Sem.run_bind,run_underlying hu w]
   cases d<;>simp_all
  ·cases hg
 cases g with
 |true =>
  cases hy
  have:(List.take k (List.drop off xa.toList)).toArray=xa.extract off (off+k):=by
   apply Array.ext';simp [List.extract_eq_take_drop]
  simp [part,hagg,hsz,this]
 |false =>
  have hl:List.take k (List.drop off xa.toList)=[y]:=by
   match h0:List.take k (List.drop off xa.toList),hy with
   |[c],hy=>cases hy;rfl
   |[],hy=>cases hy
   |_::_::_,hy=>cases hy
  have hc:xa[off]?=some y:=by
   have h0:(List.take k (List.drop off xa.toList))[0]?=some y:=by rw [hl];rfl
   rw [List.getElem?_take] at h0
   split at h0
   ·simpa using h0
   ·cases h0
  simp [part,hagg,hc]
theorem E4 {t e : TypeId} {n k : Nat} {g : Bool} (hu : P.underlying t = some (.array n e)) (hk : dm P e = some k) (hg : uu P e = some g) {va vi : V} {a ix : Value} (ha : Rel ι μ va a) (hi : Rel ι μ vi ix) {bl : ah} {aD : Nat}
  {ob:List Bool} {v:V} {u:eZ} (ag:iH (bn c1 c2 c3 c4 c5 c6) (.Ox n k g) [va,vi] bl aD=some (ob,v,u)) (cV:oL ob):u=[]/\∃y,(Instr.index t a ix).run P w = .ok y w/\Rel ι μ v y:=by
 have hsz:∀w:World,(sizeOf e).run P w = .ok k w:=by
  unfold dm at hk
  cases hq:P.info? e with
  |none=>simp [hq] at hk
  |some i=>simp [hq] at hk;subst hk;exact fun w=>by simp [sizeOf,typeInfo,hq]
 simp only [iH] at ag
 split at ag<;>try (cases ag;done)
 rename_i cs kk i heq
 simp only [List.cons.injEq,and_true] at heq
 obtain ⟨rfl,rfl⟩:=heq
 cases hi
 cases ha with
 |agg _ xa p1 p2 p3 =>
 have hR:aJ ι μ cs xa.toList:=⟨by simpa using p1,fun i v x hv hx=>p2 i v x hv (by simpa using hx)⟩
 split at ag<;>try (cases ag;done)
 rename_i hlen
 have hlen:=Nat.eq_of_beq_eq_true hlen
 have hxs:xa.size=n * k:=by rw [<-p1];exact hlen
 have fin:∀{m:Nat} {y:Value} {ws:List V} {v:V},m<n->aJ ι μ ws ((xa.toList.drop (m * k)).take k)->cE g ws=some v->i=(m:Int)->∃y,(Instr.index t (.agg xa) (.int kk i)).run P w = .ok y w/\Rel ι μ v y:=by
  intro m y ws v hm hr hw hi
  subst hi
  obtain ⟨y,hy,hv⟩:=ux hw hr (fun u hu=>p3 u (List.mem_of_mem_drop (List.mem_of_mem_take hu)))
  have hmk:m * k+k<=xa.size:=by
   rw [hxs]
   have:=Nat.mul_le_mul_right k (show m+1<=n from hm)
   rwa [Nat.add_mul,Nat.one_mul] at this
  refine ⟨y,?_,hv⟩
  have h2:(m:Int)<(n:Int):=by omega
  simp [Instr.index,asIntOf,run_underlying hu,hm,hsz,OV hk hg hmk hy]
 split at ag
 ·rename_i k0 z r _
  split at ag<;>try (cases ag;done)
  rename_i zs hzs
  split at ag<;>try (cases ag;done)
  rename_i v' hw
  cases ag
  have hb:=cV _ (List.mem_singleton.2 rfl)
  simp only [decide_eq_true_eq] at hb
  obtain ⟨q1,q2⟩:=Bb hzs
  have iL:i.toNat<n:=by have:=hb.2;simp at this;omega
  refine ⟨rfl,fin (m:=i.toNat) (y:=undef) iL ?_ hw (by omega)⟩
  have hmk:i.toNat * k+k<=n * k:=by
   have:=Nat.mul_le_mul_right k (show i.toNat+1<=n from iL)
   rwa [Nat.add_mul,Nat.one_mul] at this
  refine ⟨by simp [Tb];omega,fun m v x hv hx=>?_⟩
  have hm:m<k:=by have:=(List.getElem?_eq_some_iff.1 hv).1;simpa [Tb] using this
  have hv2:v = .int k0 (zs.getD (i.toNat * k+m) 0):=by
   simp only [Tb,List.getElem?_map,List.getElem?_range hm,Option.map_some,Option.some.injEq] at hv
   rw [<-hv]
   simp only [colZ,List.getD_eq_getElem?_getD,List.getElem?_map,List.getElem?_range iL,Option.map_some,Option.getD_some]
  have hj:i.toNat * k+m<(V.int k0 z::r).length:=by rw [hlen];omega
  have hx2:xa.toList[i.toNat * k+m]?=some x:=by
   rw [List.getElem?_take,if_pos hm,List.getElem?_drop] at hx
   exact hx
  have h1:=q2 (i.toNat * k+m) _ (List.getElem?_eq_getElem hj)
  have h2:=hR.2 (i.toNat * k+m) _ x (List.getElem?_eq_getElem hj) hx2
  rw [h1] at h2
  rw [hv2];exact h2
 ·split at ag <;> try (cases ag; done)
  rename_i m
  split at ag<;>try (cases ag;done)
  rename_i hm
  split at ag<;>try (cases ag;done)
  rename_i ws jf
  split at ag<;>try (cases ag;done)
  rename_i v' hw
  cases ag
  obtain ⟨r1,r2,r3⟩:=hR.sw jf
  exact ⟨rfl,fin (m:=m) (y:=undef) hm r1 hw rfl⟩
theorem E5 {t : TypeId} (hu : P.underlying t = some .string) {va vi : V} {a ix : Value} (ha : Rel ι μ va a) (hi : Rel ι μ vi ix) {bl : ah} {aD : Nat}
  {ob:List Bool} {v:V} {u:eZ} (ag:iH (bn c1 c2 c3 c4 c5 c6) .xI [va,vi] bl aD=some (ob,v,u)) (cV:oL ob):u=[]/\∃y,(Instr.index t a ix).run P w = .ok y w/\Rel ι μ v y:=by
 simp only [iH] at ag
 split at ag<;>try (cases ag;done)
 rename_i s kk i heq
 simp only [List.cons.injEq,and_true] at heq
 obtain ⟨rfl,rfl⟩:=heq
 cases ha;cases hi
 cases ag
 have hb:=cV _ (List.mem_singleton.2 rfl)
 simp only [decide_eq_true_eq] at hb
 have h2:i.toNat<s.size:=by omega
 refine ⟨rfl,.int .u8 ((s[i.toNat]'h2).toNat),?_,?_⟩
 ·rw [run_index_string w t s kk i hu,dif_pos hb]
 ·have:HK s i.toNat=((s[i.toNat]'h2).toNat:Int):=by
   have h3:i.toNat<s.data.toList.length:=by simpa using h2
   simp only [HK,b8,List.getD_eq_getElem?_getD,List.getElem?_map,List.getElem?_eq_getElem h3,Option.map_some,Option.getD_some]
   rfl
  show Rel ι μ (.int .u8 (HK s i.toNat)) _
  rw [this];exact .int _ _
theorem E6 {t e : TypeId} (hu : P.underlying t = some (.slice e)) {op : BinOp} {neg : Bool} (hop : lN op = some neg) {xo yo : Operand} {va : V} {a : Value} (ha : Rel ι μ va a) {bl : ah} {aD : Nat} {ob : List Bool} {v : V} {u : eZ}
  (ag:iH (bn c1 c2 c3 c4 c5 c6) (.Oy neg) [va] bl aD=some (ob,v,u)) :
  u=[]/\∃y,(do eqGuard op t xo yo a (.slice none 0 0);binOp op t a (.slice none 0 0):Sem Value).run P w = .ok y w/\Rel ι μ v y:=by
 have hd:∀(d:Nat) (a0:Option Addr) (n c:Nat),(Op.equalIn (d+1) t (.slice a0 n c) (.slice none 0 0)).run P w = .ok a0.isNone w:=fun d a0 n c=>by
  cases a0<;>simp [Op.equalIn,run_underlying hu]
 have key:∀(a0:Option Addr) (n c:Nat),(Op.equal t (.slice a0 n c) (.slice none 0 0)).run P w = .ok a0.isNone w:=fun a0 n c=>hd 9999 a0 n c
 have fin:∀(a0:Option Addr) (n c:Nat) (cc:Bool),neg=false->(a0.isNone=true->cc=true)->∃y,(do eqGuard op t xo yo (.slice a0 n c) (.slice none 0 0);binOp op t (.slice a0 n c) (.slice none 0 0):Sem Value).run P w = .ok y w/\Rel ι μ (.cb cc) y:=fun a0 n c cc hn hc=>by
  subst hn
  cases op<;>simp [lN] at hop
  have hg:=cQ (P:=P) (w:=w) .eql t xo yo (a:=.slice a0 n c) (b:=.slice none 0 0) (by simp) (by simp)
  exact ⟨.bool a0.isNone,by simp only [Sem.run_bind,hg,Result.andThen_ok,binOp,key];rfl,.cb _ _ hc⟩
 simp only [iH] at ag
 split at ag<;>try (cases ag;done)
 ·rename_i id t' lo n heq
  simp only [List.cons.injEq,and_true] at heq
  subst heq
  split at ag<;>try (cases ag;done)
  cases ag
  cases ha with
  |sl=>exact ⟨rfl,fin _ _ _ _ rfl (fun h=>by cases h)⟩
  |bO=>exact ⟨rfl,fin _ _ _ _ rfl (fun _=>rfl)⟩
 ·rename_i t' xs heq
  simp only [List.cons.injEq,and_true] at heq
  subst heq
  split at ag<;>try (cases ag;done)
  cases ag
  cases ha with
  |fM _ _ _ hd =>
   obtain ⟨a0,cap,e',hle,hx⟩:=hd
   cases e'
   refine ⟨rfl,fin _ _ _ _ rfl (fun h=>?_)⟩
   rcases hx with rfl|⟨b,o,us,rfl,_⟩
   ·rfl
   ·cases h
theorem CE {t k e : TypeId} (hu : P.underlying t = some (.map k e)) {op : BinOp} {neg : Bool} (hop : lN op = some neg) {xo yo : Operand} {va : V} {a : Value} (ha : Rel ι μ va a) {bl : ah} {aD : Nat} {ob : List Bool} {v : V} {u : eZ}
  (ag:iH (bn c1 c2 c3 c4 c5 c6) (.HF neg) [va] bl aD=some (ob,v,u)) :
  u=[]/\∃y,(do eqGuard op t xo yo a (.map none);binOp op t a (.map none):Sem Value).run P w = .ok y w/\Rel ι μ v y:=by
 have fin:∀(r:Option Nat) (b:Bool),b=(if neg then !r.isNone else r.isNone)->∃y,(do eqGuard op t xo yo (.map r) (.map none);binOp op t (.map r) (.map none):Sem Value).run P w = .ok y w/\Rel ι μ (.tf b) y:=fun r b hb=>by
  have hd:∀d:Nat,(Op.equalIn (d+1) t (.map r) (.map none)).run P w = .ok r.isNone w:=fun d=>by
   cases r<;>simp [Op.equalIn,run_underlying hu]
  have key:(Op.equal t (.map r) (.map none)).run P w = .ok r.isNone w:=hd 9999
  have hg:=cQ (P:=P) (w:=w) op t xo yo (a:=.map r) (b:=.map none) (by simp) (by simp)
  subst hb
  cases op<;>simp [lN] at hop<;>subst hop
  ·exact ⟨.bool r.isNone,by simp only [Sem.run_bind,hg,Result.andThen_ok,binOp,key];rfl,.tf _⟩
  ·exact ⟨.bool (!r.isNone),by simp only [Sem.run_bind,hg,Result.andThen_ok,binOp,key];rfl,.tf _⟩
 simp only [iH] at ag
 split at ag<;>try (cases ag;done)
 ·rename_i id heq
  simp only [List.cons.injEq,and_true] at heq
  subst heq
  cases ag
  cases ha with
  |mp _ L hL=>exact ⟨rfl,fin _ _ (by cases neg<;>rfl)⟩
 ·rename_i heq
  simp only [List.cons.injEq,and_true] at heq
  subst heq
  cases ag
  cases ha
  exact ⟨rfl,fin _ _ (by cases neg<;>rfl)⟩
theorem CF {t e : TypeId} (hu : P.underlying t = some (.pointer e)) {op : BinOp} {neg : Bool} (hop : lN op = some neg) {xo yo : Operand} {va : V} {a : Value} (ha : Rel ι μ va a) {bl : ah} {aD : Nat} {ob : List Bool} {v : V} {u : eZ}
  (ag:iH (bn c1 c2 c3 c4 c5 c6) (.HG neg) [va] bl aD=some (ob,v,u)) :
  u=[]/\∃y,(do eqGuard op t xo yo a (.pointer none);binOp op t a (.pointer none):Sem Value).run P w = .ok y w/\Rel ι μ v y:=by
 have fin:∀(r:Option Addr) (b:Bool),b=(if neg then !r.isNone else r.isNone)->∃y,(do eqGuard op t xo yo (.pointer r) (.pointer none);binOp op t (.pointer r) (.pointer none):Sem Value).run P w = .ok y w/\Rel ι μ (.tf b) y:=fun r b hb=>by
  have hd:∀d:Nat,(Op.equalIn (d+1) t (.pointer r) (.pointer none)).run P w = .ok r.isNone w:=fun d=>by
   cases r<;>simp [Op.equalIn,run_underlying hu]
  have key:(Op.equal t (.pointer r) (.pointer none)).run P w = .ok r.isNone w:=hd 9999
  have hg:=cQ (P:=P) (w:=w) op t xo yo (a:=.pointer r) (b:=.pointer none) (by simp) (by simp)
  subst hb
  cases op<;>simp [lN] at hop<;>subst hop
  ·exact ⟨.bool r.isNone,by simp only [Sem.run_bind,hg,Result.andThen_ok,binOp,key];rfl,.tf _⟩
  ·exact ⟨.bool (!r.isNone),by simp only [Sem.run_bind,hg,Result.andThen_ok,binOp,key];rfl,.tf _⟩
 simp only [iH] at ag
 split at ag<;>try (cases ag;done)
 ·rename_i id off heq
  simp only [List.cons.injEq,and_true] at heq
  subst heq
  cases ag
  cases ha with
  |ptr _ _ L hL=>exact ⟨rfl,fin _ _ (by cases neg<;>rfl)⟩
 ·rename_i heq
  simp only [List.cons.injEq,and_true] at heq
  subst heq
  cases ag
  cases ha
  exact ⟨rfl,fin _ _ (by cases neg<;>rfl)⟩
theorem Inv.JI {bl : ah} {n id : Nat} {L : Loc} {B B' : lJ} (h : Inv P Y ι μ ⟨n, bl⟩ w) (hb : av id bl = some B) (hL : μ id = some L) {o o' : Obj} (ho : w.heap[L.b]? = some o) (hnc : ∀ c e f, o ≠ .cells c e f) (Zq : jJ (some o) (some o'))
  (hnew:dZ P Y.own ι μ id (w.putObj L.b o') B'):Inv P Y ι μ ⟨n,(id,B')::bC id bl⟩ (w.putObj L.b o'):=by
 have hold:Y.own L.b:=((h.live id _ hb).loc hL).1
 have bZ:∀k,k≠L.b->(w.putObj L.b o').heap[k]?=w.heap[k]?:=fun k hk=>World.putObj_heap_other hk
 refine ⟨⟨h.below.os, h.below.tape, h.below.output, by rw [World.putObj_size]; exact h.below.size, fun k hk hx => ?_, h.below.dr, fun k hk => (h.below.maps k hk).trans (by
   by_cases e:k=L.b
   ·subst e;rw [ho,World.putObj_heap_same (Array.getElem?_eq_some_iff.1 ho).1];exact Zq
   ·exact .eq (bZ k e))⟩,h.i0,h.iB,fun b o2 x hx=>?_,h.m0,h.nx,fun i B2 hB=>?_,fun i i' B1 B2 L1 L2 iL gh=>?_,fun i B2 hB=>?_,h.gl⟩
 ·rw [bZ k (Ctx.mh hold hk hx)];exact h.below.block k hk hx
 ·have := h.rd b o2 x hx
  have hne:b≠L.b:=fun e=>by
   subst e
   cases o<;>simp [World.cell?,ho] at this
   exact hnc _ _ _ rfl
  unfold World.cell? at this ⊢
  simp only at this ⊢
  rw [bZ b hne];exact this
 ·simp only at hB
  rw [aG] at hB
  split at hB
  ·rename_i e;subst e;cases hB;exact hnew
  ·rename_i e
   refine (h.live i B2 hB).mono (aj.le_refl _) (Mu.le_refl _) (fun h=>h) (fun L' hL'=>bZ _ (fun e'=>e (h.inj i id B2 _ L' L hB hb hL' hL e'))) (fun _ _ h=>h)
 ·simp only at iL gh
  rw [aG] at iL gh
  have hx:∀j Bj,(if j=id then some B' else av j bl)=some Bj->∃Bj',av j bl=some Bj':=fun j Bj hj=>by
   split at hj
   ·rename_i e;subst e;exact ⟨_,hb⟩
   ·exact ⟨_,hj⟩
  obtain ⟨_,q1⟩:=hx _ _ iL
  obtain ⟨_,q2⟩:=hx _ _ gh
  exact h.inj i i' _ _ L1 L2 q1 q2
 ·simp only at hB
  rw [aG] at hB
  split at hB
  ·rename_i e;subst e;exact h.lt _ _ hb
  ·exact h.lt _ _ hB
theorem gp.rel {g:Bool} {t:Ty} {x:t.den} {v:Value} (h:gp ι g t x v):Rel ι μ (cG.jc g (cG t x)) v:=by
 obtain ⟨xs,h1,h2⟩:=h
 exact AY h2 (fD h1) (af.one h1)
theorem uB {t:Ty} {g:Bool} {v:V} {x:t.den} {z:Value} (h:keyOf (bn c1 c2 c3 c4 c5 c6) t g v=some x) (hr:Rel ι μ v z):gp ι g t x z:=by
 unfold keyOf at h
 split at h<;>try (cases h;done)
 rename_i cs hun
 split at h<;>try (cases h;done)
 rename_i x0 ho
 cases h
 obtain ⟨zs,r1,r2⟩:=ET hun hr
 obtain ⟨_,f1⟩:=kL ho r1
 obtain ⟨us,ws,e1,hd,EU⟩:=f1 ι (aj.le_refl _) (fun _ _ _ hm=>by cases hm)
 rw [EU.of_nil,List.append_nil] at e1
 exact ⟨zs,by rw [e1];exact hd,r2⟩
theorem x9 (a b:ByteArray):(a==b)=(a.data.toList==b.data.toList):=by
 obtain ⟨x⟩:=a
 obtain ⟨y⟩:=b
 show (x==y)=(x.toList==y.toList)
 rw [Bool.eq_iff_iff]
 simp [Array.toList_inj]
theorem mP : ∀ (t : Ty) (a b : t.den), eB t a b = eB t b a
 | .unit,_,_=>rfl
 | .bool,a,b=>by cases a<;>cases b<;>rfl
 | .str,a,b=>by
  simp only [eB]
  rw [Bool.eq_iff_iff];simp only [beq_iff_eq];exact ⟨Eq.symm,Eq.symm⟩
 | .int _,a,b=>by
  simp only [eB]
  rw [Bool.eq_iff_iff];simp only [beq_iff_eq];exact ⟨Eq.symm,Eq.symm⟩
 | .list _,_,_=>rfl
 | .prod s t,x,y=>by simp only [eB,mP s x.1 y.1,mP t x.2 y.2]
 | .cL _ _ t,x,y=>mP t x y
theorem bS : ∀ {t : Ty} {a b : t.den}, eB t a b = true → a = b
 | .unit,_,_,_=>rfl
 | .bool,a,b,h=>by simpa [eB] using h
 | .str,a,b,h=>by
  simp only [eB,beq_iff_eq] at h
  obtain ⟨a⟩:=a
  obtain ⟨b⟩:=b
  simp [Array.toList_inj] at h
  rw [h]
 | .int _,a,b,h=>by simpa [eB] using h
 | .list _,_,_,h=>by simp [eB] at h
 | .prod s t,x,y,h=>by
  simp only [eB,Bool.and_eq_true] at h
  exact Prod.ext (bS h.1) (bS h.2)
 | .cL _ _ t,x,y,h=>bS (t:=t) h
section
variable {t:Ty} {β:Type} {es es':List (t.den×β)} {x:t.den}
theorem uC (h:es.Perm es'):aR t es x=aR t es' x:=by
 unfold aR
 rw [Bool.eq_iff_iff]
 simp only [List.any_eq_true,h.mem_iff]
theorem uD (h:aR t es x=false) {e:t.den×β} (he:e∈es):eB t x e.1=false:=by
 unfold aR at h
 have:=List.any_eq_false.1 h e he
 simpa using this
theorem gL {d : β} : ∀ {es : List (t.den × β)}, aR t es x = false → ay t d es x = d
 |[],_=>rfl
 |e::r,h=>by
  have h1:=uD h (List.mem_cons_self ..)
  simp only [ay,h1,Bool.false_eq_true,if_false]
  refine gL ?_
  simpa [aR,h1] using h
theorem nI {d : β} : ∀ {es : List (t.den × β)}, KD t es → ∀ {e : t.den × β}, e ∈ es → eB t x e.1 = true → ay t d es x = e.2
 |[],_,_,h,_=>by cases h
 |a::r,hd,e,he,hx=>by
  unfold KD at hd
  rw [List.pairwise_cons] at hd
  rcases List.mem_cons.1 he with rfl|he
  ·simp [ay,hx]
  ·have:eB t x a.1=false:=by
    cases h:eB t x a.1 with
    |false=>rfl
    |true =>
     have e1:=bS h
     subst e1
     have:=hd.1 e he
     rw [hx] at this;cases this
   simp only [ay,this,Bool.false_eq_true,if_false]
   exact nI hd.2 he hx
theorem Bc {d:β} (h:es.Perm es') (hd:KD t es) (hd':KD t es'):ay t d es x=ay t d es' x:=by
 cases hm:aR t es x with
 |false=>rw [gL hm,gL (by rw [<-uC h];exact hm)]
 |true =>
  unfold aR at hm
  obtain ⟨e,he,hx⟩:=List.any_eq_true.1 hm
  rw [nI hd he hx,nI hd' (h.mem_iff.1 he) hx]
theorem KD.perm (h:es.Perm es') (hd:KD t es):KD t es':=by
 unfold KD at *
 exact (h.pairwise_iff (fun {a b} h=>by rw [mP];exact h)).1 hd
theorem j7 {v : β} : ∀ {es : List (t.den × β)}, (vA t es x v).Perm ((x, v) :: es)
 |[]=>.refl _
 |e::r=>by
  unfold vA
  split
  ·exact .refl _
  ·exact (j7.cons e).trans (.swap _ _ _)
theorem qb {v:β} (h:es.Perm es'):(bp t es x v).Perm (bp t es' x v):=by
 unfold bp
 rw [<-uC h]
 split
 ·exact h.map _
 ·exact j7.trans ((h.cons _).trans j7.symm)
theorem oP {v:β} (h:aR t es x=false):(es++[(x,v)]).Perm (bp t es x v):=by
 unfold bp
 rw [h,if_neg (by simp)]
 exact List.perm_append_comm.trans j7.symm
theorem w5 {v:β} (hd:KD t es) {j:Nat} {e:t.den×β} (he:es[j]?=some e) (hx:eB t x e.1=true):es.set j (x,v)=bp t es x v:=by
 unfold bp
 rw [if_pos (by unfold aR;exact List.any_eq_true.2 ⟨e,List.mem_of_getElem? he,hx⟩)]
 apply List.ext_getElem?
 intro i
 rw [List.getElem?_set,List.getElem?_map]
 split
 ·rename_i hij; subst hij
  rw [if_pos (List.getElem?_eq_some_iff.1 he).1,he]
  simp [hx]
 ·rename_i hij
  cases hi:es[i]? with
  |none=>rfl
  |some e' =>
   have hne:eB t x e'.1=false:=by
    cases h:eB t x e'.1 with
    |false=>rfl
    |true =>
     have e1:=bS hx
     subst e1
     obtain ⟨hj,q1⟩:=List.getElem?_eq_some_iff.1 he
     obtain ⟨hi',q2⟩:=List.getElem?_eq_some_iff.1 hi
     have hp:=List.pairwise_iff_getElem.1 hd
     rcases Nat.lt_or_gt_of_ne hij with h1|h1
     ·have := hp j i hj hi' h1
      rw [q1,q2,h] at this;cases this
     ·have := hp i j hi' hj h1
      rw [q1,q2,mP,h] at this;cases this
   simp [hne]
theorem KD.iG {v:β} (hd:KD t es):KD t (bp t es x v):=by
 cases hm:aR t es x with
 |false =>
  refine KD.perm (oP hm) ?_
  unfold KD
  rw [List.pairwise_append]
  refine ⟨hd,by simp,fun a ha b hb=>?_⟩
  rw [List.mem_singleton] at hb;subst hb
  rw [mP]
  exact uD hm ha
 |true =>
  unfold bp
  rw [hm,if_pos rfl]
  unfold KD
  rw [List.pairwise_map]
  refine List.Pairwise.imp ?_ hd
  intro a b h
  split<;>split
  ·rename_i h1 h2
   have e1:=bS h1
   have e2:=bS h2
   rw [<-e1,<-e2] at h
   rw [<-e1] at h1;rw [h] at h1;cases h1
  ·rename_i h1 h2
   have e1:=bS h1
   rw [<-e1] at h;exact h
  ·rename_i h1 h2
   have e1:=bS h2
   rw [<-e1] at h;exact h
  ·exact h
end
theorem lS:∀{k1 k2:List Kd} {a1 a2 b1 b2:List V} {p q:Bool},aL (bn c1 c2 c3 c4 c5 c6) k1 a1 b1=some p->aL (bn c1 c2 c3 c4 c5 c6) k2 a2 b2=some q ->
  aL (bn c1 c2 c3 c4 c5 c6) (k1++k2) (a1++a2) (b1++b2)=some (p&&q)
 |[],k2,a1,a2,b1,b2,p,q,h1,h2=>by
  cases a1<;>cases b1<;>simp [aL] at h1
  subst h1
  simpa using h2
 |k::k1,k2,as,a2,bs,b2,p,q,h1,h2=>by
  obtain ⟨a,as,b,bs,rfl,rfl⟩:=dz h1
  simp only [List.cons_append]
  cases k
  ·simp only [aL] at h1 ⊢
   split at h1<;>try (cases h1;done)
   rename_i u v hu hv
   split at h1<;>try (cases h1;done)
   rename_i r hr
   cases h1
   rw [lS hr h2]
   simp [Bool.and_assoc]
  ·cases a <;> cases b <;> simp only [aL] at h1 <;> try (cases h1; done)
   split at h1<;>try (cases h1;done)
   rename_i hk
   split at h1<;>try (cases h1;done)
   rename_i r hr
   cases h1
   simp only [aL,if_pos hk]
   rw [lS hr h2]
   simp [Bool.and_assoc]
  ·cases a <;> cases b <;> simp only [aL] at h1 <;> try (cases h1; done)
   split at h1<;>try (cases h1;done)
   rename_i r hr
   cases h1
   simp only [aL]
   rw [lS hr h2]
   simp [Bool.and_assoc]
theorem oQ : ∀ {t : Ty} {ks : List Kd} (x y : t.den), bG t = some ks → aL (bn c1 c2 c3 c4 c5 c6) ks (cG t x) (cG t y) = some (eB t x y)
 | .unit,ks,x,y,h=>by cases h;rfl
 | .bool,ks,x,y,h=>by cases h;simp [cG,aL,Ma,eB]
 | .str,ks,x,y,h=>by cases h;simp [cG,aL,eB,ByteArray.toList_eq]
 | .int k,ks,x,y,h=>by cases h;simp [cG,aL,eB]
 | .list _,ks,x,y,h=>by cases h
 | .cL _ _ _,ks,x,y,h=>by cases h
 | .prod a b,ks,x,y,h=>by
  simp only [bG] at h
  split at h<;>try (cases h;done)
  rename_i k1 k2 h1 h2
  cases h
  simp only [cG,eB]
  exact lS (oQ x.1 y.1 h1) (oQ x.2 y.2 h2)
theorem jh {ι ι' : aj} : ∀ {t : Ty} {ks : List Kd} {x : t.den} {vs : List Value}, bG t = some ks → af ι t x vs → (∀ y ws, af ι' t y ws → x = y → ws = vs) ∧ ∀ v ∈ vs, ∀ n, Instr.sameBits n v v = true
 | .unit,ks,x,vs,h,hc=>by
  simp only [af] at hc;subst hc
  exact ⟨fun y ws hw _=>by simpa [af] using hw,by simp⟩
 | .bool,ks,x,vs,h,hc=>by
  simp only [af] at hc;subst hc
  refine ⟨fun y ws hw e=>by simp only [af] at hw;rw [hw,e],fun v hv n=>?_⟩
  rw [List.mem_singleton] at hv;subst hv;cases n<;>simp [Instr.sameBits]
 | .str,ks,x,vs,h,hc=>by
  simp only [af] at hc;subst hc
  refine ⟨fun y ws hw e=>by simp only [af] at hw;rw [hw,e],fun v hv n=>?_⟩
  rw [List.mem_singleton] at hv;subst hv;cases n<;>simp [Instr.sameBits,x9]
 | .int k,ks,x,vs,h,hc=>by
  simp only [af] at hc;subst hc
  refine ⟨fun y ws hw e=>by simp only [af] at hw;rw [hw,e],fun v hv n=>?_⟩
  rw [List.mem_singleton] at hv;subst hv;cases n<;>simp [Instr.sameBits]
 | .list _,ks,x,vs,h,hc=>by cases h
 | .cL _ _ _,ks,x,vs,h,hc=>by cases h
 | .prod a b,ks,x,vs,h,hc=>by
  simp only [bG] at h
  split at h<;>try (cases h;done)
  rename_i k1 k2 h1 h2
  obtain ⟨us,ws,rfl,d1,d2⟩:=hc
  obtain ⟨p1,p2⟩:=jh (ι':=ι') h1 d1
  obtain ⟨q1,q2⟩:=jh (ι':=ι') h2 d2
  refine ⟨fun y vs hv e=>?_,fun v hv n=>?_⟩
  ·obtain ⟨us', ws', rfl, d1', d2'⟩ := hv
   rw [p1 _ _ d1' (by rw [e]),q1 _ _ d2' (by rw [e])]
  ·rcases List.mem_append.1 hv with hv | hv
   ·exact p2 v hv n
   ·exact q2 v hv n
theorem sG {em:Bool} {n:Nat} {xs:Array Value}:∀{fs:List Field} {k:Nat} {ks:List Kd},vF P k fs=some ks->k+ks.length<=xs.size ->
  (forIn (m:=Sem) fs PUnit.unit (fun f (_:PUnit) =>
   if f.name ≠ "_" then part f.type xs f.offset >>= fun p=>Instr.checkKey em (n+1) f.type p >>= fun _=>pure (ForInStep.yield PUnit.unit)
   else pure (ForInStep.yield PUnit.unit))).run P w = .ok PUnit.unit w
 |[],k,ks,h,hl=>by simp
 |f::r,k,ks,h,hl=>by
  unfold vF at h
  split at h<;>try (cases h;done)
  rename_i hn
  obtain ⟨hname,hoff⟩:=hn
  have step:∀{d:TypeDesc} {ks':List Kd},P.underlying f.type=some d->(match d with | .struct _=>false | .array _ _=>false | .interface _=>false|_=>true)=true->vF P (k+1) r=some ks'->ks.length=ks'.length+1 ->
    (forIn (m:=Sem) (f::r) PUnit.unit (fun f (_:PUnit) =>
     if f.name ≠ "_" then part f.type xs f.offset >>= fun p=>Instr.checkKey em (n+1) f.type p >>= fun _=>pure (ForInStep.yield PUnit.unit)
     else pure (ForInStep.yield PUnit.unit))).run P w = .ok PUnit.unit w:=by
   intro d ks' hu hd hks hl'
   have hagg:(isAgg f.type).run P w = .ok false w:=by
    unfold isAgg
    rw [Sem.run_bind,run_underlying hu w]
    cases d<;>simp_all
   obtain ⟨x,hx⟩:∃x,xs[k]?=some x:=⟨xs[k],Array.getElem?_eq_getElem (by omega)⟩
   have p1:(part f.type xs f.offset).run P w = .ok x w:=by simp [part,hagg,hoff,hx]
   have p2:(Instr.checkKey em (n+1) f.type x).run P w = .ok () w:=by
    unfold Instr.checkKey
    rw [Sem.run_bind,run_underlying hu w]
    cases d<;>first|(cases hd;done)|simp
   have ih:=sG (em:=em) (n:=n) (xs:=xs) hks (by omega)
   simp only [List.forIn_cons,Sem.run_bind,if_pos hname,p1,p2,Result.andThen_ok,Sem.run_pure]
   exact ih
  split at h<;>try (cases h;done)
  all_goals
   rename_i ks' hu hks
   cases h
   exact step hu rfl hks rfl
theorem uE : ∀ {t : Ty} {ks : List Kd}, bG t = some ks → t.sz = ks.length
 | .unit,ks,h=>by cases h;rfl
 | .bool,ks,h=>by cases h;rfl
 | .str,ks,h=>by cases h;rfl
 | .int k,ks,h=>by cases h;rfl
 | .list _,ks,h=>by cases h
 | .cL _ _ _,ks,h=>by cases h
 | .prod a b,ks,h=>by
  simp only [bG] at h
  split at h<;>try (cases h;done)
  rename_i k1 k2 h1 h2
  cases h
  simp [Ty.sz,uE h1,uE h2]
structure uF (P:Program) (k:TypeId) (kt:Ty) (kg:Bool) (ι:aj) (w:World) (x:kt.den) (z:Value):Prop where
 check:∀em,(Instr.checkKey em 10000 k z).run P w = .ok () w
 stays:(Instr.keyThatStays z z).run P w = .ok z w
 same:∀{y:kt.den} {z':Value},gp ι kg kt y z'->eB kt x y=true->z'=z
 find:∃A:List MapEntry->Nat->Option (Nat×Value)->Prop,(∀ms o,A ms 0 o->(Instr.findKey k z ms).run P w = .ok o w)/\(∀i,A [] i none) /\
  (∀m r i y,gp ι kg kt y m.key->eB kt x y=true->A (m::r) i (some (i,m.val)))/\∀m r i y o,gp ι kg kt y m.key->eB kt x y=false->A r (i+1) o->A (m::r) i o
theorem qc {k:TypeId} {kt:Ty} {kg:Bool} (h:xM P k=some (kt,kg)) {x:kt.den} {z:Value} (hz:gp ι kg kt x z):uF P k kt kg ι w x z:=by
 unfold xM at h
 split at h<;>try (cases h;done)
 ·rename_i i hu
  cases h
  obtain ⟨xs,h1,h2⟩:=hz
  cases h1;cases h2
  have hk:MapKept.IsKey (.int i) (.int i x):=rfl
  have q:∀{y:(Ty.int i).den} {z':Value},gp ι false (.int i) y z'->Instr.sameNow (.int i) (.int i x) z'=some (eB (.int i) x y):=fun {y z'} oG=>by
   obtain ⟨ys,h3,h4⟩:=oG
   cases h3;cases h4
   simp [Instr.sameNow,eB]
  refine ⟨fun em=>MapKept.run_checkKey hu hk em 9999,MapKept.run_keyThatStays hk,fun {y z'} oG e=>?_,fun ms i' o=>Instr.findNow (.int i) (.int i x) ms i'=some o,fun ms o h=>MapKept.run_findKey hu h,fun _=>rfl,fun m r i' y hy e=>?_,fun m r i' y o hy e h=>?_⟩
  ·obtain ⟨ys, h3, h4⟩ := oG
   cases h3;cases h4
   simp only [eB,beq_iff_eq] at e;rw [e]
  ·have:=q hy;rw [e] at this;simp [Instr.findNow,this]
  ·have:=q hy;rw [e] at this;simp [Instr.findNow,this,h]
 ·rename_i hu
  cases h
  obtain ⟨xs,h1,h2⟩:=hz
  cases h1;cases h2
  have hk:MapKept.IsKey .string (.string x):=trivial
  have q:∀{y:Ty.str.den} {z':Value},gp ι false .str y z'->Instr.sameNow .string (.string x) z'=some (eB .str x y):=fun {y z'} oG=>by
   obtain ⟨ys,h3,h4⟩:=oG
   cases h3;cases h4
   simp only [Instr.sameNow,eB,x9]
  refine ⟨fun em=>MapKept.run_checkKey hu hk em 9999,MapKept.run_keyThatStays hk,fun {y z'} oG e=>?_,fun ms i' o=>Instr.findNow .string (.string x) ms i'=some o,fun ms o h=>MapKept.run_findKey hu h,fun _=>rfl,fun m r i' y hy e=>?_,fun m r i' y o hy e h=>?_⟩
  ·obtain ⟨ys, h3, h4⟩ := oG
   cases h3;cases h4
   have:=bS e;subst this;rfl
  ·have:=q hy;rw [e] at this;simp [Instr.findNow,this]
  ·have:=q hy;rw [e] at this;simp [Instr.findNow,this,h]
 ·rename_i fs hu
  split at h<;>try (cases h;done)
  rename_i ty ks E2 hfl
  split at h<;>try (cases h;done)
  rename_i hc
  cases h
  obtain ⟨hks,hst⟩:=hc
  obtain ⟨xs,h1,h2⟩:=hz
  cases h2
  have hlen:xs.length=ks.length:=by rw [h1.length,uE hks]
  have heq:∀{y:kt.den} {z':Value},gp ι true kt y z'->(Op.equal k (.agg xs.toArray) z').run P w = .ok (eB kt x y) w:=fun {y z'} oG=>by
   obtain ⟨ys,h3,h4⟩:=oG
   cases h4
   have hfo:P.fieldsOf k=fs:=by simp [Program.fieldsOf,hu]
   have e1:=run_equalIn_struct (P:=P) w 9999 k xs.toArray ys.toArray (by rw [hfo];exact hu) hst
   rw [hfo] at e1
   have hv:=oQ (c1:=fun _ _ _ _=>True) (c2:=fun _ _ _=>True) (c3:=fun _ _ _=>True) (c4:=fun _ _ _ _=>True) (c5:=fun _ _ _ _ _ _=>True) (c6:=fun _ _ _=>True) x y hks
   have e2:=jg (d:=9998) (w:=w) (P:=P) (ι:=ι) (μ:=fun _=>none) hfl (xs:=xs.toArray) (ys:=ys.toArray) (by simpa using fD h1) (by simpa using fD h3) hv
   exact e1.trans e2
  refine ⟨fun em=>?_,?_,fun {y z'} oG e=>?_,fun ms i' o=>(Instr.findAsking k (.agg xs.toArray) ms i').run P w = .ok o w,fun ms o h=>?_,fun _=>rfl,fun m r i' y hy e=>?_,fun m r i' y o hy e h=>?_⟩
  ·show (Instr.checkKey em (9999 + 1) k _).run P w = _
   unfold Instr.checkKey
   rw [Sem.run_bind,run_underlying hu w]
   simp only [Result.andThen_ok]
   rw [<-Array.forIn_toList]
   rw [Sem.run_bind]
   have:=sG (P:=P) (w:=w) (em:=em) (n:=9998) (xs:=xs.toArray) hfl (by simp [hlen])
   erw [this]
   rfl
  ·have hs:Instr.sameBits 10000 (.agg xs.toArray) (.agg xs.toArray)=true:=by
    show Instr.sameBits (9999+1) _ _=true
    simp only [Instr.sameBits,beq_self_eq_true,Bool.true_and,List.all_eq_true]
    intro p hp
    obtain ⟨i,hi,e⟩:=List.getElem_of_mem hp
    rw [List.getElem_zip] at e
    rw [<-e]
    exact (jh (ι':=ι) hks h1).2 _ (List.getElem_mem _) 9999
   simp [Instr.keyThatStays,hs]
  ·obtain ⟨ys, h3, h4⟩ := oG
   cases h4
   rw [(jh (ι':=ι) hks h1).1 _ _ h3 (bS e)]
  ·rw [run_findKey_eq w (by rw [hu])];exact h
  ·have:=heq hy;rw [e] at this;simp [Instr.findAsking,this]
  ·have:=heq hy;rw [e] at this;simp [Instr.findAsking,this,h]
theorem OW {kt vt : Ty} {kg vg : Bool} {x : kt.den} {z : Value} {A : List MapEntry → Nat → Option (Nat × Value) → Prop} (hsame : ∀ {y : kt.den} {z' : Value}, gp ι kg kt y z' → eB kt x y = true → z' = z) (h0 : ∀ i, A [] i none)
  (hy1:∀m r i y,gp ι kg kt y m.key->eB kt x y=true->A (m::r) i (some (i,m.val))) (SR:∀m r i y o,gp ι kg kt y m.key->eB kt x y=false->A r (i+1) o->A (m::r) i o) (dflt:vt.den) :
  ∀{es:List (kt.den×vt.den)} {ms:List MapEntry} (i:Nat),fC ι kt kg vt vg es ms ->
  (aR kt es x=false/\A ms i none) \/
  (aR kt es x=true/\∃j m,A ms i (some (i+j,m.val))/\ms[j]?=some m/\m.key=z/\gp ι vg vt (ay kt dflt es x) m.val/\∃e,es[j]?=some e/\eB kt x e.1=true)
 |[],ms,i,h=>by simp [fC] at h;subst h;exact .inl ⟨rfl,h0 i⟩
 |e::es,ms,i,h=>by
  obtain ⟨m,r,rfl,h1,h2,h3⟩:=h
  cases hd:eB kt x e.1 with
  |true=>exact .inr ⟨by simp [aR,hd],0,m,hy1 m r i _ h1 hd,rfl,hsame h1 hd,by simp [ay,hd];exact h2,e,rfl,hd⟩
  |false =>
   rcases OW hsame h0 hy1 SR dflt (i+1) h3 with ⟨r1,r2⟩|⟨r1,j,m',r2,r3,r4,r5,e',r6,r7⟩
   ·refine .inl ⟨?_, SR m r i _ _ h1 hd r2⟩
    simp only [aR] at r1 ⊢
    simp [hd,r1]
   ·refine .inr ⟨?_, j + 1, m', ?_, by simpa using r3, r4, by simp [ay, hd]; exact r5, e', by simpa using r6, r7⟩
    ·simp only [aR] at r1 ⊢
     simp [hd,r1]
    ·have := SR m r i _ _ h1 hd r2
     rwa [show i+1+j=i+(j+1) by omega] at this
theorem Be {k:TypeId} {kt vt:Ty} {kg vg:Bool} {x:kt.den} {z:Value} (hk:uF P k kt kg ι w x z) (dflt:vt.den) {es:List (kt.den×vt.den)} {ms:List MapEntry} (h:fC ι kt kg vt vg es ms) :
  (aR kt es x=false/\(Instr.findKey k z ms).run P w = .ok none w) \/
  (aR kt es x=true/\∃j m,(Instr.findKey k z ms).run P w = .ok (some (j,m.val)) w/\ms[j]?=some m/\m.key=z/\gp ι vg vt (ay kt dflt es x) m.val/\∃e,es[j]?=some e/\eB kt x e.1=true):=by
 obtain ⟨A,a1,a2,a3,a4⟩:=hk.find
 rcases OW hk.same a2 a3 a4 dflt 0 h with ⟨r1,r2⟩|⟨r1,j,m,r2,r3,r4,r5,r6⟩
 ·exact .inl ⟨r1,a1 _ _ r2⟩
 ·exact .inr ⟨r1,j,m,by have:=a1 _ _ r2;rwa [Nat.zero_add] at this,r3,r4,r5,r6⟩
theorem fC.set {kt vt : Ty} {kg vg : Bool} {x : kt.den} {y : vt.den} {z zv : Value} (hx : gp ι kg kt x z) (hy : gp ι vg vt y zv) : ∀ {es : List (kt.den × vt.den)} {ms : List MapEntry} {j : Nat} {m : MapEntry}, fC ι kt kg vt vg es ms → m.key = z → m.val = zv → fC ι kt kg vt vg (es.set j (x, y)) (ms.set j m)
 |[],ms,j,m,h,_,_=>by simp [fC] at h;subst h;simp [fC]
 |e::es,ms,0,m,h,hk,hv=>by
  obtain ⟨m0,r,rfl,h1,h2,h3⟩:=h
  exact ⟨m,r,rfl,by rw [hk];exact hx,by rw [hv];exact hy,h3⟩
 |e::es,ms,j+1,m,h,hk,hv=>by
  obtain ⟨m0,r,rfl,h1,h2,h3⟩:=h
  exact ⟨m0,r.set j m,rfl,h1,h2,fC.set hx hy h3 hk hv⟩
theorem fC.snoc {kt vt : Ty} {kg vg : Bool} {x : kt.den} {y : vt.den} {m : MapEntry} (hx : gp ι kg kt x m.key) (hy : gp ι vg vt y m.val) : ∀ {es : List (kt.den × vt.den)} {ms : List MapEntry}, fC ι kt kg vt vg es ms → fC ι kt kg vt vg (es ++ [(x, y)]) (ms ++ [m])
 |[],ms,h=>by simp [fC] at h;subst h;exact ⟨m,[],rfl,hx,hy,rfl⟩
 |e::es,ms,h=>by
  obtain ⟨m0,r,rfl,h1,h2,h3⟩:=h
  exact ⟨m0,r++[m],rfl,h1,h2,fC.snoc hx hy h3⟩
theorem eP {bl:ah} {kt vt:Ty} {kg vg:Bool} {id:Nat} {es:List (kt.den×vt.den)} (h:jH bl kt kg vt vg id=some es):av id bl=some (.map kt kg vt vg es):=by
 unfold jH at h
 split at h<;>try (cases h;done)
 rename_i Od XG Oe Tc es' hb
 split at h<;>try (cases h;done)
 rename_i hg
 obtain ⟨rfl,rfl⟩:=hg
 unfold Jv at h
 split at h<;>try (cases h;done)
 rename_i hc
 obtain ⟨rfl,rfl⟩:=hc
 cases h
 exact hb
theorem HX {e:TypeId} {vt:Ty} {vg:Bool} (h:A2 P e=some (vt,vg)):∃z,(∀w:World,(zeroValue e).run P w = .ok z w)/\gp ι vg vt vt.zero z:=by
 unfold A2 at h
 split at h<;>try (cases h;done)
 rename_i ty g i _ _ hi
 split at h<;>try (cases h;done)
 rename_i z hz
 have hrun:∀w:World,(zeroValue e).run P w = .ok z w:=fun w=>by simp [zeroValue,typeInfo,hi,hz]
 split at h<;>try (cases h;done)
 rename_i h0
 split at h<;>try (cases h;done)
 rename_i hg
 cases h
 obtain ⟨us,e1,hd⟩:=gF (ι:=ι) h0
 rw [List.append_nil] at e1
 refine ⟨z,hrun,us,hd,?_⟩
 rw [<-e1,<-hg]
 cases z<;>simp [HP,iC,Value.cells]
theorem kN {t:TypeId} {kt vt:Ty} {kg vg:Bool} (h:kG P t=some (kt,kg,vt,vg)):∃k e,P.underlying t=some (.map k e)/\xM P k=some (kt,kg)/\A2 P e=some (vt,vg):=by
 unfold kG at h
 split at h<;>try (cases h;done)
 rename_i k e hu
 split at h<;>try (cases h;done)
 rename_i Od XG Oe Tc hk hv
 cases h
 exact ⟨k,e,hu,hk,hv⟩
theorem E7 (h:Inv P Y ι μ H w) {aD:Nat} (hn:μ aD=none) (t:TypeId) (kt vt:Ty) (kg vg:Bool) :
  ∃μ' x w',(Instr.makeMap t none).run P w = .ok x w'/\μ.le μ'/\(∀id,id≠aD->μ' id=μ id)/\Inv P Y ι μ' ⟨max H.next (aD+1),(aD,.map kt kg vt vg [])::bC aD H.bl⟩ w'/\Rel ι μ' (.mp aD) x:=by
 let L:Loc:=⟨w.heap.size,0,0,0⟩
 have hle:=Mu.gd (L:=L) hn
 have iw:μ.set aD L aD=some L:=by simp [Mu.set]
 refine ⟨_,_,w.alloc (.map #[] 0),rfl,hle,Mu.uz,h.lay hn (L:=L) rfl ⟨L,#[],0,[],iw,.inl h.below.size,?_,rfl,by simp,by simp,.refl _,.nil⟩,.mp _ L iw⟩
 show (w.heap.push _)[w.heap.size]?=_
 simp
theorem HY (h : Inv P Y ι μ H w) {aD : Nat} {t : TypeId} {kt vt : Ty} {kg vg ok : Bool} (ht : kG P t = some (kt, kg, vt, vg)) {va vi : V} {a ix : Value} (ha : Rel ι μ va a) (hi : Rel ι μ vi ix) {ob : List Bool} {v : V} {u : eZ}
  (ag:iH (bn c1 c2 c3 c4 c5 c6) (.iF kt kg vt vg ok) [va,vi] H.bl aD=some (ob,v,u)):u=[]/\∃y,(Instr.lookup t a ix ok).run P w = .ok y w/\Rel ι μ v y:=by
 obtain ⟨k,e,hu,hk,hv⟩:=kN ht
 simp only [iH] at ag
 split at ag<;>try (cases ag;done)
 rename_i x hx
 have mj:uF P k kt kg ι w x ix:=qc hk (uB hx hi)
 obtain ⟨z0,JJ,hz1⟩:=HX (ι:=ι) hv
 have fin:∀{b:Bool} {y:vt.den} {yv:Value},gp ι vg vt y yv->Rel ι μ (if ok=true then V.dc [cG.jc vg (cG vt y),.bool b] else cG.jc vg (cG vt y)) (if ok=true then .tuple #[yv,.bool b] else yv):=fun {b y yv} hy=>by
  cases ok with
  |false=>exact hy.rel
  |true =>
   refine .dc _ _ rfl (fun i v x hv hx=>?_)
   match i with
   |0=>simp at hv hx;subst hv;subst hx;exact hy.rel
   |1=>simp at hv hx;subst hv;subst hx;exact .bool _
   |i+2=>simp at hv
 split at ag<;>try (cases ag;done)
 rename_i es Eu
 have hout:u=[]/\v=(if ok=true then V.dc [cG.jc vg (cG vt (ay kt vt.zero es x)),.bool (aR kt es x)] else cG.jc vg (cG vt (ay kt vt.zero es x))):=by
  cases ok<;>cases ag<;>exact ⟨rfl,rfl⟩
 obtain ⟨rfl,rfl⟩:=hout
 refine ⟨rfl,?_⟩
 cases ha<;>simp only at Eu<;>try (cases Eu;done)
 case mp id L hL =>
  have hb:=eP Eu
  obtain ⟨L',ms,clock,dJ,h1,h2,h3,h4,h5,h6,h7,h8⟩:=h.live _ _ hb
  rw [hL] at h1;cases h1
  have hge:ay kt vt.zero es x=ay kt vt.zero dJ x:=(Bc h7 h8 (h8.perm h7)).symm
  have hhe:aR kt es x=aR kt dJ x:=(uC h7).symm
  rw [hge,hhe]
  rcases Be mj vt.zero h4 with ⟨r1,r2⟩|⟨r1,j,m,r2,r3,r4,r5,_⟩
  ·refine ⟨_, ?_, fin (b := aR kt dJ x) (yv := z0) (by rw [gL r1]; exact hz1)⟩
   rw [r1]
   cases ok<;>simp [Instr.lookup,run_underlying hu,MapKept.run_getObj_map h3,mj.check,r2,JJ]
  ·refine ⟨_, ?_, fin (b := aR kt dJ x) r5⟩
   rw [r1]
   cases ok<;>simp [Instr.lookup,run_underlying hu,MapKept.run_getObj_map h3,mj.check,r2]
 case cT =>
  cases Eu
  refine ⟨_,?_,fin (b:=false) (yv:=z0) hz1⟩
  obtain ⟨A,a1,a2,_⟩:=mj.find
  have r2:(Instr.findKey k ix []).run P w = .ok none w:=a1 _ _ (a2 0)
  cases ok<;>simp [Instr.lookup,run_underlying hu,mj.check,r2,JJ]
theorem HZ (h : Inv P Y ι μ H w) {aD : Nat} {t : TypeId} {kt vt : Ty} {kg vg : Bool} (ht : kG P t = some (kt, kg, vt, vg)) {va vi vv : V} {a ix z : Value} (ha : Rel ι μ va a) (hi : Rel ι μ vi ix) (hz : Rel ι μ vv z) {ob : List Bool} {v : V} {u : eZ}
  (ag:iH (bn c1 c2 c3 c4 c5 c6) (.iG kt kg vt vg) [va,vi,vv] H.bl aD=some (ob,v,u)):∃w',(Instr.mapUpdate t a ix z).run P w = .ok () w'/\Inv P Y ι μ ⟨H.next,bF u H.bl⟩ w'/\v = .any:=by
 obtain ⟨k,e,hu,hk,hv⟩:=kN ht
 simp only [iH] at ag
 split at ag<;>try (cases ag;done)
 rename_i id k' v' heq
 simp only [List.cons.injEq,and_true] at heq
 obtain ⟨rfl,rfl,rfl⟩:=heq
 split at ag<;>try (cases ag;done)
 rename_i x hx
 split at ag<;>try (cases ag;done)
 rename_i y hy
 split at ag<;>try (cases ag;done)
 rename_i es Eu
 cases ag
 have hb:=eP Eu
 have hvx:=uB hx hi
 have hvy:=uB hy hz
 have mj:uF P k kt kg ι w x ix:=qc hk hvx
 cases ha with
 |mp _ L hL =>
 obtain ⟨L',ms,clock,dJ,h1,h2,h3,h4,h5,h6,h7,h8⟩:=h.live _ _ hb
 rw [hL] at h1;cases h1
 have hlt:L.b<w.heap.size:=(Array.getElem?_eq_some_iff.1 h3).1
 rcases Be mj vt.zero h4 with ⟨r1,r2⟩|⟨r1,j,m,r2,r3,r4,_,e0,r5,r6⟩
 ·refine ⟨w.putObj L.b (.map (ms.push { key := ix, val := z, born := clock }) (clock + 1)), ?_, ?_, rfl⟩
  ·simp [Instr.mapUpdate,run_underlying hu,MapKept.run_getObj_map h3,mj.check,r2,MapKept.run_setObj_map _ h3,World.putObj]
  ·refine h.JI hb hL h3 (by simp) (fun ms' c' e => by cases e; exact ⟨_, _, rfl, by simp [Array.toList_push, List.map_append], Nat.le_succ _⟩) ⟨L, _, _, dJ ++ [(x, y)], hL, h2, World.putObj_heap_same hlt, ?_, ?_, ?_, (oP r1).trans (qb h7), KD.perm (oP r1).symm h8.iG⟩
   ·show fC ι kt kg vt vg _ _
    rw [Array.toList_push]
    exact h4.snoc hvx hvy
   ·intro m hm
    simp only [Array.toList_push,List.mem_append,List.mem_singleton] at hm
    rcases hm with hm|rfl
    ·exact Nat.lt_succ_of_lt (h5 m hm)
    ·exact Nat.lt_succ_self _
   ·simp only [Array.toList_push, List.map_append, List.map_cons, List.map_nil]
    refine List.nodup_append.2 ⟨h6,by simp,?_⟩
    intro p hp q hq
    simp only [List.mem_singleton] at hq
    subst hq
    obtain ⟨m,hm,rfl⟩:=List.mem_map.1 hp
    exact Nat.ne_of_lt (h5 m hm)
 ·have hj : ms[j]? = some m := by simpa using r3
  refine ⟨w.putObj L.b (.map (ms.modify j fun e=>{ e with key:=ix,val:=z }) clock),?_,?_,rfl⟩
  ·have := mj.stays
   simp [Instr.mapUpdate,run_underlying hu,MapKept.run_getObj_map h3,mj.check,r2,hj,r4,this,MapKept.run_setObj_map _ h3,World.putObj]
  ·have hml:(ms.modify j fun e=>{ e with key:=ix,val:=z }).toList=ms.toList.set j { m with key:=ix,val:=z }:=by
    apply List.ext_getElem?
    intro i
    simp only [Array.getElem?_toList,Array.getElem?_modify,List.getElem?_set]
    by_cases e:j=i
    ·subst e
     obtain ⟨q1,q2⟩:=Array.getElem?_eq_some_iff.1 hj
     simp [hj,q1,q2]
    ·simp [e]
   have hbk:(ms.toList.set j { m with key:=ix,val:=z }).map (fun m=>(m.born,m.key))=ms.toList.map fun m=>(m.born,m.key):=by
    rw [List.map_set]
    apply List.ext_getElem?
    intro i
    simp only [List.getElem?_set,List.getElem?_map,List.length_map]
    by_cases e:j=i
    ·subst e
     obtain ⟨q1,q2⟩:=Array.getElem?_eq_some_iff.1 hj
     simp [hj,q1,q2,r4]
    ·simp [e]
   have yb:(ms.toList.set j { m with key:=ix,val:=z }).map (·.born)=ms.toList.map (·.born):=by
    have:=congrArg (List.map Prod.fst) hbk
    simpa [List.map_map,Function.comp_def] using this
   refine h.JI hb hL h3 (by simp) (fun ms' c' e=>by cases e;exact ⟨_,_,rfl,by rw [hml,hbk];exact List.prefix_refl _,Nat.le_refl _⟩) ⟨L,_,_,dJ.set j (x,y),hL,h2,World.putObj_heap_same hlt,?_,?_,?_,by rw [w5 h8 r5 r6];exact qb h7,by rw [w5 h8 r5 r6];exact h8.iG⟩
   ·show fC ι kt kg vt vg _ _
    rw [hml]
    exact fC.set hvx hvy h4 rfl rfl
   ·intro m' hm'
    rw [hml] at hm'
    have:m'.born∈(ms.toList.set j { m with key:=ix,val:=z }).map (·.born):=List.mem_map.2 ⟨m',hm',rfl⟩
    rw [yb] at this
    obtain ⟨m2,hm2,e2⟩:=List.mem_map.1 this
    rw [<-e2];exact h5 m2 hm2
   ·rw [hml,yb];exact h6
theorem H6 (h : Inv P Y ι μ H w) {aD : Nat} {t k e ty : TypeId} (hu : P.underlying t = some (.map k e)) {va : V} {a : Value} (ha : Rel ι μ va a) {ob : List Bool} {v : V} {u : eZ}
  (ag:iH (bn c1 c2 c3 c4 c5 c6) .S7 [va] H.bl aD=some (ob,v,u)):u=[]/\∃y,(Builtin.len_ #[t] ty #[a]).run P w = .ok y w/\Rel ι μ v y:=by
 simp only [iH] at ag
 split at ag<;>try (cases ag;done)
 ·rename_i id heq
  simp only [List.cons.injEq,and_true] at heq
  subst heq
  split at ag<;>try (cases ag;done)
  rename_i es hb
  cases ag
  cases ha with
  |mp _ L hL =>
   obtain ⟨L',ms,clock,dJ,h1,h2,h3,h4,_,_,h7,_⟩:=h.live _ _ hb
   rw [hL] at h1;cases h1
   have:=h4.length.trans h7.length_eq
   simp only [Array.length_toList] at this
   refine ⟨rfl,.int .i64 es.length,?_,.int _ _⟩
   simp [Builtin.len_,run_underlying hu,MapKept.run_getObj_map h3,goInt,this]
 ·rename_i heq
  simp only [List.cons.injEq,and_true] at heq
  subst heq
  cases ag
  cases ha
  exact ⟨rfl,.int .i64 0,by simp [Builtin.len_,run_underlying hu,goInt],.int _ _⟩
theorem oR (zs:List Value):∀(m:Nat),((Array.range (m * zs.length)).map (fun i=>zs.toArray[i % zs.toArray.size]!)).toList=(List.replicate m zs).flatten:=by
 intro m
 apply List.ext_getElem?
 intro i
 induction m generalizing i with
 |zero=>simp
 |succ m ih =>
  rw [List.replicate_succ,List.flatten_cons]
  by_cases hi:i<zs.length
  ·rw [List.getElem?_append_left hi]
   have:i<(m+1) * zs.length:=by rw [Nat.add_mul];omega
   simp [this,Nat.mod_eq_of_lt hi,hi]
  ·rw [List.getElem?_append_right (by omega), ← ih]
   by_cases h2:i<(m+1) * zs.length
   ·have h3 : i - zs.length < m * zs.length := by rw [Nat.add_mul, Nat.one_mul] at h2; omega
    have h4:i % zs.length=(i - zs.length) % zs.length:=by
     rw [Nat.mod_eq_sub_mod (by omega)]
    simp [h2,h3,h4]
   ·have h3 : ¬ i - zs.length < m * zs.length := by rw [Nat.add_mul, Nat.one_mul] at h2; omega
    simp [h2,h3]
theorem E8 (h:Inv P Y ι μ H w) {src dst e:TypeId} (hs:P.underlying src=some .string) (hd:P.underlying dst=some (.slice e)) (he:P.underlying e=some (.int .u8)) {s:ByteArray} :
  ∃ι' x w',(convert src dst (.string s)).run P w = .ok x w'/\ι.le ι'/\Inv P Y ι' μ H w'/\Rel ι' μ (.fM (.int .u8) (b8 s)) x:=by
 let cells:Array Value:=(s.data.map fun b=>Value.int .u8 b.toNat)++Array.replicate (grownCap w s.size 0 e - s.size) (.int .u8 0)
 have hrun:(convert src dst (.string s)).run P w = .ok (.slice (some ⟨w.heap.size,0,none⟩) s.size (grownCap w s.size 0 e)) (w.drew.alloc (.cells cells e (cells.size,cells.size+1))):=by
  have hfr:(w.drew.alloc (.cells cells e)).freeze { block:=w.heap.size,off:=cells.size } 1=w.drew.alloc (.cells cells e (cells.size,cells.size+1)):=by
   have hh:(w.heap.push (.cells cells e)).modify w.heap.size (fun
     | .cells c elem (lo,hi)=>.cells c elem (if lo==hi then (cells.size,cells.size+1) else (min lo cells.size,max hi (cells.size+1)))
     |o=>o)=w.heap.push (.cells cells e (cells.size,cells.size+1)):=by
    apply Array.ext_getElem?
    intro i
    rw [Array.getElem?_modify]
    by_cases hi:w.heap.size=i
    ·subst hi;simp
    ·simp [hi,Array.getElem?_push,Ne.symm hi]
   unfold World.freeze
   rw [if_neg (by decide)]
   exact congrArg (fun h=>({ w.drew.alloc (.cells cells e) with heap:=h }:World)) hh
  have ZD:(w.drew.alloc (.cells cells e)).shape? w.heap.size=some (e,cells.size):=by
   have:(w.drew.alloc (.cells cells e)).heap[w.heap.size]?=some (.cells cells e):=by
    show (w.heap.push _)[_]?=_
    simp
   unfold World.shape?
   rw [this]
  have hg:(choose (.appendCap s.size 0 e)).run P w = .ok (grownCap w s.size 0 e) w.drew:=by
   rw [run_choose_drew];rfl
  have aeb:(convert src dst (.string s)).run P w=(Conv.stringToBytes e s).run P w:=by
   simp [convert,run_underlying hs,run_underlying hd,run_underlying he]
  rw [aeb]
  have hnew:(newObj (.cells cells e)).run P w.drew = .ok w.heap.size (w.drew.alloc (.cells cells e)):=rfl
  simp only [Conv.stringToBytes,Sem.run_bind,hg,Result.andThen_ok,newRow,markStringish]
  rw [show (s.data.map fun b=>Value.int .u8 b.toNat)++Array.replicate (grownCap w s.size 0 e - s.size) (.int .u8 0)=cells from rfl,hnew]
  simp only [Result.andThen_ok,Sem.run_pure,Sem.run_bind,run_shape,ZD,run_freeze,hfr]
 have nG:∀(j:Nat) v,((b8 s).map (Value.int .u8))[j]?=some v->cells[j]?=some v:=fun j v hv=>by
  have hj:j<s.data.size:=by have:=(List.getElem?_eq_some_iff.1 hv).1;simpa [b8] using this
  simp only [cells]
  rw [Array.getElem?_append_left (by simpa using hj)]
  simpa [b8] using hv
 obtain ⟨ι',h1,h2,h3⟩:=h.drew.Tk (c:=cells) (e:=e) (f:=(cells.size,cells.size+1)) nG
 have fc:∀(zs:List Int),bx (af ι' (.int .u8)) zs (zs.map (Value.int .u8)):=fun zs=>by
  induction zs with
  |nil=>rfl
  |cons z zs ih=>exact ⟨[.int .u8 z],_,rfl,rfl,ih⟩
 have hl:(b8 s).length=s.size:=by simp [b8]
 refine ⟨ι',_,_,hrun,h1,h2,.fM _ _ _ ⟨some ⟨w.heap.size,0,none⟩,grownCap w s.size 0 e,by rw [hl],by rw [hl];exact grownCap_ge w s.size 0 e,.inr ⟨_,_,_,rfl,h3,fc _⟩⟩⟩
theorem Bf {t : Ty} : ∀ {m : Nat} {vs r : List Value}, Jx t m vs = some r → ∃ us, vs = us ++ r ∧ bx (af ι t) (List.replicate m t.zero) us
 |0,vs,r,h=>by cases h;exact ⟨[],rfl,rfl⟩
 |m+1,vs,r,h=>by
  simp only [Jx] at h
  split at h<;>try (cases h;done)
  rename_i r1 h1
  obtain ⟨us,rfl,hu⟩:=gF (ι:=ι) h1
  obtain ⟨ws,rfl,hw⟩:=Bf h
  exact ⟨us++ws,by simp,us,ws,rfl,hu,hw⟩
theorem OX (h:Inv P Y ι μ H w) {aD:Nat} (hn:μ aD=none) {t:Ty} {ys:List t.den} {xs:List Value} (hr:bx (af ι t) ys xs) (e:TypeId) {n:Nat} (hl:ys.length=n) :
  ∃μ',μ.le μ'/\(∀id,id≠aD->μ' id=μ id)/\Inv P Y ι μ' ⟨max H.next (aD+1),(aD,.arr t ys false)::bC aD H.bl⟩ (w.alloc (.cells xs.toArray e))/\Rel ι μ' (.pa aD t n) (.pointer (some ⟨w.heap.size,0,none⟩)):=by
 let L:Loc:=⟨w.heap.size,0,xs.length,ys.length⟩
 have hle:=Mu.gd (L:=L) hn
 have iw:μ.set aD L aD=some L:=by simp [Mu.set]
 have hfree:∀o,ι w.heap.size o=none:=fun o=>by
  cases wG:ι w.heap.size o with
  |none=>rfl
  |some y=>have:=World.block_lt_of_cell? _ _ (h.rd _ _ _ wG);simp at this
 refine ⟨_,hle,Mu.uz,h.lay hn (L:=L) rfl (.inr ⟨L,xs,⟨iw,(.inl h.below.size),⟨xs.toArray,e,?_,by simp [L],fun j v hv=>by simpa [L] using hv⟩,by simp [L],
  bx.one (fun _ _=>af.one) hr,(fun e=>by cases e),fun _=>hfree⟩,hr,rfl⟩),.pa _ _ _ L iw hl⟩
 show (w.heap.push _)[w.heap.size]?=_
 simp
theorem E9 (h : Inv P Y ι μ H w) {aD : Nat} {t e : TypeId} {ty : Ty} {k : Nat} {i : TypeInfo} {z : Value} (ht : P.underlying t = some (.slice e)) (hi : P.info? e = some i) (hz : i.zero = some z)
  (h0:eN ty z.cells.toList=some []) {tt:TypeId} {va:V} {a:Value} (ha:Rel ι μ va a) {ob:List Bool} {v:V} {u:eZ}
  (ag:iH (bn c1 c2 c3 c4 c5 c6) (.clear ty) [va] H.bl aD=some (ob,v,u)):∃w',(Builtin.clear_ #[t] tt #[a]).run P w = .ok (.tuple #[]) w'/\Inv P Y ι μ ⟨H.next,bF u H.bl⟩ w'/\Rel ι μ v (.tuple #[]):=by
 have hzv:∀w:World,(zeroValue e).run P w = .ok z w:=fun w=>by simp [zeroValue,typeInfo,hi,hz]
 obtain ⟨us,Hw,hcell⟩:=gF (ι:=ι) h0
 simp only [List.append_nil] at Hw
 simp only [iH] at ag
 split at ag<;>try (cases ag;done)
 rename_i id t' lo n heq
 simp only [List.cons.injEq,and_true] at heq
 subst heq
 split at ag<;>try (cases ag;done)
 rename_i e1;subst e1
 split at ag<;>try (cases ag;done)
 rename_i t'' xs hb
 split at ag<;>try (cases ag;done)
 rename_i e1;subst e1
 cases ag
 have htup:Rel ι μ (.dc []) (.tuple #[]):=.dc _ _ rfl (fun i v x hv=>by simp at hv)
 have zero:∀(a0:Option Addr) (c:Nat),n=0->∃w',(Builtin.clear_ #[t] tt #[.slice a0 n c]).run P w = .ok (.tuple #[]) w'/\Inv P Y ι μ ⟨H.next,bF [(id,some (.arr t' (xJ t'.zero xs lo n) false))] H.bl⟩ w'/\Rel ι μ (.dc []) (.tuple #[]):=fun a0 c hn=>by
  subst hn
  refine ⟨w,?_,?_,htup⟩
  ·cases a0<;>simp [Builtin.clear_,run_underlying ht]
  ·have : xJ t'.zero xs lo 0 = xs := by simp [xJ]
   rw [this]
   exact h.same hb (h.live _ _ hb)
 cases ha with
 |bO _ _ _ a0=>exact zero a0 0 rfl
 |sl _ _ _ _ cap L hm h1 h2 h3 =>
  by_cases hn:n=0
  ·exact zero _ cap hn
  rcases h.live _ _ hb with ⟨_,hn'⟩|⟨L',vs,hM,hR,hl⟩
  ·rw [hn'] at hm;cases hm
  ·rw [hM.mu] at hm; cases hm
   have hul:us.length=t'.sz:=hcell.length
   have ZA:(Builtin.zeroCells z.cells n).toList=(List.replicate n us).flatten:=by
    rw [<-Hw]
    rw [<-oR z.cells.toList n]
    simp [Builtin.zeroCells]
   have OY:=bx.rep hcell n
   have mN:=OY.length (fun _ _=>af.length)
   simp only [List.length_replicate] at mN
   have hvl:=hR.length (fun _ _=>af.length)
   have hf:=hM.fits
   have hmul:lo * t'.sz+n * t'.sz<=vs.length:=by
    rw [hvl,<-Nat.add_mul]
    exact Nat.mul_le_mul_right _ (by omega)
   have Zt:w.there L.b (L.ba+lo * t'.sz) ((List.replicate n us).flatten).length:=hM.there (by omega) (by rw [mN];omega)
   have h1c:∀v∈(List.replicate n us).flatten,v.oneCell'=true:=bx.one (fun _ _=>af.one) OY
   have hst:=run_storeCells_cells (P:=P) L.b (L.ba+lo * t'.sz) (List.replicate n us).flatten 0 w (fun j hj=>(Zt j hj).1) (fun j hj=>(Zt j hj).2) h1c
   refine ⟨w.setCells L.b (L.ba+lo * t'.sz) (List.replicate n us).flatten,?_,?_,htup⟩
   ·obtain ⟨m, rfl⟩ : ∃ m, n = m + 1 := ⟨n - 1, by omega⟩
    simp only [Nat.add_zero] at hst
    simp [Builtin.clear_,run_underlying ht,hzv,ZA,hst]
   ·have hw := hM.write (d := lo * t'.sz) (us := (List.replicate n us).flatten) (by rw [mN]; omega) h1c
    refine h.store hb hM.mu (hM.sk rfl) (.inr ⟨L,_,hw,?_,by simp [xJ,hl];omega⟩)
    have hA:=(hR.take (fun _ _=>af.length) lo)
    have hD:=(hR.drop (fun _ _=>af.length) (lo+n))
    rw [mN,<-Nat.add_mul]
    exact (hA.append OY).append hD
end
end Go.AM
end
section
namespace Go.AM
section
variable {P : Program} {Y : Ctx} {ι ι' : aj} {μ μ' : Mu} {H : aF} {w w' : World}
 {c1:Nat->List V->aF->(V->aF->Prop)->Prop} {c2:Nat->List V->V->Prop} {c3:C->St->(Ex->St->Prop)->Prop}
 {c4:Nat->List V->aF->(V->aF->Prop)->Prop} {c5:O->List Nat->C->C->St->(Ex->St->Prop)->Prop} {c6:C->St->(Ex->St->Prop)->Prop}
theorem OZ (ys:List Int):∀s:ByteArray,ys.foldl (fun r n=>r.push (UInt8.ofNat n.toNat)) s=⟨s.data++(ys.map fun z=>UInt8.ofNat z.toNat).toArray⟩:=by
 induction ys with
 |nil=>intro s;simp
 |cons y ys ih =>
  intro s
  rw [List.foldl_cons,ih]
  simp [ByteArray.push]
theorem JK : ∀ {ys : List Int} {us : List Value}, bx (af ι (.int .u8)) ys us → us = ys.map (Value.int .u8)
 |[],us,h=>h
 |y::ys,us,h=>by
  obtain ⟨a,b,rfl,h1,h2⟩:=h
  rw [JK h2]
  have h1:a=[.int .u8 y]:=h1
  subst h1
  rfl
theorem H7 (h : Inv P Y ι μ H w) {src dst e : TypeId} (hs : P.underlying src = some (.slice e)) (hd : P.underlying dst = some .string) (he : P.underlying e = some (.int .u8)) {v : V} {x : Value} {ys : List Int}
  (hy:elems (bn c1 c2 c3 c4 c5 c6) H.bl (.int .u8) v=some ys) (hr:Rel ι μ v x):(convert src dst x).run P w = .ok (.string (dM ys)) w:=by
 obtain ⟨news,hsrc,fc⟩:=uA h (t:=.int .u8) hs hy hr
 have hn:=JK fc
 subst hn
 have hx:∃a n cap,x = .slice a n cap:=by
  unfold elems at hy
  split at hy<;>try (cases hy;done)
  ·cases hr;exact ⟨_,_,_,rfl⟩
  ·cases hr with
   |fM _ _ _ hd =>
    obtain ⟨a,cap,e,hle,hd⟩:=hd
    cases e
    exact ⟨_,_,_,rfl⟩
  ·cases hr<;>exact ⟨_,_,_,rfl⟩
 obtain ⟨a,n,cap,rfl⟩:=hx
 have hl:=hsrc.len w
 have hn:n=ys.length:=by simpa [Builtin.lenOf] using hl
 rw [run_convert_bytes_string w src dst e a n cap hs he hd]
 have hc:=hsrc.cells
 cases a with
 |none =>
  simp only [run_firstCells_none] at hc
  have:ys=[]:=by
   cases ys with
   |nil=>rfl
   |cons y ys=>simp at hc
  subst this
  simp [Conv.bytesToString,dM]
  rfl
 |some a =>
  simp only [Builtin.firstCells] at hc
  rw [run_bytesToString w a n cap ys (by rw [hn];simpa [Ty.sz] using hc),OZ]
  simp [dM]
theorem qA {s:TypeId} {f n:Nat} {fd:Field} (h:sx P s f=some (fd,n)):∃fs,P.underlying s=some (.struct fs)/\fs[f]?=some fd:=by
 unfold sx at h
 split at h<;>try (cases h;done)
 rename_i fs hu
 split at h<;>try (cases h;done)
 rename_i fd' hf
 cases h
 exact ⟨fs,hu,hf⟩
theorem j8 {t:TypeId} {k:Nat} (h:dm P t=some k):∃i,P.info? t=some i/\i.size=k/\∀w:World,(sizeOf t).run P w = .ok k w:=by
 unfold dm at h
 cases hq:P.info? t with
 |none=>simp [hq] at h
 |some i=>simp [hq] at h;subst h;exact ⟨i,rfl,rfl,fun w=>by simp [sizeOf,typeInfo,hq]⟩
theorem O0 {t:TypeId} {g:Bool} (h:uu P t=some g):∀w:World,(isAgg t).run P w = .ok g w:=by
 intro w
 unfold uu at h
 split at h
 ·rename_i hu;cases h;unfold isAgg;rw [Sem.run_bind,run_underlying hu w];rfl
 ·rename_i hu;cases h;unfold isAgg;rw [Sem.run_bind,run_underlying hu w];rfl
 ·rename_i d h1 h2 hu
  cases h;unfold isAgg;rw [Sem.run_bind,run_underlying hu w]
  cases d<;>simp_all
 ·cases h
theorem Fa {xs:List Value} {y:Value} (h:iC false xs=some y):xs=[y]:=by
 match xs,h with
 |[c],h=>cases h;rfl
theorem oS {env:List (Nat×V)} {a:Act} (he:fu ι μ env a.tmps):∀{parts:List (Nat×Operand)} {n:Nat} {xs:List O},wY n parts=some xs ->
  aJ ι μ (xs.map (·.ev env)) (parts.map fun p=>a.eval p.2)/\(parts.map fun (i,x)=>(i,a.eval x))=((parts.map fun p=>a.eval p.2).zipIdx n).map fun (v,i)=>(i,v)
 |[],n,xs,h=>by cases h;exact ⟨.nil,rfl⟩
 |(i,x)::r,n,xs,h=>by
  unfold wY at h
  split at h<;>try (cases h;done)
  rename_i hi;subst hi
  split at h<;>try (cases h;done)
  rename_i y ys hy hys
  cases h
  obtain ⟨h1,h2⟩:=oS he hys
  exact ⟨.cons (aC he hy) h1,by simp [h2]⟩
theorem Tu {n m:Operand} {x:O} {a:Act} (h:Zp n m=some x):dI n=some x/\a.eval m=a.eval n:=by
 unfold Zp at h
 split at h<;>try (cases h;done)
 ·split at h <;> try (cases h; done)
  rename_i e;subst e;cases h
  exact ⟨rfl,rfl⟩
 ·split at h <;> try (cases h; done)
  rename_i e;obtain ⟨e1,e2⟩:=e;subst e1;subst e2;cases h
  exact ⟨rfl,rfl⟩
theorem As (h : Inv P Y ι μ H w) {aD : Nat} (hn : μ aD = none) {t e : TypeId} {ty : Ty} {k : Nat} {i : TypeInfo} {z : Value} (ht : P.underlying t = some (.slice e)) (he : kF P e = some k) (hi : P.info? e = some i) (hz : i.zero = some z)
  (h0:eN ty z.cells.toList=some []) (hk:ty.sz=k) {kk:IntKind} {m:Int} (hm0:0<=m) (hm:m<(cn:Int)) :
  ∃μ' x w',(Instr.makeSlice t (.int kk m) (.int kk m)).run P w = .ok x w'/\μ.le μ'/\(∀id,id≠aD->μ' id=μ id)/\Inv P Y ι μ' ⟨max H.next (aD+1),(aD,.arr ty (List.replicate m.toNat ty.zero) false)::bC aD H.bl⟩ w' /\
   Rel ι μ' (.sl aD ty 0 m.toNat) x:=by
 obtain ⟨i',z',hi',oG,hby,hzs,hsz⟩:=fE he
 rw [hi] at hi';cases hi'
 rw [hz] at oG;cases oG
 obtain ⟨us,Hw,hcell⟩:=gF (ι:=ι) h0
 simp only [List.append_nil] at Hw
 have hw:IntKind.i64.wrap m=m:=by
  apply kH
  unfold cn at hm
  simp [IntKind.min,IntKind.max,IntKind.bits,IntKind.signed]
  omega
 have hby2:(i.bytes:Int) * m<=2 ^ 48:=by
  have h1:(i.bytes:Int)<=1024:=by unfold mK at hby;omega
  have h2:m<=1073741824:=by unfold cn at hm;omega
  have:=Int.mul_le_mul h1 h2 hm0 (by omega)
  omega
 have hlt:¬(2 ^ 48<(i.bytes:Int) * m):=by omega
 have fc:=bx.rep (D:=af ι ty) (Hw▸hcell) m.toNat
 obtain ⟨μ',m1,m0,m2,m3⟩:=wZ (rest:=[]) h hn fc e m.toNat (by simp) (by simp [fc.length (fun _ _=>af.length)])
 have mQ:=oR z.cells.toList m.toNat
 refine ⟨μ',.slice (some ⟨w.heap.size,0,none⟩) m.toNat m.toNat,_,?_,m1,m0,m2,by simpa using m3⟩
 have nJ:((List.replicate m.toNat z.cells.toList).flatten++[]).toArray=(Array.range (m.toNat * i.size)).map (fun j=>z.cells[j % z.cells.size]!):=by
  apply Array.ext'
  rw [List.append_nil,<-mQ]
  simp [hzs]
 rw [nJ]
 simp only [Instr.makeSlice,Sem.run_bind,run_underlying ht,Result.andThen_ok,asInt,asIntOf,Sem.run_pure,typeInfo,run_program,hi,hw]
 rw [if_neg (by simp;omega)]
 simp only [run_askRoom,Result.andThen_ok,sizeOf,Sem.run_bind,typeInfo,run_program,hi,Sem.run_pure]
 split
 ·rename_i h0
  have Zx:Array.range 0=#[]:=rfl
  simp [h0,newRow,Zx]
 ·simp [zeroValue,typeInfo,hi,hz,newRow]
theorem H8 (h : Inv P Y ι μ H w) {aD : Nat} (hn : μ aD = none) {t u e tt : TypeId} {ik : IntKind} {ty : Ty} {k : Nat} {i : TypeInfo} {z : Value} (ht : P.underlying t = some (.slice e)) (hu : P.underlying u = some (.int ik)) (he : kF P e = some k) (hi : P.info? e = some i) (hz : i.zero = some z)
  (h0:eN ty z.cells.toList=some []) (hk:ty.sz=k) {kk:IntKind} {m:Int} (hm0:0<=m) (hm:m<(cn:Int)) (a:Option Addr) :
  ∃μ' x w',(Builtin.append_ #[t,u] tt #[.slice a 0 0,.int kk m]).run P w = .ok x w'/\μ.le μ'/\(∀id,id≠aD->μ' id=μ id)/\Inv P Y ι μ' ⟨max H.next (aD+1),(aD,.arr ty (List.replicate m.toNat ty.zero) false)::bC aD H.bl⟩ w' /\
   Rel ι μ' (.sl aD ty 0 m.toNat) x:=by
 obtain ⟨i',z',hi',oG,hby,hzs,hsz⟩:=fE he
 rw [hi] at hi';cases hi'
 rw [hz] at oG;cases oG
 obtain ⟨us,Hw,hcell⟩:=gF (ι:=ι) h0
 simp only [List.append_nil] at Hw
 have hw:IntKind.i64.wrap m=m:=by
  apply kH
  unfold cn at hm
  simp [IntKind.min,IntKind.max,IntKind.bits,IntKind.signed]
  omega
 have hby2:m * (i.bytes:Int)<=2 ^ 48:=by
  have h1:(i.bytes:Int)<=1024:=by unfold mK at hby;omega
  have h2:m<=1073741824:=by unfold cn at hm;omega
  have:=Int.mul_le_mul h2 h1 (by omega) (by omega)
  omega
 obtain ⟨n,rfl⟩:∃n:Nat,m=n:=⟨m.toNat,by omega⟩
 have hby3:¬(281474976710656<(n:Int) * (i.bytes:Int)):=by omega
 have hn0:¬((n:Int)<0):=by omega
 simp only [Int.toNat_natCast]
 by_cases JJ:n=0
 ·subst JJ
  refine ⟨μ,.slice a 0 0,w,?_,Mu.le_refl _,fun _ _=>rfl,h.JH hn ty false,.bO _ _ _ a⟩
  have hw0:IntKind.i64.wrap 0=0:=hw
  cases a<;>simp [Builtin.append_,run_underlying ht,run_underlying hu,sizeOf,typeInfo,hi,asInt,asIntOf,hw0,storeCells]
 ·have jP : n < cn := by omega
  have hfit:Builtin.nextslicecap n 0 * i.bytes<=281474976710656:=by
   refine growslice_fits (by omega) (Nat.le_trans (Nat.mul_le_mul (Nat.le_of_lt jP) hby) ?_)
   unfold cn mK;decide
  have h63:¬(9223372036854775807<(n:Int)):=by unfold cn at jP;omega
  have h48:¬(281474976710656<Builtin.nextslicecap n 0 * i.bytes):=by omega
  have hf:(Builtin.firstCells i.size 0 (.slice a 0 0)).run P w.drew = .ok ([]:List Value).toArray w.drew:=by
   cases a with
   |none=>exact run_firstCells_none _ _ _ _ _
   |some a=>exact run_firstCells_some _ _ _ _ _ _ [] (by simp) (fun j u h=>by simp at h)
  have fc:=bx.rep (D:=af ι ty) (Hw▸hcell) n
  have hl:=fc.length (fun _ _=>af.length)
  have hge:=grownCap_ge w n 0 e
  obtain ⟨μ', m1, m0, m2, m3⟩ := wZ (aD := aD) (rest := (Builtin.zeroCells z.cells (grownCap w n 0 e - n)).toList) h.drew hn fc e (grownCap w n 0 e) (by simpa using hge) (by
   have ZA:(Builtin.zeroCells z.cells (grownCap w n 0 e - n)).toList.length=(grownCap w n 0 e - n) * ty.sz:=by
    rw [Array.length_toList,size_zeroCells,hzs,hsz,hk]
   rw [hl,ZA,List.length_replicate,<-Nat.add_mul]
   exact Nat.mul_le_mul_right _ (by omega))
  have hzn:(Builtin.zeroCells z.cells n).toList=(List.replicate n z.cells.toList).flatten:=by
   rw [<-oR z.cells.toList n]
   simp [Builtin.zeroCells]
  refine ⟨μ',.slice (some ⟨w.heap.size,0,none⟩) n (grownCap w n 0 e),_,?_,m1,m0,m2,by simpa using m3⟩
  have hnew:((List.replicate n z.cells.toList).flatten++(Builtin.zeroCells z.cells (grownCap w n 0 e - n)).toList).toArray=Builtin.zeroCells z.cells n++Builtin.zeroCells z.cells (grownCap w n 0 e - n):=by
   apply Array.ext'
   rw [<-hzn];simp
  rw [hnew]
  by_cases hs0:n * i.size=0
  ·have e0:Builtin.zeroCells z.cells n=#[]:=by
    apply Array.eq_empty_of_size_eq_zero
    rw [size_zeroCells,hzs];exact hs0
   simp [Builtin.append_,run_underlying ht,run_underlying hu,sizeOf,typeInfo,zeroValue,hi,hz,asInt,asIntOf,hw,hn0,hby3,JJ,h63,h48,Question.forced,hf,newRow,grownCap,hs0,e0]
  ·simp [Builtin.append_,run_underlying ht,run_underlying hu,sizeOf,typeInfo,zeroValue,hi,hz,asInt,asIntOf,hw,hn0,hby3,JJ,h63,h48,Question.forced,hf,newRow,grownCap,hs0]
theorem uG (h : Inv P Y ι μ H w) {aD : Nat} (hn : μ aD = none) {env : List (Nat × V)} {a : Act} (he : fu ι μ env a.tmps) {o : Oper} {i : I} (hI : EJ P o.op = some i) {ob : List Bool} {v : V} {u : eZ}
  (ag:cg (bn c1 c2 c3 c4 c5 c6) i env H.bl aD=some (ob,v,u)) (cV:oL ob):Me P Y ι μ H w aD (execOp a.eval o) v u i.lays:=by
 obtain ⟨dst,op,ty,pos,after,guard⟩:=o
 simp only at hI
 cases op<;>simp only [EJ] at hI<;>try (cases hI;done)
 case panic x=>cases hI;simp [cg,iH] at ag
 case range t x=>cases hI;simp [cg,iH] at ag
 case next t x=>cases hI;simp [cg,iH] at ag
 case entry t=>cases hI;simp [cg,iH] at ag
 case move x =>
  cases hx:dI x<;>simp [hx] at hI
  subst hI;cases ag
  exact .pure h rfl (aC he hx)
 case assign x =>
  cases hx:dI x<;>simp [hx] at hI
  subst hI;cases ag
  exact .pure h rfl (aC he hx)
 case pick c x y =>
  split at hI<;>try (cases hI;done)
  rename_i c' x' y' hc hx hy
  cases hI
  have rc:=aC he hc
  have rx:=aC he hx
  have ry:=aC he hy
  simp only [cg] at ag
  split at ag<;>try (cases ag;done)
  ·rename_i hce; rw [hce] at rc; cases ag
   generalize hg:a.eval c=cv at rc
   cases rc
   exact .pure h (by simp [execOp,hg,asBool]) rx
  ·rename_i hce; rw [hce] at rc; cases ag
   generalize hg:a.eval c=cv at rc
   cases rc
   exact .pure h (by simp [execOp,hg,asBool]) ry
  ·rename_i b hce; rw [hce] at rc
   split at ag<;>try (cases ag;done)
   rename_i p q hp hq
   cases ag
   generalize hg:a.eval c=cv at rc
   cases rc
   have ex:=lR hp rx
   have ey:=lR hq ry
   exact .pure h (x:=.bool (if b then p else q)) (by cases b<;>simp [execOp,hg,asBool,ex,ey]) (.bool _)
 case alloc e =>
  split at hI<;>try (cases hI;done)
  rename_i inf Fb
  split at hI<;>try (cases hI;done)
  rename_i z hz
  split at hI
  ·rename_i ty m nJ
   split at hI<;>try (cases hI;done)
   rename_i hzn
   cases hI
   obtain ⟨us,e1,fc⟩:=Bf (ι:=ι) hzn
   rw [List.append_nil] at e1
   simp only [cg,iH,List.map_nil] at ag
   cases ag
   obtain ⟨μ',m1,m0,m2,m3⟩:=OX h hn fc e (n:=m) (by simp)
   rw [<-e1] at m2
   exact ⟨ι,μ',_,_,.inl (by simp [execOp,Instr.alloc,zeroValue,typeInfo,Fb,hz,newVar,newRow];rfl),aj.le_refl _,m1,m0,by simpa [bF,I.lays,iS.lays,gj] using m2,m3⟩
  cases hcs:Aq z.cells.toList<;>simp [hcs] at hI
  subst hI;cases ag
  obtain ⟨μ',m1,m0,m2,m3⟩:=A7 h hn (oH hcs) (oI hcs) e
  exact ⟨ι,μ',_,_,.inl (by simp [execOp,Instr.alloc,zeroValue,typeInfo,Fb,hz,newVar,newRow];rfl),aj.le_refl _,m1,m0,by simpa [bF,I.lays,gj] using m2,m3⟩
 case box e x =>
  split at hI
  ·rename_i ty m nJ
   cases hx:dI x<;>simp [hx] at hI
   subst hI
   simp only [cg,iH,List.map_cons,List.map_nil] at ag
   split at ag<;>try (cases ag;done)
   rename_i cs heq
   simp only [List.cons.injEq,and_true] at heq
   split at ag<;>try (cases ag;done)
   rename_i ys u0 hvn
   cases ag
   have rx:=aC he hx
   rw [heq] at rx
   obtain ⟨r1,r2⟩:=rx.cells rfl
   obtain ⟨z1,z2,z3,z4⟩:=xV hvn r1
   obtain ⟨ι',hle,hI',hF⟩:=j4 z1 h
   obtain ⟨μ',m1,m0,m2,m3⟩:=OX hI' hn (z4 ι' hle hF) e z2
   refine ⟨ι',μ',_,_,.inl (by simp [execOp,Instr.box,newVar,newRow];rfl),hle,m1,m0,?_,m3⟩
   rw [eH];simpa [bF,I.lays,iS.lays,gj] using m2
  cases hx:dI x<;>simp [hx] at hI
  subst hI
  simp only [cg] at ag
  split at ag<;>try (cases ag;done)
  rename_i cs hcs
  cases ag
  obtain ⟨r1,r2⟩:=(aC he hx).cells hcs
  obtain ⟨μ',m1,m0,m2,m3⟩:=A7 h hn r1 r2 e
  exact ⟨ι,μ',_,_,.inl (by simp [execOp,Instr.box,newVar,newRow];rfl),aj.le_refl _,m1,m0,by simpa [bF,I.lays,gj] using m2,m3⟩
 case build t parts =>
  split at hI<;>try (cases hI;done)
  ·rename_i it fields hit hu
   split at hI<;>try (cases hI;done)
   rename_i z places hz hp
   split at hI<;>try (cases hI;done)
   rename_i zs ps hzs hps
   cases hI
   simp only [cg] at ag
   split at ag<;>try (cases ag;done)
   rename_i cs hcs
   cases ag
   obtain ⟨out,f1,f2,f3⟩:=oM he hps hcs (oH hzs) (oI hzs)
   have hb:P.built t (parts.map fun (i,x)=>(i,a.eval x)).toList=some out:=by
    simp only [Program.built,hit,hu,hz,hp]
    rw [Array.toList_map];exact f1
   have hr:=run_build (P:=P) w t (parts.map fun (i,x)=>(i,a.eval x)) out hb
   refine .pure h (x:=.agg out) ?_ (.agg _ _ (by simpa using f2.1) (fun i v x hv hx=>f2.2 i v x hv (by simpa using hx)) f3)
   simp only [execOp,Sem.run_bind,hr];rfl
  ·rename_i it n e hit hu
   split at hI<;>try (cases hI;done)
   rename_i z places hz hp
   split at hI<;>try (cases hI;done)
   rename_i zs ps hzs hps
   cases hI
   simp only [cg] at ag
   split at ag<;>try (cases ag;done)
   rename_i cs hcs
   cases ag
   obtain ⟨out,f1,f2,f3⟩:=oM he hps hcs (oH hzs) (oI hzs)
   have hb:P.built t (parts.map fun (i,x)=>(i,a.eval x)).toList=some out:=by
    simp only [Program.built,hit,hu,hz,hp]
    rw [Array.toList_map];exact f1
   have hr:=run_build (P:=P) w t (parts.map fun (i,x)=>(i,a.eval x)) out hb
   refine .pure h (x:=.agg out) ?_ (.agg _ _ (by simpa using f2.1) (fun i v x hv hx=>f2.2 i v x hv (by simpa using hx)) f3)
   simp only [execOp,Sem.run_bind,hr];rfl
 case buildSlice t n parts =>
  split at hI<;>try (cases hI;done)
  rename_i e hu
  split at hI<;>try (cases hI;done)
  rename_i tye k xs E2 SS hin
  split at hI<;>try (cases hI;done)
  rename_i jK
  obtain ⟨hsz,hlen,jP⟩:=jK
  cases hI
  simp only [cg] at ag
  split at ag<;>try (cases ag;done)
  rename_i ys u0 hvl
  cases ag
  obtain ⟨q1,q2⟩:=oS he hin
  obtain ⟨z1,z2,z3,z4⟩:=xW hvl q1
  obtain ⟨ι',hle,hI',hF⟩:=j4 z1 h
  have fc:=z4 ι' hle hF
  obtain ⟨inf,zv,hi,hz,_,hzs,nK⟩:=fE SS
  have ZE:(parts.toList.map fun p=>a.eval p.2).length=n:=by have:=q1.1;simp at this;simp;omega
  obtain ⟨out, f1, f2⟩ := rC (k := k) (parts.toList.map fun p => a.eval p.2) 0
   ((Array.range (n * k)).map fun j=>(if n * k=0 then #[] else zv.cells)[j % (if n * k=0 then #[] else zv.cells).size]!) (fun v hv=>by rw [z3 v hv,hsz]) (by simp [<-ZE])
  obtain ⟨μ',m1,m0,m2,m3⟩:=wZ (rest:=[]) hI' hn fc e ys.length (Nat.le_refl _) (by rw [fc.length (fun _ _=>af.length)];simp)
  have hn:ys.length=xs.length:=by simpa using z2
  refine ⟨ι',μ',.slice (some ⟨w.heap.size,0,none⟩) n n,(w.alloc (.cells ((List.flatMap (fun (x:Value)=>x.cells.toList) (List.map (fun (p:Nat×Operand)=>a.eval p.2) parts.toList))++[]).toArray e)),.inl ?_,hle,m1,m0,?_,?_⟩
  rotate_left
  ·rw [eH];simpa [bF,I.lays,gj] using m2
  ·simpa [hn,hlen] using m3
  ·have hout:((List.flatMap (fun (x:Value)=>x.cells.toList) (List.map (fun (p:Nat×Operand)=>a.eval p.2) parts.toList))++[]).toArray=out:=by
    apply Array.ext';simp [f2]
   rw [hout]
   rw [<-q2,<-nK] at f1
   have hif:(if n * inf.size=0 then #[] else zv.cells)=(if n * k=0 then #[] else zv.cells):=by rw [nK]
   have hmap:(parts.map fun (i,x)=>(i,a.eval x)).toList=parts.toList.map fun (i,x)=>(i,a.eval x):=by simp
   simp only [execOp,Instr.buildSlice,Sem.run_bind,run_underlying hu,Result.andThen_ok,sizeOf,typeInfo,run_program,hi,Sem.run_pure]
   rw [if_neg (by rw [nK];omega)]
   by_cases h0:n * inf.size=0
   ·have Mj : n * k = 0 := by rw [← nK]; exact h0
    rw [nK] at f1
    simp [Mj] at f1
    simp [Mj,nK,f1,newRow]
   ·have Mj : ¬ n * k = 0 := by rw [← nK]; exact h0
    rw [nK] at f1
    simp [Mj] at f1
    simp [Mj,nK,zeroValue,typeInfo,hi,hz,f1,newRow]
 case load t x =>
  split at hI<;>try (cases hI;done)
  rename_i k g x' hk hg hx
  cases hI
  obtain ⟨rfl,y,hy,hr⟩:=xX h hk hg (aC he hx) ag cV
  exact .pure h (by simp only [execOp,Sem.run_bind,hy];rfl) hr
 case store t pa x =>
  split at hI<;>try (cases hI;done)
  rename_i k a' x' hk ha hx
  cases hI
  obtain ⟨ι',w',hy,hle,hinv,rfl⟩:=E0 h hk (aC he hx) (aC he ha) ag cV
  exact ⟨ι',μ,undef,w',.inr ⟨by simp only [execOp,Sem.run_bind,hy];rfl,rfl⟩,hle,Mu.le_refl _,fun _ _=>rfl,hinv,.any _⟩
 case binOp op t x y yt =>
  unfold A3 at hI
  split at hI
  ·split at hI <;> try (cases hI; done)
   rename_i e x' ng hu hx hop
   cases hI
   simp only [cg,List.map_cons,List.map_nil] at ag
   obtain ⟨rfl,z,hz,hr⟩:=E6 (w:=w) hu hop (xo:=x) (yo:=.const (.slice none 0 0)) (aC he hx) ag
   exact .pure h (by simp only [execOp,Act.eval,Sem.run_bind] at hz ⊢;rw [hz];rfl) hr
  ·split at hI <;> try (cases hI; done)
   rename_i k e x' ng hu hx hop
   cases hI
   simp only [cg,List.map_cons,List.map_nil] at ag
   obtain ⟨rfl,z,hz,hr⟩:=CE (w:=w) hu hop (xo:=x) (yo:=.const (.map none)) (aC he hx) ag
   exact .pure h (by simp only [execOp,Act.eval,Sem.run_bind] at hz ⊢;rw [hz];rfl) hr
  ·split at hI <;> try (cases hI; done)
   rename_i e x' ng hu hx hop
   cases hI
   simp only [cg,List.map_cons,List.map_nil] at ag
   obtain ⟨rfl,z,hz,hr⟩:=CF (w:=w) hu hop (xo:=x) (yo:=.const (.pointer none)) (aC he hx) ag
   exact .pure h (by simp only [execOp,Act.eval,Sem.run_bind] at hz ⊢;rw [hz];rfl) hr
  split at hI<;>try (cases hI;done)
  rename_i x' y' hx hy
  have rx:=aC he hx
  have ry:=aC he hy
  split at hI
  ·rename_i ks hks
   split at hI<;>try (cases hI;done)
   rename_i ng hng
   cases hI
   simp only [cg] at ag
   split at ag<;>try (cases ag;done)
   rename_i as bs dN hye
   rw [dN] at rx
   rw [hye] at ry
   split at ag<;>try (cases ag;done)
   rename_i c hc
   cases ag
   generalize nA:a.eval x=xv at rx
   generalize hgy:a.eval y=yv at ry
   cases rx with
   |agg _ xa p1 p2 p3 =>
   cases ry with
   |agg _ ya q1 q2 q3 =>
   have hrun:P.eqGuardType P.depth t=false/\(Op.equal t (.agg xa) (.agg ya)).run P w = .ok c w:=by
    unfold structEq at hks
    split at hks<;>try (cases hks;done)
    ·rename_i fs hu
     split at hks<;>try (cases hks;done)
     rename_i jK
     have hfo:P.fieldsOf t=fs:=by simp [Program.fieldsOf,hu]
     refine ⟨jK.1,?_⟩
     have e1:=run_equalIn_struct (P:=P) w 9999 t xa ya (by rw [hfo];exact hu) jK.2
     rw [hfo] at e1
     have e2 := fQ (d := 9997) (w := w) (P := P) (ι := ι) (μ := μ) hks (xs := xa) (ys := ya) ⟨by simpa using p1, fun i v x hv hx => p2 i v x hv (by simpa using hx)⟩
      ⟨by simpa using q1,fun i v x hv hx=>q2 i v x hv (by simpa using hx)⟩ hc
     exact e1.trans e2
    ·split at hks <;> try (cases hks; done)
     rename_i jK
     exact ⟨jK, (XO (d := 9998) (w := w) (P := P) (ι := ι) (μ := μ) hks (xs := xa) (ys := ya) ⟨by simpa using p1, fun i v x hv hx => p2 i v x hv (by simpa using hx)⟩
      ⟨by simpa using q1,fun i v x hv hx=>q2 i v x hv (by simpa using hx)⟩ hc).1⟩
   obtain ⟨hg0,hrun⟩:=hrun
   have O1:∀op',(eqGuard op' t x y (.agg xa) (.agg ya)).run P w = .ok () w:=fun op'=>by
    cases op'<;>first|rfl|simp [eqGuard,hg0]
   cases op<;>simp [lN] at hng<;>subst hng
   ·exact .pure h (x:=.bool c) (by simp only [execOp,Sem.run_bind,nA,hgy,O1,Result.andThen_ok,binOp,hrun];rfl) (.bool _)
   ·exact .pure h (x:=.bool (!c)) (by simp only [execOp,Sem.run_bind,nA,hgy,O1,Result.andThen_ok,binOp,hrun];rfl) (.bool _)
  ·split at hI <;> try (cases hI; done)
   ·rename_i hu
    cases hb:lN op<;>simp [hb] at hI
    subst hI
    simp only [cg] at ag
    split at ag<;>try (cases ag;done)
    rename_i p q hp hq
    cases ag
    have ex:=lR hp rx
    have ey:=lR hq ry
    have hg:=cQ (P:=P) (w:=w) op t x y (a:=.bool p) (b:=.bool q) (by simp) (by simp)
    have heq:(Op.equal t (.bool p) (.bool q)).run P w = .ok (p==q) w:=run_equalIn_bool' w 9999 t p q hu
    cases op<;>simp [lN] at hb<;>subst hb
    ·exact .pure h (x:=.bool (p==q)) (by simp only [execOp,Sem.run_bind,ex,ey,hg,Result.andThen_ok,binOp,heq];rfl) (.bool _)
    ·exact .pure h (x:=.bool (!(p==q))) (by simp only [execOp,Sem.run_bind,ex,ey,hg,Result.andThen_ok,binOp,heq];rfl) (.bool _)
   ·cases hb : xL op <;> simp [hb] at hI
    subst hI
    obtain ⟨rfl,z,hz,hr⟩:=A9 (w:=w) hb (t:=t) (xo:=x) (yo:=y) rx ry rfl rfl ag cV
    exact .pure h (by simp only [execOp,Sem.run_bind] at hz ⊢;rw [hz];rfl) hr
   ·cases hb : xL op <;> simp [hb] at hI
    subst hI
    obtain ⟨rfl,z,hz,hr⟩:=A9 (w:=w) hb (t:=t) (xo:=x) (yo:=y) rx ry rfl rfl ag cV
    exact .pure h (by simp only [execOp,Sem.run_bind] at hz ⊢;rw [hz];rfl) hr
 case unOp op t x =>
  cases op<;>simp only [EJ] at hI<;>try (cases hI;done)
  all_goals
   cases hx:dI x<;>simp [hx] at hI
   subst hI
   have rx:=aC he hx
   simp only [cg] at ag
   generalize hg:a.eval x=xv at rx
  ·split at ag <;> try (cases ag; done)
   rename_i k n dN
   rw [dN] at rx
   split at ag
   ·cases ag
    cases rx
    have hw:=kH (cV _ (List.mem_singleton.2 rfl))
    simp only [Int.zero_sub] at hw
    exact .pure h (x:=.int k (0 - n)) (by simp [execOp,hg,Op.unary,Op.intArith,hw]) (.int _ _)
   ·cases ag
    cases rx
    exact .pure h (x:=.int k (k.wrap (0 - n))) (by simp [execOp,hg,Op.unary,Op.intArith]) (.int _ _)
  ·split at ag <;> try (cases ag; done)
   ·rename_i b dN
    rw [dN] at rx
    cases ag
    cases rx
    exact .pure h (x:=.bool (!b)) (by simp [execOp,hg,Op.unary]) (.tf _)
   ·rename_i b dN
    rw [dN] at rx
    cases ag
    cases rx
    exact .pure h (x:=.bool (!b)) (by simp [execOp,hg,Op.unary]) (.bool _)
 case convert s d x =>
  split at hI<;>try (cases hI;done)
  rotate_left
  rotate_left
  ·rename_i e hs hd
   split at hI<;>try (cases hI;done)
   rename_i hue
   cases hx:dI x<;>simp [hx] at hI
   subst hI
   have rx:=aC he hx
   simp only [cg,iH,List.map_cons,List.map_nil] at ag
   split at ag<;>try (cases ag;done)
   rename_i ys hys
   cases ag
   exact .pure h (x:=.string (dM ys)) (by simp only [execOp,Sem.run_bind,H7 h hs hd hue hys rx];rfl) (.str _)
  rotate_left
  ·rename_i e hs hd
   split at hI<;>try (cases hI;done)
   rename_i hue
   cases hx:dI x<;>simp [hx] at hI
   subst hI
   have rx:=aC he hx
   simp only [cg,iH,List.map_cons,List.map_nil] at ag
   split at ag<;>try (cases ag;done)
   rename_i s0 heq
   simp only [List.cons.injEq,and_true] at heq
   rw [heq] at rx
   cases ag
   generalize hg:a.eval x=xv at rx
   cases rx
   obtain ⟨ι',y,w',r1,r2,r3,r4⟩:=E8 h hs hd hue (s:=s0)
   exact ⟨ι',μ,y,w',.inl (by simp only [execOp,hg,Sem.run_bind,r1];rfl),r2,Mu.le_refl _,fun _ _=>rfl,r3,r4⟩
  rename_i k0 k hs hd
  cases hx:dI x<;>simp [hx] at hI
  subst hI
  have rx:=aC he hx
  simp only [cg] at ag
  generalize hg:a.eval x=xv at rx
  split at ag<;>try (cases ag;done)
  rename_i k1 n dN
  rw [dN] at rx
  cases ag
  cases rx
  have hw:=kH (cV _ (List.mem_singleton.2 rfl))
  exact .pure h (x:=.int k n) (by simp [execOp,hg,convert,run_underlying hs,run_underlying hd,Conv.intToInt,hw]) (.int _ _)
 case makeFunc f fs cs =>
  cases f<;>simp only [EJ] at hI<;>try (cases hI;done)
  rename_i fid
  split at hI<;>try (cases hI;done)
  rename_i fs' cs' h1 h2
  cases hI;cases ag
  have r1:=jd he h1
  have r2:=jd he h2
  refine .pure h (x:=.func (.func fid) (fs.map a.eval) (cs.map a.eval)) (by simp [execOp,Instr.makeFunc]) ?_
  exact .fn _ _ _ _ _ (by simpa using r1.1) (fun i v x hv hx=>r1.2 i v x hv (by simpa using hx)) (by simpa using r2.1) (fun i v x hv hx=>r2.2 i v x hv (by simpa using hx))
 case makeSlice t n m =>
  split at hI<;>try (cases hI;done)
  rename_i xn hsam
  obtain ⟨hxn,hmn⟩:=Tu (a:=a) hsam
  split at hI<;>try (cases hI;done)
  rename_i e hu
  split at hI<;>try (cases hI;done)
  rename_i tye k inf E2 SS Fb
  split at hI<;>try (cases hI;done)
  rename_i z hz
  split at hI<;>try (cases hI;done)
  rename_i JJ
  split at hI<;>try (cases hI;done)
  rename_i jK
  cases hI
  simp only [cg] at ag
  split at ag<;>try (cases ag;done)
  rename_i kk mm dN
  cases ag
  have rx:=aC he hxn
  rw [dN] at rx
  have hb:=cV _ (List.mem_singleton.2 rfl)
  simp only [decide_eq_true_eq] at hb
  generalize hg:a.eval n=xv at rx
  cases rx
  obtain ⟨μ',x,w',r1,r2,r0,r3,r4⟩:=As h hn hu SS Fb hz JJ jK.1 (kk:=kk) hb.1 hb.2
  refine ⟨ι,μ',x,w',.inl ?_,aj.le_refl _,r2,r0,by simpa [bF,I.lays,gj] using r3,r4⟩
  simp only [execOp,hmn,hg,Sem.run_bind,r1];rfl
 case slice t x lo hi mx =>
  split at hI<;>try (cases hI;done)
  rename_i e hu
  split at hI<;>try (cases hI;done)
  rename_i k x' lo' hi' Ts hk hx h1 h2 h3
  cases hI
  obtain ⟨rfl,y,hy,hr⟩:=E3 (w:=w) he hu hk (aC he hx) h1 h2 h3 ag cV
  exact .pure h (by simp only [execOp,Sem.run_bind,hy];rfl) hr
 case fieldAddr s x f =>
  split at hI<;>try (cases hI;done)
  rename_i fd n hfd
  split at hI<;>try (cases hI;done)
  rename_i k x' hk hx
  cases hI
  obtain ⟨fs,hu,hf⟩:=qA hfd
  obtain ⟨rfl,b,o,hp,hr⟩:=Ba (aC he hx) ag cV
  obtain ⟨_,_,_,hsz⟩:=j8 hk
  refine .pure h ?_ hr
  simp [execOp,Instr.fieldAt,run_underlying hu,hf,hp,Instr.sureAddr,fieldPlace,hsz,Addr.add_mid]
 case field s x f =>
  split at hI<;>try (cases hI;done)
  rename_i fd n hfd
  split at hI<;>try (cases hI;done)
  rename_i k g x' hk hg hx
  cases hI
  obtain ⟨fs,hu,hf⟩:=qA hfd
  have rx:=aC he hx
  simp only [cg] at ag
  split at ag<;>try (cases ag;done)
  rename_i cs dN
  rw [dN] at rx
  split at ag<;>try (cases ag;done)
  rename_i vs jf
  split at ag<;>try (cases ag;done)
  rename_i v' hwr
  cases ag
  generalize nA:a.eval x=xv at rx
  cases rx with
  |agg _ xa p1 p2 p3 =>
   have hR:aJ ι μ cs xa.toList:=⟨by simpa using p1,fun i v x hv hx=>p2 i v x hv (by simpa using hx)⟩
   obtain ⟨r1,r2,r3⟩:=hR.sw jf
   obtain ⟨y,hy,hv⟩:=ux hwr r1 (fun u hu=>p3 u (List.mem_of_mem_drop (List.mem_of_mem_take hu)))
   obtain ⟨_,_,_,hsz⟩:=j8 hk
   have hagg:=O0 hg
   refine .pure h (x:=y) ?_ hv
   cases g with
   |true =>
    cases hy
    have:(List.take k (List.drop fd.offset xa.toList)).toArray=xa.extract fd.offset (fd.offset+k):=by
     apply Array.ext';simp [List.extract_eq_take_drop]
    simp [execOp,nA,Instr.field,run_underlying hu,hf,asAgg,part,hagg,hsz,this]
   |false =>
    have hl:=Fa hy
    have hc:xa[fd.offset]?=some y:=by
     have h0:(List.take k (List.drop fd.offset xa.toList))[0]?=some y:=by rw [hl];rfl
     rw [List.getElem?_take] at h0
     split at h0
     ·simpa using h0
     ·cases h0
    simp [execOp,nA,Instr.field,run_underlying hu,hf,asAgg,part,hagg,hc]
 case indexAddr t x i =>
  split at hI<;>try (cases hI;done)
  ·rename_i e x' i' hu hx hi
   cases hk:dm P e<;>simp [hk] at hI
   subst hI
   rename_i k
   obtain ⟨rfl,kk,m,b,o,len,cap,e1,e2,h0,h1,hr⟩:=Mf (aC he hx) (aC he hi) ag cV
   obtain ⟨_,_,_,hsz⟩:=j8 hk
   refine .pure h ?_ hr
   simp [execOp,Instr.indexAt,e1,e2,asIntOf,run_underlying hu,h0,h1,hsz,Addr.add_mid]
  ·rename_i n e x' kk m hu hx hi
   split at hI<;>try (cases hI;done)
   rename_i k hk
   split at hI<;>try (cases hI;done)
   rename_i hmn
   cases hI
   obtain ⟨rfl,b,o,hp,hr⟩:=Ba (aC he hx) ag cV
   obtain ⟨_,_,_,hsz⟩:=j8 hk
   have ri:=aC he hi
   simp only [O.ev] at ri
   generalize CG:a.eval i=iv at ri
   cases ri
   have hm':(m:Int)<n:=by omega
   refine .pure h ?_ hr
   simp [execOp,Instr.indexAt,CG,hp,asIntOf,run_underlying hu,hsz,Addr.add_mid,Instr.sureAddr,hmn]
  ·rename_i n e x' i' _ hu hx hi
   cases hk:dm P e<;>simp [hk] at hI
   subst hI
   rename_i k
   obtain ⟨_,_,_,hsz⟩:=j8 hk
   have rx:=aC he hx
   have ri:=aC he hi
   simp only [cg] at ag
   split at ag<;>try (cases ag;done)
   ·rename_i id t m dN
    rw [dN] at rx
    split at ag<;>try (cases ag;done)
    rename_i kk j hie
    rw [hie] at ri
    split at ag<;>try (cases ag;done)
    rename_i hc
    obtain ⟨hc1,HV⟩:=hc
    cases ag
    have hb:=cV _ (List.mem_singleton.2 rfl)
    simp only [decide_eq_true_eq] at hb
    generalize CG:a.eval i=iv at ri
    cases ri
    generalize nA:a.eval x=xv at rx
    cases rx with
    |pa _ _ _ L hL hm =>
     have h1:j<(n:Int):=hb.2
     have hr:=Rel.ep (ι:=ι) id t j.toNat [] L hL
     have h0:t.bJ []=0:=by cases t<;>rfl
     rw [h0,Nat.add_zero,hc1] at hr
     refine .pure h (x:=.pointer (some ⟨L.b,L.ba+j.toNat * k,none⟩)) ?_ hr
     simp [execOp,Instr.indexAt,CG,nA,asIntOf,run_underlying hu,hsz,Addr.add_mid,Instr.sureAddr,hb.1,h1]
   ·rename_i t xs dN
    rw [dN] at rx
    split at ag<;>try (cases ag;done)
    rename_i kk j hie
    rw [hie] at ri
    split at ag<;>try (cases ag;done)
    rename_i hc1
    cases ag
    have hb:=cV _ (List.mem_cons_self)
    have gh:=cV _ (List.mem_cons_of_mem _ (List.mem_cons_self))
    simp only [decide_eq_true_eq] at hb gh
    generalize CG:a.eval i=iv at ri
    cases ri
    generalize nA:a.eval x=xv at rx
    cases rx with
    |mG _ _ b o us h1 h2 =>
     have h3:j<(n:Int):=hb.2
     have h4:j<(xs.length:Int):=gh.2
     have HU:xs[j.toNat]?=some (xs.getD j.toNat t.zero):=by simp [List.getD,show j.toNat<xs.length by omega]
     have hcell:=h2.at (fun _ _=>af.length) HU
     refine .pure h (x:=.pointer (some ⟨b,o+j.toNat * k,none⟩)) ?_ (by rw [<-hc1];exact .ip t _ b _ _ (h1.sub (j.toNat * t.sz) t.sz) hcell)
     simp [execOp,Instr.indexAt,CG,nA,asIntOf,run_underlying hu,hsz,Addr.add_mid,Instr.sureAddr,hb.1,h3]
   ·rename_i id off dN
    rw [dN] at rx
    split at ag<;>try (cases ag;done)
    rename_i kk j hie
    rw [hie] at ri
    cases ag
    have hb:=cV _ (List.mem_singleton.2 rfl)
    simp only [decide_eq_true_eq] at hb
    have iL:j<(n:Int):=hb.2
    generalize CG:a.eval i=iv at ri
    cases ri
    generalize nA:a.eval x=xv at rx
    cases rx with
    |ptr _ _ L hL =>
     have hr:=Rel.sp (ι:=ι) id off [(k,n,j)] L hL (fun x hx=>by
      rcases List.mem_singleton.1 hx with rfl
      exact ⟨hb.1,iL⟩)
     simp only [mJ,Nat.add_zero,<-Nat.add_assoc] at hr
     refine .pure h (x:=.pointer (some ⟨L.b,L.ba+off+j.toNat * k,none⟩)) ?_ hr
     simp [execOp,Instr.indexAt,CG,nA,asIntOf,run_underlying hu,hsz,Addr.add_mid,Instr.sureAddr,hb.1,iL]
   ·rename_i id off l dN
    rw [dN] at rx
    split at ag<;>try (cases ag;done)
    rename_i kk j hie
    rw [hie] at ri
    cases ag
    have hb:=cV _ (List.mem_singleton.2 rfl)
    simp only [decide_eq_true_eq] at hb
    have iL:j<(n:Int):=hb.2
    generalize CG:a.eval i=iv at ri
    cases ri
    generalize nA:a.eval x=xv at rx
    cases rx with
    |sp _ _ _ L hL hbn =>
     have hr:=Rel.sp (ι:=ι) id off ((k,n,j)::l) L hL (fun x hx=>by
      rcases List.mem_cons.1 hx with rfl|hx
      ·exact ⟨hb.1,iL⟩
      ·exact hbn x hx)
     have e:L.ba+(off+mJ ((k,n,j)::l))=L.ba+(off+mJ l)+j.toNat * k:=by simp only [mJ];omega
     rw [e] at hr
     refine .pure h (x:=.pointer (some ⟨L.b,L.ba+(off+mJ l)+j.toNat * k,none⟩)) ?_ hr
     simp [execOp,Instr.indexAt,CG,nA,asIntOf,run_underlying hu,hsz,Addr.add_mid,Instr.sureAddr,hb.1,iL]
   ·rename_i cs dN
    rw [dN] at rx
    split at ag<;>try (cases ag;done)
    rename_i kk m hie
    rw [hie] at ri
    split at ag<;>try (cases ag;done)
    rename_i hmn
    generalize CG:a.eval i=iv at ri
    cases ri
    have hm':(m:Int)<n:=by omega
    split at ag<;>try (cases ag;done)
    rename_i hle
    cases ag
    generalize nA:a.eval x=xv at rx
    cases rx with
    |fe _ b o g h1 h2 h3 =>
     refine .pure h (x:=.pointer (some ⟨b,o+m * k,none⟩)) ?_ (.fe _ b (o+m * k) (fun i=>g (m * k+i)) (fun i hi=>?_) (fun i v hv=>?_) (fun i=>h3 _))
     ·simp [execOp,Instr.indexAt,CG,nA,asIntOf,run_underlying hu,hsz,Addr.add_mid,Instr.sureAddr,hmn]
     ·rw [Nat.add_assoc];exact h1 _ (by simp at hi;omega)
     ·exact h2 _ v (by simpa using hv)
  ·unfold uv at hI
   split at hI<;>try (cases hI;done)
   rename_i g _ _ _
   split at hI<;>try (cases hI;done)
   rename_i n e dH i' hu hg hi
   split at hI<;>try (cases hI;done)
   rename_i hue hk
   split at hI<;>try (cases hI;done)
   rename_i hlen
   cases hI
   obtain ⟨_,_,_,hsz⟩:=j8 hk
   have rx:=h.dH.rel μ hg
   have ri:=aC he hi
   simp only [cg,O.ev] at ag
   split at ag<;>try (cases ag;done)
   rename_i kk j hie
   have hie':i'.ev env=V.int kk j:=hie
   rw [hie'] at ri
   split at ag<;>try (cases ag;done)
   cases ag
   have hb:=cV _ (List.mem_cons_self)
   have gh:=cV _ (List.mem_cons_of_mem _ (List.mem_cons_self))
   simp only [decide_eq_true_eq] at hb gh
   generalize CG:a.eval i=iv at ri
   cases ri
   cases rx with
   |mG _ _ b o us h1 h2 =>
    have h3:j<(n:Int):=hb.2
    have HU:dH[j.toNat]?=some (dH.getD j.toNat (Ty.zero (.int .u8))):=by simp [List.getD,show j.toNat<dH.length by omega]
    have hcell:=h2.at (fun _ _=>af.length) HU
    refine .pure h (x:=.pointer (some ⟨g,0+j.toNat * 1,none⟩)) ?_ (.ip (.int .u8) _ g _ _ (h1.sub (j.toNat * 1) 1) hcell)
    have nA:a.eval (.global g) = .pointer (some ⟨g,0,none⟩):=rfl
    simp [execOp,Instr.indexAt,CG,nA,asIntOf,run_underlying hu,hsz,Addr.add_mid,Instr.sureAddr,hb.1,h3]
 case index t x i =>
  split at hI<;>try (cases hI;done)
  ·rename_i n e x' i' hu hx hi
   split at hI<;>try (cases hI;done)
   rename_i k g hk hg
   cases hI
   simp only [cg,List.map_cons,List.map_nil] at ag
   obtain ⟨rfl,y,hy,hr⟩:=E4 (w:=w) hu hk hg (aC he hx) (aC he hi) ag cV
   exact .pure h (by simp only [execOp,Sem.run_bind,hy];rfl) hr
  ·rename_i x' i' hu hx hi
   cases hI
   simp only [cg,List.map_cons,List.map_nil] at ag
   obtain ⟨rfl,y,hy,hr⟩:=E5 (w:=w) hu (aC he hx) (aC he hi) ag cV
   exact .pure h (by simp only [execOp,Sem.run_bind,hy];rfl) hr
 case makeMap t r =>
  cases r<;>simp only [EJ] at hI<;>try (cases hI;done)
  split at hI<;>try (cases hI;done)
  rename_i kt kg vt vg hm
  cases hI
  simp only [cg,iH,List.map_nil] at ag
  cases ag
  obtain ⟨μ',x,w',r1,r2,r0,r3,r4⟩:=E7 h hn t kt vt kg vg
  exact ⟨ι,μ',x,w',.inl (by simp only [execOp,Option.map_none,Sem.run_bind,r1];rfl),aj.le_refl _,r2,r0,by simpa [bF,I.lays,iS.lays,gj] using r3,r4⟩
 case lookup t x i ok =>
  split at hI<;>try (cases hI;done)
  rename_i kt kg vt vg x' i' hm hx hi
  cases hI
  simp only [cg,List.map_cons,List.map_nil] at ag
  obtain ⟨rfl,y,hy,hr⟩:=HY h hm (aC he hx) (aC he hi) ag
  exact .pure h (by simp only [execOp,Sem.run_bind,hy];rfl) hr
 case mapUpdate t m k x =>
  split at hI<;>try (cases hI;done)
  rename_i kt kg vt vg m' k' x' hm hm' hk hx
  cases hI
  simp only [cg,List.map_cons,List.map_nil] at ag
  obtain ⟨w',hy,hinv,rfl⟩:=HZ h hm (aC he hm') (aC he hk) (aC he hx) ag
  exact ⟨ι,μ,undef,w',.inr ⟨by simp only [execOp,Sem.run_bind,hy];rfl,rfl⟩,aj.le_refl _,Mu.le_refl _,fun _ _=>rfl,hinv,.any _⟩
 case nilCheck x =>
  cases hx:dI x<;>simp [hx] at hI
  subst hI
  have rx:=aC he hx
  simp only [cg,iH,List.map_cons,List.map_nil] at ag
  split at ag<;>try (cases ag;done)
  ·rename_i t v heq
   cases ag
   simp only [List.cons.injEq,and_true] at heq
   rw [heq] at rx
   generalize nA:a.eval x=xv at rx
   cases rx with
   |cL _ _ y hr=>exact .pure h (x:=.iface t y) (by simp [execOp,nA]) (.cL t _ _ hr)
  ·rename_i id o heq
   cases ag
   simp only [List.cons.injEq,and_true] at heq
   rw [heq] at rx
   generalize nA:a.eval x=xv at rx
   cases rx with
   |ptr _ _ L hL=>exact .pure h (by simp [execOp,nA]) (.ptr id o L hL)
  ·rename_i cs heq
   cases ag
   simp only [List.cons.injEq,and_true] at heq
   rw [heq] at rx
   generalize nA:a.eval x=xv at rx
   cases rx with
   |fe _ b o g h1 h2 h3=>exact .pure h (by simp [execOp,nA]) (.fe _ b o g h1 h2 h3)
 case makeInterface t x =>
  split at hI<;>try (cases hI;done)
  rename_i d hni hu
  cases hx:dI x<;>simp [hx] at hI
  subst hI
  simp only [cg,iH,List.map_cons,List.map_nil] at ag
  cases ag
  refine .pure h (x:=.iface t (a.eval x)) ?_ (.cL t _ _ (aC he hx))
  have:(Instr.makeInterface t (a.eval x)).run P w = .ok (.iface t (a.eval x)) w:=by
   unfold Instr.makeInterface
   rw [Sem.run_bind,run_underlying hu w]
   cases d<;>first|rfl|exact absurd rfl (hni _)
  simp only [execOp,Sem.run_bind,this];rfl
 case extract x k =>
  cases hx:dI x<;>simp [hx] at hI
  subst hI
  have rx:=aC he hx
  simp only [cg] at ag
  split at ag<;>try (cases ag;done)
  rename_i vs dN
  rw [dN] at rx
  split at ag<;>try (cases ag;done)
  rename_i v' hv
  cases ag
  generalize nA:a.eval x=xv at rx
  cases rx with
  |dc _ xa p1 p2 =>
   have hk:=(List.getElem?_eq_some_iff.1 hv).1
   have hxk:xa[k]?=some (xa[k]'(by omega)):=by simp
   exact .pure h (x:=xa[k]'(by omega)) (by simp only [execOp,nA,Instr.extract,hxk];rfl) (p2 k _ _ hv hxk)
 case call c =>
  obtain ⟨callee,args,argTypes⟩:=c
  cases callee<;>simp only [EJ] at hI<;>try (cases hI;done)
  rename_i b
  obtain ⟨args,rfl⟩:∃l:List Operand,l.toArray=args:=⟨args.toList,by simp⟩
  obtain ⟨argTypes,rfl⟩:∃l:List TypeId,l.toArray=argTypes:=⟨argTypes.toList,by simp⟩
  simp only at hI
  unfold trB at hI
  split at hI<;>try (cases hI;done)
  ·-- len
   rename_i t x
   split at hI<;>try (cases hI;done)
   ·rename_i hu
    cases hx:dI x<;>simp [hx] at hI
    subst hI
    have rx:=aC he hx
    simp only [cg] at ag
    generalize nA:a.eval x=xv at rx
    split at ag<;>try (cases ag;done)
    rename_i s dN
    rw [dN] at rx
    cases ag
    cases rx
    exact .pure h (x:=.int .i64 s.size) (by simp [execOp,resolve,invoke,builtin,Builtin.len_,nA,run_underlying hu,goInt]) (.int _ _)
   ·rename_i e hu
    cases hx:dI x<;>simp [hx] at hI
    subst hI
    have rx:=aC he hx
    simp only [cg] at ag
    generalize nA:a.eval x=xv at rx
    split at ag<;>try (cases ag;done)
    ·rename_i _ _ _ m dN
     rw [dN] at rx
     cases ag
     cases rx with
     |sl=>exact .pure h (x:=.int .i64 m) (by simp [execOp,resolve,invoke,builtin,Builtin.len_,nA,run_underlying hu,goInt]) (.int _ _)
     |bO=>exact .pure h (x:=.int .i64 (0:Nat)) (by simp [execOp,resolve,invoke,builtin,Builtin.len_,nA,run_underlying hu,goInt]) (.int _ _)
    ·rename_i t' xs dN
     rw [dN] at rx
     cases ag
     cases rx with
     |fM _ _ _ hd =>
      obtain ⟨b,cap,e',_⟩:=hd
      cases e'
      exact .pure h (x:=.int .i64 xs.length) (by simp [execOp,resolve,invoke,builtin,Builtin.len_,nA,run_underlying hu,goInt]) (.int _ _)
    ·rename_i dN
     rw [dN] at rx
     cases ag
     cases rx
     exact .pure h (x:=.int .i64 0) (by simp [execOp,resolve,invoke,builtin,Builtin.len_,nA,run_underlying hu,goInt]) (.int _ _)
   ·rename_i n e hu
    cases hI;cases ag
    exact .pure h (x:=.int .i64 n) (by simp [execOp,resolve,invoke,builtin,Builtin.len_,run_underlying hu,goInt]) (.int _ _)
   ·rename_i k0 e0 hu
    cases hx:dI x<;>simp [hx] at hI
    subst hI
    simp only [cg,List.map_cons,List.map_nil] at ag
    obtain ⟨rfl,y,hy,hr⟩:=H6 (ty:=ty) h hu (aC he hx) ag
    exact .pure h (by simp [execOp,resolve,invoke,builtin,hy]) hr
   ·rename_i arr hu
    split at hI<;>try (cases hI;done)
    rename_i n e hu2
    cases hI;cases ag
    exact .pure h (x:=.int .i64 n) (by simp [execOp,resolve,invoke,builtin,Builtin.len_,run_underlying hu,run_underlying hu2,goInt]) (.int _ _)
  ·-- append
   rename_i t u' x y
   split at hI<;>try (cases hI;done)
   ·rename_i e e' hu hu'
    split at hI<;>try (cases hI;done)
    rename_i k x' y' hk hx hy
    cases hI
    obtain ⟨μ',z,w',r1,r2,r0,r3,r4⟩:=CD (ty:=ty) h hn hu hu' hk (aC he hx) (aC he hy) ag cV
    exact ⟨ι,μ',z,w',.inl (by simp [execOp,resolve,invoke,builtin,r1]),aj.le_refl _,r2,r0,by simpa [I.lays,gj] using r3,r4⟩
   ·rename_i e ik hu hu'
    split at hI<;>try (cases hI;done)
    rename_i tye k inf E2 SS Fb
    split at hI<;>try (cases hI;done)
    rename_i z hz
    split at hI<;>try (cases hI;done)
    rename_i JJ
    split at hI<;>try (cases hI;done)
    rename_i x' y' hx hy
    split at hI<;>try (cases hI;done)
    rename_i jK
    cases hI
    simp only [cg,iH,List.map_cons,List.map_nil] at ag
    split at ag<;>try (cases ag;done)
    rename_i kk m heq
    simp only [List.cons.injEq,and_true] at heq
    obtain ⟨dN,hye⟩:=heq
    cases ag
    have rx:=aC he hx
    have ry:=aC he hy
    rw [dN] at rx
    rw [hye] at ry
    have hb:=cV _ (List.mem_singleton.2 rfl)
    simp only [decide_eq_true_eq] at hb
    generalize nA:a.eval x=xv at rx
    generalize hgy:a.eval y=yv at ry
    cases rx with
    |cw ad =>
     cases ry
     obtain ⟨μ',v,w',r1,r2,r0,r3,r4⟩:=H8 (tt:=ty) h hn hu hu' SS Fb hz JJ jK.1 (kk:=kk) hb.1 hb.2 ad
     exact ⟨ι,μ',v,w',.inl (by simp [execOp,resolve,invoke,builtin,nA,hgy,r1]),aj.le_refl _,r2,r0,by simpa [bF,I.lays,iS.lays,gj] using r3,r4⟩
  ·-- cap
   rename_i t x
   split at hI<;>try (cases hI;done)
   rename_i e hu
   cases hx:dI x<;>simp [hx] at hI
   subst hI
   simp only [cg,iH,List.map_cons,List.map_nil] at ag
   split at ag<;>try (cases ag;done)
   rename_i dN
   simp only [List.cons.injEq,and_true] at dN
   cases ag
   have rx:=aC he hx
   rw [dN] at rx
   generalize nA:a.eval x=xv at rx
   cases rx with
   |cw ad=>exact .pure h (x:=.int .i64 0) (by simp [execOp,resolve,invoke,builtin,Builtin.cap_,nA,run_underlying hu,goInt]) (.int _ _)
  ·-- clear
   rename_i t x
   split at hI<;>try (cases hI;done)
   rename_i e hu
   split at hI<;>try (cases hI;done)
   rename_i tye k inf E2 SS Fb
   split at hI<;>try (cases hI;done)
   rename_i z hz
   split at hI<;>try (cases hI;done)
   rename_i JJ
   split at hI<;>try (cases hI;done)
   rename_i jK
   cases hx:dI x<;>simp [hx] at hI
   subst hI
   simp only [cg,List.map_cons,List.map_nil] at ag
   obtain ⟨w',r1,r2,r3⟩:=E9 (k:=k) h hu Fb hz JJ (tt:=ty) (aC he hx) ag
   exact ⟨ι,μ,_,w',.inl (by simp [execOp,resolve,invoke,builtin,r1]),aj.le_refl _,Mu.le_refl _,fun _ _=>rfl,r2,r3⟩
  ·-- max
   rename_i x r
   split at hI<;>try (cases hI;done)
   rename_i x' ys hx hys
   cases hI
   have rx:=aC he hx
   have rys:=jd he hys
   simp only [cg] at ag
   split at ag<;>try (cases ag;done)
   rename_i k m dN
   rw [dN] at rx
   split at ag<;>try (cases ag;done)
   rename_i z hz
   cases ag
   generalize nA:a.eval x=xv at rx
   cases rx
   have:=x7 (w:=w) (P:=P) hz rys
   exact .pure h (x:=.int k z) (by simp [execOp,resolve,invoke,builtin,Builtin.max_,nA,this]) (.int _ _)
  ·-- min
   rename_i x r
   split at hI<;>try (cases hI;done)
   rename_i x' ys hx hys
   cases hI
   have rx:=aC he hx
   have rys:=jd he hys
   simp only [cg] at ag
   split at ag<;>try (cases ag;done)
   rename_i k m dN
   rw [dN] at rx
   split at ag<;>try (cases ag;done)
   rename_i z hz
   cases ag
   generalize nA:a.eval x=xv at rx
   cases rx
   have:=x8 (w:=w) (P:=P) hz rys
   exact .pure h (x:=.int k z) (by simp [execOp,resolve,invoke,builtin,Builtin.min_,nA,this]) (.int _ _)
theorem uH (h : Inv P Y ι μ H w) {aD : Nat} (hn : μ aD = none) {env : List (Nat × V)} {a : Act} (he : fu ι μ env a.tmps) {o : Oper} {i : I} (hI : EJ P o.op = some i) {ob : List Bool} {v : V} {u : eZ}
  (ag:xK (bn c1 c2 c3 c4 c5 c6) i env H.bl aD=some (ob,v,u)) (cV:oL ob):Me P Y ι μ H w aD (execOp a.eval o) v u i.lays:=by
 cases i
 case store k ao xo =>
  obtain ⟨dst,op,ty,pos,after,guard⟩:=o
  simp only at hI
  cases op<;>simp only [EJ] at hI<;>try (cases hI;done)
  case store t pa x =>
   split at hI<;>try (cases hI;done)
   rename_i k' a' x' hk ha hx
   cases hI
   obtain ⟨w',hy,hinv,rfl⟩:=CB h hk (aC he hx) (aC he ha) ag cV
   exact ⟨ι,μ,undef,w',.inr ⟨by simp only [execOp,Sem.run_bind,hy];rfl,rfl⟩,aj.le_refl _,Mu.le_refl _,fun _ _=>rfl,hinv,.any _⟩
  all_goals
   exfalso
   repeat' (first|(cases hI;done)|(rename _=Op.store _ _ _=>e;cases e;done)|(simp only [Option.map_eq_some_iff] at hI;obtain ⟨_,_,hI⟩:=hI;cases hI;done)|split at hI|(unfold A3 at hI)|(unfold trB at hI)|(unfold uv at hI))
 case eY tt xx =>
  obtain ⟨dst,op,ty,pos,after,guard⟩:=o
  simp only at hI
  cases op<;>simp only [EJ] at hI<;>try (cases hI;done)
  case buildSlice t n parts =>
   split at hI<;>try (cases hI;done)
   rename_i e hu
   split at hI<;>try (cases hI;done)
   rename_i tye k xs E2 SS hin
   split at hI<;>try (cases hI;done)
   rename_i jK
   obtain ⟨hsz,hlen,jP⟩:=jK
   cases hI
   simp only [xK] at ag
   split at ag<;>try (cases ag;done)
   rename_i x1
   split at ag<;>try (cases ag;done)
   rename_i vs hvs
   split at ag<;>try (cases ag;done)
   rename_i p hp
   split at ag<;>try (cases ag;done)
   rename_i y hvl
   cases ag
   obtain ⟨q1,q2⟩:=oS he hin
   have hof:sq (bn c1 c2 c3 c4 c5 c6) H.bl tt ([x1].map (·.ev env))=some ([y],[]):=by simp [sq,hvs,hvl]
   obtain ⟨z1,z2,z3,z4⟩:=xW hof q1
   have fc:=z4 ι (aj.le_refl _) (fun id t xs h=>by cases h)
   obtain ⟨inf,zv,hi,hz,_,hzs,nK⟩:=fE SS
   have ZE:(parts.toList.map fun p=>a.eval p.2).length=n:=by have:=q1.1;simp at this;simp;simp at hlen;omega
   obtain ⟨out, f1, f2⟩ := rC (k := k) (parts.toList.map fun p => a.eval p.2) 0
    ((Array.range (n * k)).map fun j=>(if n * k=0 then #[] else zv.cells)[j % (if n * k=0 then #[] else zv.cells).size]!) (fun v hv=>by rw [z3 v hv,hsz]) (by simp [<-ZE])
   obtain ⟨xv,rv,exv,hxv,Fc⟩:=q1.bL
   have hrv0:=Fc.of_nil;subst hrv0
   obtain ⟨c,hc1,HV⟩:=xZ hp (hxv.cells hvs).1
   have hfm:(List.map (fun (p:Nat×Operand)=>a.eval p.2) parts.toList).flatMap (fun (x:Value)=>x.cells.toList)=xv.cells.toList:=by rw [exv];simp
   obtain ⟨μ',m1,m0,m2,m3⟩:=Tn h hn fc e (p:=p) (c:=c) (by rw [hfm];exact hc1) HV
   have SR:n=1:=by simpa using hlen.symm
   refine ⟨ι,μ',.slice (some ⟨w.heap.size,0,none⟩) n n,(w.alloc (.cells ((List.flatMap (fun (x:Value)=>x.cells.toList) (List.map (fun (p:Nat×Operand)=>a.eval p.2) parts.toList))++[]).toArray e)),.inl ?_,aj.le_refl _,m1,m0,?_,?_⟩
   rotate_left
   ·simpa [bF,I.lays,gj] using m2
   ·simpa [SR] using m3
   ·have hout:((List.flatMap (fun (x:Value)=>x.cells.toList) (List.map (fun (p:Nat×Operand)=>a.eval p.2) parts.toList))++[]).toArray=out:=by
     apply Array.ext';simp [f2]
    rw [hout]
    rw [<-q2,<-nK] at f1
    have hif:(if n * inf.size=0 then #[] else zv.cells)=(if n * k=0 then #[] else zv.cells):=by rw [nK]
    have hmap:(parts.map fun (i,x)=>(i,a.eval x)).toList=parts.toList.map fun (i,x)=>(i,a.eval x):=by simp
    simp only [execOp,Instr.buildSlice,Sem.run_bind,run_underlying hu,Result.andThen_ok,sizeOf,typeInfo,run_program,hi,Sem.run_pure]
    rw [if_neg (by rw [nK];omega)]
    by_cases h0:n * inf.size=0
    ·have Mj : n * k = 0 := by rw [← nK]; exact h0
     rw [nK] at f1
     simp [Mj] at f1
     simp [Mj,nK,f1,newRow]
    ·have Mj : ¬ n * k = 0 := by rw [← nK]; exact h0
     rw [nK] at f1
     simp [Mj] at f1
     simp [Mj,nK,zeroValue,typeInfo,hi,hz,f1,newRow]
  all_goals
   exfalso
   repeat' (first|(cases hI;done)|(rename _=Op.buildSlice _ _ _=>e;cases e;done)|(simp only [Option.map_eq_some_iff] at hI;obtain ⟨_,_,hI⟩:=hI;cases hI;done)|split at hI|(unfold A3 at hI)|(unfold trB at hI)|(unfold uv at hI))
 all_goals (simp [xK] at ag)
end
end Go.AM
end
section
namespace Go.AM
def Ctx.F (Y:Ctx):Fence:={ Fence.wide with round:=Y.ro }
def coll (b:Nat):Deferred:={ target:=.collected b,args:=#[] }
def mo (hid : List Nat) (μ : Mu) : List Nat → List Deferred → Prop
 |[],ds=>ds=hid.map coll
 |id::r,ds=>∃L d ds',ds=d::ds'/\μ id=some L/\d={ target:=.collected L.b,args:=#[] }/\mo hid μ r ds'
structure dU (P:Program) (N:Nat) (Y:Ctx) (ι:aj) (μ:Mu) (S:St) (a:Act) (w:World):Prop where
 env:fu ι μ S.env a.tmps
 sz:a.tmps.size=N
 inv:Inv P Y ι μ S.H w
 ms:mo Y.hid μ S.ms a.defers
def ExR : Ex → Exit → Prop
 | .normal,e=>e = .normal
 | .exit id,e=>e = .exit id
 | .ret,e=>e = .ret
def Ctx.base (Y:Ctx) (b:Nat):Prop:=∀id,b<=id->Y.m0 id=none
def Ctx.wH (Y:Ctx) (w:World) (ι:aj) (r:Nat):Ctx:=⟨w,ι,Y.m0,Y.ro,fun b=>Y.own b/\b≠r,r::Y.hid⟩
inductive Ext (P : Program) : Ctx → Ctx → Prop
 |refl (Y:Ctx):Ext P Y Y
 |step {Y Y1:Ctx} {ι:aj} {μ:Mu} {H:aF} {w:World} {r:Nat} (h:Ext P Y Y1) (ro:Y1.ro=none) (hI:Inv P Y1 ι μ H w) (hr:w.heap[r]?=some (.deferred (some []))) (own:Y1.own r):Ext P Y (Y1.wH w ι r)
def Post (P:Program) (N:Nat) (Y:Ctx) (Q:Ex->St->Prop):Exit->Act->World->Prop:=fun e a w=>∃Y1,Ext P Y Y1/\∃ι μ S e',dU P N Y1 ι μ S a w/\ExR e' e/\Q e' S
def kO (Y : Ctx) : Option Nat → Prop
 |none=>Y.ro=none
 |some id=>∃L,Y.m0 id=some L/\Y.ro=some L.b
def Oh (P:Program) (N:Nat) (out:Option Nat) (base:Nat) (c:Code) (S:St) (Q:Ex->St->Prop):Prop :=
 ∀Y ι μ a w,kO Y out->Y.base base->dU P N Y ι μ S a w->c.wpIn Y.F 0 P (Post P N Y Q) a w
def Enters (P:Program) (f:Nat):Prop:=∀args w,(callFunc f args).run P w = .ok (.enter f args) w
def O2 (P:Program) (Y:Ctx) (ι:aj) (μ:Mu) (Q:V->aF->Prop):Ending->World->Prop:=fun e w' =>
 ∃v ι' μ' r H',e = .returned v/\ι.le ι'/\μ.le μ'/\Inv P Y ι' μ' H' w'/\Rel ι' μ' r v/\Q r H'
def eW (P:Program) (f:Nat) (vs:List V) (H:aF) (Q:V->aF->Prop):Prop :=
 Enters P f/\∀Y ι μ w (args:Array Value),Inv P Y ι μ H w->aJ ι μ vs args.toList->CallsIn Fence.wide 0 P f args w (O2 P Y ι μ Q)
def around (P:Program) (id:Nat) (vs:List V) (H:aF) (Q:V->aF->Prop):Prop :=
 ∀Y ι μ w (args:Array Value) L,Inv P Y ι μ H w->aJ ι μ vs args.toList->μ id=some L ->
  ∃f tmps as bd w1,(Instr.yield L.b args).run P w = .ok (.round L.b f tmps as bd) w1/\RoundIn Fence.wide 0 P L.b f tmps as bd w1 (O2 P Y ι μ Q)
def dA (ι:aj) (w:World):Prop:=∀b o x,ι b o=some x->w.cell? ⟨b,o,none⟩=some x
def kC (P:Program) (f:Nat) (vs:List V) (r:V):Prop :=
 Enters P f/\∀ι w (args:Array Value),jt P ι->dA ι w->aJ ι (fun _=>none) vs args.toList->CallsIn Fence.wide 0 P f args w fun e w' =>
  ∃v ι',e = .returned v/\ι.le ι'/\(∀b o,b<w.heap.size->ι' b o=ι b o)/\dA ι' w'/\Dw w w'/\Rel ι' (fun _=>none) r v
def eL (P : Program) (N : Nat) (out : Option Nat) (base : Nat) : Ar := bn (eW P) (kC P)
 (fun c S K=>∀body,fU P N body=some c->Oh P N out base (.loop body) S K)
 (around P)
 (fun f ps a b S K=>∀fo Ev ao bo,dI fo=some f->Ev.toList=ps->fU P N ao=some a->fU P N bo=some b->Oh P N out base (.rangeFunc fo Ev ao bo) S K)
 (fun c S K=>∀a b,fU P N (.seq a b)=some c->(xN P N a b).isSome=true->Oh P N out base (.seq a b) S K)
section
variable {P:Program} {N:Nat} {Y:Ctx} {ι ι':aj} {μ μ':Mu} {H:aF} {w w':World} {out:Option Nat} {base:Nat}
theorem Ext.trans {Y Y1 Y2:Ctx} (h:Ext P Y Y1) (h2:Ext P Y1 Y2):Ext P Y Y2:=by
 induction h2 with
 |refl=>exact h
 |step _ ro hI hr own ih=>exact .step ih ro hI hr own
theorem Ext.ro {Y Y1:Ctx} (h:Ext P Y Y1):Y1.ro=Y.ro:=by
 induction h with
 |refl=>rfl
 |step _ _ _ _ _ ih=>exact ih
theorem Ext.m0 {Y Y1:Ctx} (h:Ext P Y Y1):Y1.m0=Y.m0:=by
 induction h with
 |refl=>rfl
 |step _ _ _ _ _ ih=>exact ih
theorem Ext.F {Y Y1:Ctx} (h:Ext P Y Y1):Y1.F=Y.F:=by unfold Ctx.F;rw [h.ro]
theorem Ext.same {Y Y1:Ctx} (h:Ext P Y Y1) (hro:Y.ro≠none):Y1=Y:=by
 cases h with
 |refl=>rfl
 |step h ro _ _ _=>exact absurd (h.ro▸ro) hro
theorem Ext.ZF {Y Y1:Ctx} (h:Ext P Y Y1) (ho:kO Y out):kO Y1 out:=by
 cases out with
 |none=>exact h.ro.trans ho
 |some id=>obtain ⟨L,h1,h2⟩:=ho;exact ⟨L,by rw [h.m0];exact h1,by rw [h.ro];exact h2⟩
theorem Ext.vH {Y Y1:Ctx} (h:Ext P Y Y1) {b:Nat} (hb:Y.base b):Y1.base b:=fun id hid=>by rw [h.m0];exact hb id hid
theorem dZ.owns {B B':Nat->Prop} {id:Nat} {b:lJ} (h:dZ P B ι μ id w b) (hB:∀L,μ id=some L->B L.b->B' L.b):dZ P B' ι μ id w b:=by
 have mem:∀{fz:Bool} {L:Loc} {vs:List Value},Mem B ι μ id fz w L vs->Mem B' ι μ id fz w L vs:=fun hM=>⟨hM.mu,hB _ hM.mu hM.old,hM.row,hM.fits,hM.one,hM.HR,hM.sk⟩
 cases b with
 |cells cs fz=>obtain ⟨L',vs,hM,h⟩:=h;exact ⟨L',vs,mem hM,h⟩
 |arr t xs fz =>
  rcases h with h|⟨L',vs,hM,h⟩
  ·exact .inl h
  ·exact .inr ⟨L',vs,mem hM,h⟩
 |loop st j d env ps as bd N =>
  obtain ⟨L',r,Ld,h1,h2,h3⟩:=h
  exact ⟨L',r,Ld,h1,hB _ h1 h2,h3⟩
 |iy =>
  obtain ⟨L',h1,h2,h3⟩:=h
  exact ⟨L',h1,hB _ h1 h2,h3⟩
 |map kt kg vt vg es =>
  obtain ⟨L',ms,clock,dJ,h1,h2,h3⟩:=h
  exact ⟨L',ms,clock,dJ,h1,hB _ h1 h2,h3⟩
 |ov t xs i p v =>
  obtain ⟨L',us,vs,c,hM,h⟩:=h
  exact ⟨L',us,vs,c,mem hM,h⟩
theorem Inv.O3 (h:Inv P Y ι μ H w) {r:Nat} {H':aF} (h2:Inv P (Y.wH w ι r) ι' μ' H' w'):Inv P Y ι' μ' H' w':=by
 have hs:=h.below.size
 have hx2:∀k,k<Y.w0.heap.size->¬Y.x k->¬(Y.wH w ι r).x k:=fun k hk hx hX=>by
  rcases hX.1 with h|h
  ·omega
  ·exact hx h
 have b2:=h2.below
 refine ⟨⟨b2.os.trans h.below.os,b2.tape.trans h.below.tape,b2.output.trans h.below.output,Nat.le_trans hs b2.size,fun k hk hx=>?_,Nat.le_trans h.below.dr b2.dr,fun k hk=>(h.below.maps k hk).trans (b2.maps k (Nat.lt_of_lt_of_le hk hs))⟩,
  aj.le_trans h.i0 h2.i0,fun b o hb hx=>?_,h2.rd,h2.m0,h2.nx,fun id B hB=>(h2.live id B hB).owns fun L _ ho=>?_,h2.inj,h2.lt,h.gl⟩
 ·exact (b2.block k (Nat.lt_of_lt_of_le hk hs) (hx2 k hk hx)).trans (h.below.block k hk hx)
 ·exact (h2.iB b o (Nat.lt_of_lt_of_le hb hs) (hx2 b hb hx)).trans (h.iB b o hb hx)
 ·rcases ho with ho | ho
  ·exact .inl (Nat.le_trans hs ho)
  ·exact ho.1
theorem Ext.inv {Y Y1:Ctx} (h:Ext P Y Y1):∀{ι:aj} {μ:Mu} {H:aF} {w:World},Inv P Y1 ι μ H w->Inv P Y ι μ H w:=by
 induction h with
 |refl=>exact fun h=>h
 |step _ _ hI _ _ ih=>exact fun h=>ih (hI.O3 h)
theorem Post.ext {Y Y1:Ctx} (hY:Ext P Y Y1) {Q:Ex->St->Prop} {e:Exit} {a:Act} (h:Post P N Y1 Q e a w):Post P N Y Q e a w :=
 let ⟨Y2,h2,h⟩:=h;⟨Y2,hY.trans h2,h⟩
theorem Post.of {Q:Ex->St->Prop} {S:St} {a:Act} {e:Exit} {e':Ex} (hR:dU P N Y ι μ S a w) (h:ExR e' e) (hQ:Q e' S):Post P N Y Q e a w:=⟨Y,.refl Y,ι,μ,S,e',hR,h,hQ⟩
theorem Post.of1 {Y Y1:Ctx} (hY:Ext P Y Y1) {Q:Ex->St->Prop} {S:St} {a:Act} {e:Exit} {e':Ex} (hR:dU P N Y1 ι μ S a w) (h:ExR e' e) (hQ:Q e' S):Post P N Y Q e a w:=⟨Y1,hY,ι,μ,S,e',hR,h,hQ⟩
theorem CH {c:Code} {S:St} {Q:Ex->St->Prop} (h:Oh P N out base c S Q) {Y Y1:Ctx} (hY:Ext P Y Y1) (ho:kO Y out) (hb:Y.base base) {a:Act} (hR:dU P N Y1 ι μ S a w):c.wpIn Y.F 0 P (Post P N Y Q) a w:=by
 have:=h Y1 ι μ a w (hY.ZF ho) (hY.vH hb) hR
 rw [hY.F] at this
 exact wpIn_mono this fun e a w hp=>hp.ext hY
theorem dU.wH {S:St} {a:Act} (hR:dU P N Y ι μ S a w) {id:Nat} (Mk:S.ms=[id]) (hb:av id S.H.bl=some .iy) (hro:Y.ro=none):∃Y1,Ext P Y Y1/\dU P N Y1 ι μ ⟨S.env,⟨S.H.next,bC id S.H.bl⟩,[]⟩ a w:=by
 obtain ⟨L,h1,h2,h3⟩:=hR.inv.live id _ hb
 have hm:=hR.ms
 rw [Mk] at hm
 obtain ⟨L',d,ds,e1,e2,e3,e4⟩:=hm
 rw [h1] at e2;cases e2
 refine ⟨Y.wH w ι L.b,.step (.refl Y) hro hR.inv h3 h2,hR.env,hR.sz,?_,?_⟩
 ·have h := hR.inv
  refine ⟨JD.refl _ _,aj.le_refl _,fun _ _ _ _=>rfl,h.rd,h.m0,h.nx,fun i B hB=>?_,fun i i' B B' L1 L2 iL gh=>?_,fun i B hB=>?_,h.dH⟩
  ·simp only [bh] at hB
   split at hB
   ·cases hB
   ·rename_i hne
    exact (h.live i B hB).owns fun L1 Zz ho=>.inr ⟨ho,fun e=>hne (h.inj i id B _ L1 L hB hb Zz h1 e)⟩
  ·simp only [bh] at iL gh
   split at iL
   ·cases iL
   split at gh
   ·cases gh
   exact h.inj i i' B B' L1 L2 iL gh
  ·simp only [bh] at hB
   split at hB
   ·cases hB
   exact h.lt i B hB
 ·show a.defers = _
  rw [e1,e3,e4];rfl
theorem mo.mono {hid : List Nat} (hm : μ.le μ') : ∀ {ids : List Nat} {ds : List Deferred}, mo hid μ ids ds → mo hid μ' ids ds
 |[],_,h=>h
 |_::_,_,⟨L,d,ds',h1,h2,h3,h4⟩=>⟨L,d,ds',h1,hm _ _ h2,h3,h4.mono hm⟩
theorem fu.put {env:List (Nat×V)} {a:Act} (he:fu ι μ env a.tmps) (hsz:a.tmps.size=N) {d:Option Nat} (hd:sy N d=true) {v:V} {x:Value} (hv:Rel ι μ v x) :
  fu ι μ (put d v env) (a.put d x).tmps/\(a.put d x).tmps.size=N/\(a.put d x).defers=a.defers:=by
 cases d with
 |none=>exact ⟨he,hsz,rfl⟩
 |some d =>
  have hd':d<N:=by simpa [sy] using hd
  refine ⟨fun t=>?_,by simp [Act.put,hsz],rfl⟩
  simp only [AM.put,mL,Act.put]
  by_cases h:d=t
  ·subst h
   rw [if_pos rfl]
   have:(a.tmps.setIfInBounds d x).getD d undef=x:=by simp [Array.getD,hsz,hd']
   rw [this];exact hv
  ·rw [if_neg h]
   have:(a.tmps.setIfInBounds d x).getD t undef=a.tmps.getD t undef:=by
    simp only [Array.getD_eq_getD_getElem?]
    rw [Array.getElem?_setIfInBounds_ne h]
   rw [this];exact he t
theorem dU.put {S : St} {a : Act} (h : dU P N Y ι μ S a w) {d : Option Nat} (hd : sy N d = true) {ι' : aj} {μ' : Mu} (hi : ι.le ι') (hm : μ.le μ') {H' : aF} {w' : World} (hinv : Inv P Y ι' μ' H' w')
  {v:V} {x:Value} (hv:Rel ι' μ' v x):dU P N Y ι' μ' ⟨AM.put d v S.env,H',S.ms⟩ (a.put d x) w':=by
 obtain ⟨h1,h2,h3⟩:=(h.env.mono hi hm).put h.sz hd hv
 exact ⟨h1,h2,hinv,by rw [h3];exact h.ms.mono hm⟩
theorem yc {env : List (Nat × V)} {a : Act} (he : fu ι μ env a.tmps) {ops : Array Oper} {j d : Nat} {o : Oper} (ho : ops[j]? = some o) (hd : o.dst = some d) {b : Bool}
  (hv:get d env = .tf b\/get d env = .bool b):yielded ops a.tmps j=some b:=by
 have hr:=he d
 have:a.tmps.getD d undef = .bool b:=by
  generalize a.tmps.getD d undef=x at hr
  rcases hv with hv|hv<;>rw [hv] at hr<;>cases hr<;>rfl
 rw [Array.getD_eq_getD_getElem?] at this
 unfold yielded
 simp only [ho,Option.bind_some,hd]
 cases hq:a.tmps[d]? with
 |none=>rw [hq] at this;cases this
 |some x=>rw [hq] at this;simp at this;subst this;rfl
theorem vI {env : List (Nat × V)} {a : Act} (he : fu ι μ env a.tmps) {ops : Array Oper} {j d : Nat} {o : Oper} (ho : ops[j]? = some o) (hd : o.dst = some d) {vs : List V}
  (hv:get d env = .dc vs):yielded ops a.tmps j=none:=by
 have hr:=he d
 have:∃xs,a.tmps.getD d undef = .tuple xs:=by
  generalize a.tmps.getD d undef=x at hr
  rw [hv] at hr;cases hr;exact ⟨_,rfl⟩
 obtain ⟨xs,this⟩:=this
 rw [Array.getD_eq_getD_getElem?] at this
 unfold yielded
 simp only [ho,Option.bind_some,hd]
 cases hq:a.tmps[d]? with
 |none=>rfl
 |some x=>rw [hq] at this;simp at this;subst this;rfl
theorem Rel.und:Rel ι μ (.dc []) undef:=.dc [] _ rfl (fun i v x hv=>by simp at hv)
theorem yd : ∀ {ob : List Bool}, wD ob → oL ob
 |[],_=>fun b h=>by cases h
 |[b],h=>fun b' h'=>by cases List.mem_singleton.1 h';exact h
 |b::c::r,h=>fun b' h'=>by
  rcases List.mem_cons.1 h' with rfl|h'
  ·exact h.1
  ·exact yd h.2 b' h'
theorem Bg {o:Out} {l:Bool} {dst:Option Nat} {S:St} {K:St->Prop} (h:su o l dst S K):∃ob v u,o=some (ob,v,u)/\oL ob /\
  K ⟨put dst v S.env,⟨gj l S.H.next S.H.next,bF u S.H.bl⟩,S.ms⟩:=by
 have hn:Og l S.H.next=gj l S.H.next S.H.next:=by
  unfold gj Og;cases l<;>simp
 unfold su at h
 split at h
 ·rename_i v u
  rw [hn] at h
  exact ⟨[],v,u,rfl,(fun b hb=>by cases hb),h⟩
 ·rename_i ob v u _
  rw [hn] at h
  exact ⟨ob,v,u,rfl,yd h.1,h.2⟩
 ·exact h.elim
theorem dU.cl {c1 : Nat → List V → aF → (V → aF → Prop) → Prop} {c2 : Nat → List V → V → Prop} {c3 : C → St → (Ex → St → Prop) → Prop}
  {c4:Nat->List V->aF->(V->aF->Prop)->Prop} {c5:O->List Nat->C->C->St->(Ex->St->Prop)->Prop} {c6:C->St->(Ex->St->Prop)->Prop} {S:St} {a:Act} (h:dU P N Y ι μ S a w) {ids:List Nat} {u:eZ} (hu:Of (bn c1 c2 c3 c4 c5 c6) ids S.H.bl=some u) :
  ∃ι',dU P N Y ι' μ ⟨S.env,⟨S.H.next,bF u S.H.bl⟩,S.ms⟩ a w:=by
 obtain ⟨ι',hle,hI⟩:=JG hu h.inv
 exact ⟨ι',h.env.mono hle (Mu.le_refl _),h.sz,hI,h.ms⟩
def Next (P:Program) (N:Nat) (Y:Ctx) (K:St->Prop) (next:Act->World->Prop):Prop:=∀ι μ S a w,dU P N Y ι μ S a w->K S->next a w
theorem Fe {a : Act} {f : Operand} {args : Array Operand} {tys : Array TypeId} {o : Oper} (ho : o.op = .call { callee := .value f, args := args, argTypes := tys }) {fid : Nat} {xs ys : Array Value}
  (hf:a.eval f = .func (.func fid) xs ys) (cF:Enters P fid) (w:World):(execOp a.eval o).run P w = .ok (.enter fid (xs++args.map a.eval++ys)) w:=by
 have:=cF (xs++args.map a.eval++ys) w
 simp only [Array.append_assoc] at this
 simp [execOp,ho,resolve,hf,Deferred.ofValue,invoke,this]
theorem ye {t f : Nat} : ∀ {l : List (Nat × Nat)}, l.lookup t = some f → (t, f) ∈ l
 |[],h=>by cases h
 |(a,b)::r,h=>by
  rw [List.lookup_cons] at h
  split at h
  ·rename_i e;cases h;rw [beq_iff_eq] at e;subst e;exact List.mem_cons_self ..
  ·exact List.mem_cons_of_mem _ (ye h)
theorem Ml {name:String} {t f:Nat} (h:(Te P name).lookup t=some f):∃i m pr,P.info? t=some i/\i.methods.find? (·.name==name)=some m/\m.path=#[]/\m.func=some (f,pr) /\
  ((pr=true/\∃e,P.underlying t=some (.pointer e))\/(pr=false/\∃d,P.underlying t=some d/\∀e,d ≠ .pointer e)):=by
 have hm:=ye h
 unfold Te at hm
 obtain ⟨t',_,ht⟩:=List.mem_filterMap.1 hm
 split at ht<;>try (cases ht;done)
 rename_i i hi
 split at ht<;>try (cases ht;done)
 rename_i m hf
 split at ht<;>try (cases ht;done)
 rename_i hp
 have hp':m.path=#[]:=by simpa using hp
 split at ht<;>try (cases ht;done)
 ·rename_i f' e hfu hu
  cases ht
  exact ⟨i,m,true,hi,hf,hp',hfu,.inl ⟨rfl,e,hu⟩⟩
 ·rename_i f' d hnp hfu hu
  cases ht
  exact ⟨i,m,false,hi,hf,hp',hfu,.inr ⟨rfl,d,hu,fun e he=>by subst he;exact hnp _ rfl⟩⟩
theorem yf {name:String} {t f:Nat} (h:(Te P name).lookup t=some f) (cF:Enters P f) (v:Value) (args:Array Value) (w:World):(callMethod (.iface t v) name args).run P w = .ok (.enter f (#[v]++args)) w:=by
 obtain ⟨i,m,pr,h1,h2,h3,h4,h5⟩:=Ml h
 have Ew:∀w:World,(typeInfo t).run P w = .ok i w:=fun w=>by simp [typeInfo,h1]
 have aeg:∀n,(method (n+1) t v name).run P w = .ok (f,v) w:=fun n=>by
  unfold method
  simp only [Sem.run_bind,Ew,Result.andThen_ok,h2,h3]
  have hfol:(follow (#[]:Array FieldStep).toList t (.val v)).run P w = .ok (t,.val v) w:=rfl
  simp only [hfol,Result.andThen_ok,h4]
  have Tv:(receiverAt t (.val v) pr (if m.path.isEmpty then some ((name.splitOn ".").getLastD name) else none)).run P w = .ok v w:=by
   unfold receiverAt
   rcases h5 with ⟨rfl,e,hu⟩|⟨rfl,d,hu,hd⟩
   ·rw [Sem.run_bind,run_underlying hu w];rfl
   ·rw [Sem.run_bind, run_underlying hu w]
    cases d<;>first|rfl|exact absurd rfl (hd _)
  rw [h3] at Tv
  simp only [Sem.run_bind,Tv,Result.andThen_ok];rfl
 have hsz:∀w:World,(program).run P w = .ok P w:=fun w=>rfl
 show ((do let p <-program;let (f,receiver) <-method (p.types.size+Made.depth) t v name;callFunc f (#[receiver]++args):Sem Go.Next)).run P w=_
 simp only [Sem.run_bind,hsz,Result.andThen_ok]
 rw [show P.types.size+Made.depth=(P.types.size+99)+1 from rfl,aeg]
 simp only [Result.andThen_ok]
 exact cF _ _
theorem yg {a : Act} {c : Callee} {args : Array Operand} {tys : Array TypeId} {o : Oper} (hop : o.op = .call { callee := c, args := args, argTypes := tys }) {fo : O} (hc : lP P c = some fo) {env : List (Nat × V)} (he : fu ι μ env a.tmps)
  {fid:Nat} {fs cs:List V} (qd:fo.ev env = .fn fid fs cs) (cF:Enters P fid):∃xs ys:Array Value,aJ ι μ fs xs.toList/\aJ ι μ cs ys.toList/\∀w,(execOp a.eval o).run P w = .ok (.enter fid (xs++args.map a.eval++ys)) w:=by
 unfold lP at hc
 split at hc<;>try (cases hc;done)
 ·rename_i f
  have rf:=aC he hc
  rw [qd] at rf
  generalize hg:a.eval f=fv at rf
  cases rf with
  |fn _ _ _ xs ys h1 h2 h3 h4 =>
   exact ⟨xs,ys,⟨by simpa using h1,fun i v x hv hx=>h2 i v x hv (by simpa using hx)⟩,⟨by simpa using h3,fun i v x hv hx=>h4 i v x hv (by simpa using hx)⟩,fun w=>Fe hop hg cF w⟩
 ·rename_i t name
  cases hc
  have hr:=he t
  simp only [O.ev] at qd
  generalize hv:get t env=tv at qd hr
  cases tv<;>simp only [Ow] at qd<;>try (cases qd;done)
  rename_i ty v0
  split at qd<;>try (cases qd;done)
  rename_i f hf
  cases qd
  have ag:a.eval (.tmp t)=a.tmps.getD t undef:=rfl
  generalize hg:a.tmps.getD t undef=fv at hr ag
  cases hr with
  |cL _ _ x hx =>
   refine ⟨#[x],#[],.cons hx .nil,.nil,fun w=>?_⟩
   have hm:=yf hf cF x (args.map a.eval) w
   simp only [execOp,hop,resolve,ag,Sem.run_bind,Sem.run_pure,Result.andThen_ok,invoke]
   have h0:(#[Value.iface ty x]++Array.map a.eval args)[0]?=some (.iface ty x):=by rw [Array.getElem?_append_left (by simp)];rfl
   have h1:(#[Value.iface ty x]++Array.map a.eval args).extract 1 (#[Value.iface ty x]++Array.map a.eval args).size=Array.map a.eval args:=by
    apply Array.ext'
    have:List.take args.size (List.map a.eval args.toList)=List.map a.eval args.toList:=List.take_of_length_le (by simp)
    simp [List.extract_eq_take_drop,this]
   rw [h0,h1]
   simpa using hm
theorem Tw {c:Callee} {fo:O} (hc:lP P c=some fo) {env:List (Nat×V)} {id:Nat} (qd:fo.ev env = .yl id):∃f,c = .value f/\dI f=some fo:=by
 unfold lP at hc
 split at hc<;>try (cases hc;done)
 ·exact ⟨_,rfl,hc⟩
 ·cases hc
  simp only [O.ev] at qd
  generalize get _ env=tv at qd
  cases tv<;>simp only [Ow] at qd<;>try (cases qd;done)
  split at qd<;>cases qd
theorem vJ {F : Fence} (hF : ∀ f, F.fn f) (hdep : F.depth = none) {ops : Array Oper} {i : Nat} {rest : List Nat} {o : Oper} (ho : ops[i]? = some o) {a : Act} {w : World} {Q : Exit → Act → World → Prop}
  (hw:Region.wanted o (yielded ops a.tmps)=true) (hdef:∀c,o.op ≠ .defer c) {x:Value} {w':World}
  (hrun:(execOp a.eval o).run P w = .ok (.value x) w'\/((execOp a.eval o).run P w = .ok .skip w'/\x=undef)) (hk:wpOpsIn F 0 P ops Q rest (a.put o.dst x) w') :
  wpOpsIn F 0 P ops Q (i::rest) a w:=by
 simp only [wpOpsIn,ho,hw,if_true,Oper.wpIn]
 refine ⟨fun f _=>hF f,?_⟩
 rw [Oper.semAt_eq _ _ _ hdef]
 rcases hrun with h|⟨h,rfl⟩<;>rw [h]<;>exact hk
theorem Tx {F : Fence} (hF : ∀ f, F.fn f) {ops : Array Oper} {i : Nat} {rest : List Nat} {o : Oper} (ho : ops[i]? = some o) {a : Act} {w : World} {Q : Exit → Act → World → Prop}
  (hw:Region.wanted o (yielded ops a.tmps)=false) (hk:wpOpsIn F 0 P ops Q rest (a.put o.dst undef) w) :
  wpOpsIn F 0 P ops Q (i::rest) a w:=by
 simp only [wpOpsIn,ho,hw,Bool.false_eq_true,if_false]
 exact ⟨fun f _=>hF f,hk⟩
theorem j9 {op:Op} {i:I} (h:EJ P op=some i):∀c,op ≠ .defer c:=fun c e=>by subst e;simp [EJ] at h
theorem JL {ops : Array Oper} {i : Nat} {rest : List Nat} {o : Oper} (ho : ops[i]? = some o) {a : Act} {w : World} {Q : Exit → Act → World → Prop} {S : St} (hR : dU P N Y ι μ S a w)
  (hw:Region.wanted o (yielded ops a.tmps)=true) {c:Callee} {args:Array Operand} {tys:Array TypeId} (hop:o.op = .call { callee:=c,args:=args,argTypes:=tys })
  {fo:O} {as:List O} (hf:lP P c=some fo) (ha:wE args.toList=some as) (hd:sy N o.dst=true) {ts:List (Option Ty)} {K:St->Prop} (hK:Cr (eL P N out base) o.dst fo as ts S K)
  (hn:Next P N Y K (wpOpsIn Y.F 0 P ops Q rest)):wpOpsIn Y.F 0 P ops Q (i::rest) a w:=by
 simp only [wpOpsIn,ho,hw,if_true,Oper.wpIn]
 refine ⟨fun f _=>trivial,?_⟩
 rw [Oper.semAt_eq _ _ _ (by rw [hop];simp)]
 have mN:∃ι S',dU P N Y ι μ S' a w/\sv (eL P N out base) o.dst fo as ts S' K:=by
  rcases hK with hK|⟨ids,u,hu,hK⟩
  ·exact ⟨ι,S,hR,hK⟩
  ·obtain ⟨ι', fO⟩ := hR.cl hu
   exact ⟨ι',_,fO,hK⟩
 clear hK hR
 obtain ⟨ι,S,hR,hK⟩:=mN
 have ra:=jd hR.env ha
 unfold sv at hK
 split at hK
 ·rename_i fid fs cs qd
  obtain ⟨cF,eF⟩:=hK
  obtain ⟨xs,ys,r1,r2,hrun⟩:=yg hop hf hR.env qd cF
  rw [hrun]
  have rl:aJ ι μ (fs++cq ts (as.map (·.ev S.env))++cs) (xs++args.map a.eval++ys).toList:=by
   have:=(r1.append (jZ (ts:=ts) ra)).append r2
   simpa using this
  refine ⟨fun h=>by simp [Ctx.F,Fence.wide] at h,?_⟩
  refine CallsIn.mono (F:=Y.F) (eF Y ι μ w _ hR.inv rl) ?_
  rintro e w' ⟨v,ι',μ',r,H',rfl,hi,hm,hinv,hv,hq⟩
  exact hn _ _ _ _ _ (hR.put hd hi hm hinv hv) hq
 ·rename_i id qd
  obtain ⟨f,rfl,hf⟩:=Tw hf qd
  have rf:=aC hR.env hf
  rw [qd] at rf
  generalize hg:a.eval f=fv at rf
  cases rf with
  |yl _ L hL =>
   obtain ⟨f',tmps,as',bd,w1,hy,ZG⟩:=hK Y ι μ w (args.map a.eval) L hR.inv (by simpa using jZ (ts:=ts) ra) hL
   have:(execOp a.eval o).run P w = .ok (.round L.b f' tmps as' bd) w1:=by
    simp [execOp,hop,resolve,hg,Deferred.ofValue,invoke,hy]
   rw [this]
   refine ⟨fun h=>by simp [Ctx.F,Fence.wide] at h,?_⟩
   refine RoundIn.mono (F:=Y.F) ZG ?_
   rintro e w' ⟨v,ι',μ',r,H',rfl,hi,hm,hinv,hv,hq⟩
   exact hn _ _ _ _ _ (hR.put hd hi hm hinv hv) hq
 ·exact hK.elim
theorem yh {ops : Array Oper} {i : Nat} {rest : List Nat} {o : Oper} (ho : ops[i]? = some o) {a : Act} {w : World} {Q : Exit → Act → World → Prop} {S : St} (hR : dU P N Y ι μ S a w)
  {g:Option (Nat×Bool)} (hg:trG ops o.guard=some g) (hd:sy N o.dst=true) {K:St->Prop} {run:St->Prop} (h:nD g o.dst S K run)
  (hn:Next P N Y K (wpOpsIn Y.F 0 P ops Q rest))
  (hrun:∀S',dU P N Y ι μ S' a w->run S'->Region.wanted o (yielded ops a.tmps)=true->wpOpsIn Y.F 0 P ops Q (i::rest) a w):wpOpsIn Y.F 0 P ops Q (i::rest) a w:=by
 cases O4:o.guard with
 |none =>
  rw [O4] at hg;cases hg
  exact hrun S hR h (by simp [Region.wanted,O4])
 |some jb =>
  obtain ⟨j,b⟩:=jb
  rw [O4] at hg
  simp only [trG] at hg
  split at hg<;>try (cases hg;done)
  rename_i oj hoj
  split at hg<;>try (cases hg;done)
  rename_i d hdj
  cases hg
  have want:∀c,(get d S.env = .tf c\/get d S.env = .bool c)->Region.wanted o (yielded ops a.tmps)=(c==b):=fun c hc=>by
   simp only [Region.wanted,O4,yc hR.env hoj hdj hc]
   cases c<;>cases b<;>rfl
  have skip:∀S',dU P N Y ι μ S' a w->Region.wanted o (yielded ops a.tmps)=false->K ⟨put o.dst (.dc []) S'.env,S'.H,S'.ms⟩->wpOpsIn Y.F 0 P ops Q (i::rest) a w:=fun S' fO hw hk =>
   Tx (fun _=>trivial) ho hw (hn _ _ _ _ _ (fO.put hd (aj.le_refl _) (Mu.le_refl _) fO.inv Rel.und) hk)
  have aei:∀c,get d S.env = .bool c->dU P N Y ι μ (Td d c S) a w:=fun c hc =>
   ⟨fun t=>by
    simp only [Td,mL]
    by_cases ht:d=t
    ·subst ht; rw [if_pos rfl]
     have:=hR.env d;rw [hc] at this
     generalize hx:a.tmps.getD d undef=x at this
     cases this;exact .tf _
    ·rw [if_neg ht];exact hR.env t,hR.sz,hR.inv,hR.ms⟩
  simp only [nD] at h
  split at h
  ·rename_i c hc
   have hw:=want c (.inl hc)
   cases c<;>cases b<;>simp only at h
   ·exact hrun S hR h (by rw [hw];rfl)
   ·exact skip S hR (by rw [hw];rfl) h
   ·exact skip S hR (by rw [hw];rfl) h
   ·exact hrun S hR h (by rw [hw];rfl)
  ·rename_i c hc
   have hw:=want c (.inr hc)
   have EW:=aei c hc
   obtain ⟨h1,h2⟩:=h
   cases c with
   |true =>
    have h1:=h1 rfl
    cases b
    ·exact skip _ EW (by rw [hw];rfl) h1
    ·exact hrun _ EW h1 (by rw [hw];rfl)
   |false =>
    have h2:=h2 rfl
    cases b
    ·exact hrun _ EW h2 (by rw [hw];rfl)
    ·exact skip _ EW (by rw [hw];rfl) h2
  ·rename_i vs hc
   exact skip S hR (by simp only [Region.wanted,O4,vI hR.env hoj hdj hc];rfl) h
  ·exact h.elim
theorem uI {ops:Array Oper} {Q:Exit->Act->World->Prop} {K:St->Prop} {rest:List Nat} (hend:Next P N Y K (wpOpsIn Y.F 0 P ops Q rest)):∀{os:List Oper} {is:List dn} {k:Nat},de P N ops os=some is ->
  (∀j,j<os.length->os[j]?=ops[k+j]?)->∀{S:St} {a:Act} {w:World} {ι:aj} {μ:Mu},dU P N Y ι μ S a w->dW (eL P N out base) is S K->wpOpsIn Y.F 0 P ops Q (List.range' k os.length++rest) a w
 |[],is,k,h,_,S,a,w,ι,μ,hR,hK=>by cases h;exact hend _ _ _ _ _ hR hK
 |o::os,is,k,h,hk,S,a,w,ι,μ,hR,hK=>by
  unfold de at h
  split at h<;>try (cases h;done)
  rename_i it its hit O5
  cases h
  have ho:ops[k]?=some o:=by have:=hk 0 (by simp);simpa using this.symm
  have hk':∀j,j<os.length->os[j]?=ops[k+1+j]?:=fun j hj=>by have:=hk (j+1) (by simp only [List.length_cons];omega);rw [show k+(j+1)=k+1+j by omega] at this;simpa using this
  have hn:Next P N Y (fun S=>dW (eL P N out base) its S K) (wpOpsIn Y.F 0 P ops Q (List.range' (k+1) os.length++rest)):=fun ι μ S a w hR hK=>uI hend O5 hk' hR hK
  simp only [List.length_cons,List.range'_succ,List.cons_append]
  unfold lQ at hit
  split at hit<;>try (cases hit;done)
  rename_i hd
  split at hit<;>try (cases hit;done)
  rename_i g hg
  split at hit
  ·rename_i f args tys hop
   split at hit<;>try (cases hit;done)
   rename_i fo as hf ha
   cases hit
   refine yh ho hR hg hd hK hn fun S' fO hrun hw=>?_
   exact JL (c:=.value f) ho fO hw hop hf ha hd hrun hn
  ·rename_i r name args tys hop
   split at hit<;>try (cases hit;done)
   rename_i fo as hf ha
   cases hit
   refine yh ho hR hg hd hK hn fun S' fO hrun hw=>?_
   exact JL (c:=.invoke r name) ho fO hw hop hf ha hd hrun hn
  ·rename_i op _
   split at hit<;>try (cases hit;done)
   rename_i i hi
   cases hit
   refine yh ho hR hg hd hK hn fun S' fO hrun hw=>?_
   have key:∀{ι:aj} {S':St},dU P N Y ι μ S' a w->su (cg (eL P N out base) i S'.env S'.H.bl S'.H.next) i.lays o.dst S' (fun S=>dW (eL P N out base) its S K)->wpOpsIn Y.F 0 P ops Q (k::(List.range' (k+1) os.length++rest)) a w:=by
    intro ι S' fO hrun
    obtain ⟨ob,v,u,ag,cV,hk⟩:=Bg hrun
    have hnone:=fO.inv.nx S'.H.next (Nat.le_refl _)
    obtain ⟨ι',μ',x,w',hx,hi',hm,_,hinv,hv⟩:=uG fO.inv hnone fO.env hi ag cV
    exact vJ (fun _=>trivial) rfl ho hw (j9 hi) hx (hn _ _ _ _ _ (fO.put hd hi' hm hinv hv) hk)
   rcases hrun with hrun|hrun|⟨ids,u,hu,hrun⟩
   ·exact key fO hrun
   ·obtain ⟨ob, v, u, ag, cV, hk⟩ := Bg hrun
    obtain ⟨ι',μ',x,w',hx,hi',hm,_,hinv,hv⟩:=uH (aD:=S'.H.next) fO.inv (fO.inv.nx S'.H.next (Nat.le_refl _)) fO.env hi ag cV
    exact vJ (fun _=>trivial) rfl ho hw (j9 hi) hx (hn _ _ _ _ _ (fO.put hd hi' hm hinv hv) hk)
   ·obtain ⟨ι', hR''⟩ := fO.cl hu
    exact key hR'' hrun
theorem sH {ops : Array Oper} {Q : Exit → Act → World → Prop} {K : St → Prop} (hend : Next P N Y K (Q .normal)) {os : List Oper} {is : List dn} {k : Nat} (hi : de P N ops os = some is)
  (hk:∀j,os[j]?=ops[k+j]?) {S:St} {a:Act} {w:World} {ι:aj} {μ:Mu} (hR:dU P N Y ι μ S a w) (hK:dW (eL P N out base) is S K):wpOpsIn Y.F 0 P ops Q (List.range' k os.length) a w:=by
 have:=uI (Q:=Q) (rest:=[]) (fun ι μ S a w hR hK=>hend ι μ S a w hR hK) hi (fun j _=>hk j) hR hK
 rwa [List.append_nil] at this
end
end Go.AM
end
section
namespace Go.AM
section
variable {P:Program} {N:Nat} {Y:Ctx} {ι ι':aj} {μ μ':Mu} {H:aF} {w w':World} {out:Option Nat} {base:Nat}
theorem wpIn_loop_ghost {α : Type} {F : Fence} {n : Nat} {c : Code} {Q : Exit → Act → World → Prop} (I : α → Act → World → Prop) (m : α → Nat) {x : α} {a : Act} {w : World} (h₀ : I x a w)
  (round:∀x a w,I x a w->c.wpIn F n P (Exit.then (fun a' w'=>∃y,I y a' w'/\m y<m x) Q) a w):(Code.loop c).wpIn F n P Q a w:=by
 intro b k cs hro hb hr
 have key:∀j x a w,m x=j->I x a w ->
   ∃e a' w',Q e a' w'/\ArrivesIn (Machine.fenced P F) P (lone (b.atR a (.code c :: .inLoop c::k)) cs w) b k cs e a' w':=by
  intro j
  induction j using Nat.strongRecOn with
  |_ j ih =>
   intro x a w hn hI
   obtain ⟨e,a₁,w₁,hq,nJ⟩:=round x a w hI b (.inLoop c::k) cs hro hb hr
   cases e with
   |normal =>
    obtain ⟨y,hI₁,hlt⟩:=hq
    obtain ⟨e₂,a₂,w₂,hq₂,aej⟩:=ih (m y) (hn▸hlt) y a₁ w₁ rfl hI₁
    have h0:(lone (b.atR a₁ (.inLoop c::k)) cs w₁).fenced P F:=fenced_calm hb hr rfl
    exact ⟨e₂,a₂,w₂,hq₂,.of_steps (StepsIn.trans nJ (.one h0 stepR_inLoop)) aej⟩
   |exit id=>exact ⟨_,a₁,w₁,hq,.pass (x:=.inLoop c) rfl (fun _ _=>.inl (by simp)) nJ⟩
   |goto l=>exact ⟨_,a₁,w₁,hq,.pass (x:=.inLoop c) rfl (fun _ _=>.inl (by simp)) nJ⟩
   |ret=>exact ⟨_,a₁,w₁,hq,.pass (x:=.inLoop c) rfl (fun _ _=>.inl (by simp)) nJ⟩
   |panic ch=>exact ⟨_,a₁,w₁,hq,.pass (x:=.inLoop c) rfl (fun _ _=>.inl (by simp)) nJ⟩
   |outgrown=>exact ⟨_,a₁,w₁,hq,.pass (x:=.inLoop c) rfl (fun _ _=>.inl (by simp)) nJ⟩
 obtain ⟨e,a',w',hq,nJ⟩:=key _ x a w rfl h₀
 exact ⟨e,a',w',hq,.of_steps (.one (fenced_calm hb hr rfl) stepR_loop) nJ⟩
theorem gM {b:Frame} {a:Act} {k:List Item} {cs:List Frame} {c:Code}:step P (lone (b.atR a (.code (.scope c)::k)) cs w) = .next (lone (b.atR a (.code c :: .inScope c::k)) cs w) :=
 step_lone_go (by simp [stepG,stepG.exec,Frame.atR])
theorem Au {b:Frame} {a:Act} {k:List Item} {cs:List Frame} {c:Code}:step P (lone (b.atR a (.inScope c::k)) cs w) = .next (lone (b.atR a k) cs w) :=
 step_lone_go (by simp [stepG,stepG.exec,Frame.atR])
theorem kP {F:Fence} {n:Nat} {c:Code} {Q:Exit->Act->World->Prop} {a:Act} {w:World} (h:c.wpIn F n P Q a w) (hg:∀l a w,¬Q (.goto l) a w):(Code.scope c).wpIn F n P Q a w:=by
 intro b k cs hro hb hr
 obtain ⟨e,a₁,w₁,hq,nJ⟩:=h b (.inScope c::k) cs hro hb hr
 have h0:∀a w k,(lone (b.atR a (.code (.scope c)::k)) cs w).fenced P F:=fun a w k=>fenced_calm hb hr rfl
 have h1:∀a w k,(lone (b.atR a (.inScope c::k)) cs w).fenced P F:=fun a w k=>fenced_calm hb hr rfl
 cases e with
 |normal=>exact ⟨.normal,a₁,w₁,hq,.head (h0 _ _ _) gM (StepsIn.trans nJ (.one (h1 _ _ _) Au))⟩
 |exit id=>exact ⟨.exit id,a₁,w₁,hq,fun k' hk=>.head (h0 _ _ _) gM (nJ.1 k' (by simp [exitTo,hk])),fun hro' hk =>
   let ⟨k₁,e1,e2⟩:=nJ.2 hro' (by simp [exitTo,hk]);⟨k₁,e1,.head (h0 _ _ _) gM e2⟩⟩
 |goto l=>exact absurd hq (hg _ _ _)
 |ret=>exact ⟨_,a₁,w₁,hq,.of_steps (.one (h0 _ _ _) gM) nJ⟩
 |panic ch=>exact ⟨_,a₁,w₁,hq,.of_steps (.one (h0 _ _ _) gM) nJ⟩
 |outgrown=>exact ⟨_,a₁,w₁,hq,.of_steps (b:=b) (k:=k) (cs:=cs) (e:=.outgrown) (.one (h0 _ _ _) gM) nJ⟩
def JM (P:Program) (N:Nat) (out:Option Nat) (base:Nat):Prop:=∀(id:Nat) (ops:Array Oper) (Ey Tz:List dn),de P N ops ops.toList=some (Ey++Tz)->jO (aU ops) (Ey++Tz)=true->fh ops=true ->
 (∀i,Ey.length<=i->i<Ey.length+Tz.length->∀j,j<i->j∈(aU ops).getD i []) ->
 ∀S K,Cz (eL P N out base) (aU ops) Ey S (fun S=>dW (eL P N out base) Tz S K)->Oh P N out base (.region id ops true) S fun e S=>match e with | .normal=>K S|_=>False
def JN (P:Program) (N:Nat) (out:Option Nat) (base:Nat):Prop:=∀(id:Nat) (ops:Array Oper) (is:List dn) (c e:Nat),de P N ops ops.toList=some is->jO (aU ops) is=true->fh ops=true ->
 OI (aU ops) is=some (c,e) ->
 ∀S K,Cz (eL P N out base) [] (jv is c e) S (fun S=>dW (eL P N out base) (Cv is c e) S K)->Oh P N out base (.region id ops true) S fun e S=>match e with | .normal=>K S|_=>False
def mw (P:Program) (N:Nat) (out:Option Nat) (base:Nat):Prop:=JM P N out base/\JN P N out base
theorem fR (fW:mw P N out base):∀(code:Code) {c:C},fU P N code=some c->∀{S:St} {K:Ex->St->Prop},sj (eL P N out base) c S K->Oh P N out base code S K:=by
 intro code
 induction code with
 |skip => 
  intro c h S K hK Y ι μ a w ho hb hR
  cases h;exact wpIn_skip (Post.of (e':=.normal) hR rfl hK)
 |label l =>
  intro c h S K hK Y ι μ a w ho hb hR
  cases h;exact wpIn_label (Post.of (e':=.normal) hR rfl hK)
 |ret =>
  intro c h S K hK Y ι μ a w ho hb hR
  cases h;exact wpIn_ret (Post.of (e':=.ret) hR rfl hK)
 |exit id =>
  intro c h S K hK Y ι μ a w ho hb hR
  cases h;exact wpIn_exit (Post.of (e':=.exit id) hR rfl hK)
 |goto l=>intro c h;cases h
 |refuse why=>intro c h;cases h
 |scope b ih =>
  intro c h S K hK Y ι μ a w ho hb hR
  refine kP (ih h hK Y ι μ a w ho hb hR) fun l a w hq=>?_
  obtain ⟨_,_,_,_,_,e',_,he,_⟩:=hq
  cases e'<;>cases he
 |region id ops draw =>
  intro c h S K hK Y ι μ a w ho hb hR
  simp only [fU] at h
  split at h<;>try (cases h;done)
  rename_i is jr
  cases draw with
  |true =>
   simp only at h
   split at h<;>try (cases h;done)
   rename_i CI
   cases h
   split at hK
   ·rename_i c e hl
    simp only [sj] at hK
    refine wpIn_mono (fW.2 id ops is c e jr CI.1 CI.2 hl S _ hK Y ι μ a w ho hb hR) fun e a w hp=>?_
    obtain ⟨Y1,hY,ι',μ',S',e',h1,h2,h3⟩:=hp
    cases e'<;>simp at h3
    exact ⟨Y1,hY,ι',μ',S',.normal,h1,h2,h3⟩
   split at hK
   ·rename_i c hl
    simp only [sj] at hK
    unfold A4 at hl
    split at hl<;>try (cases hl;done)
    split at hl<;>try (cases hl;done)
    rename_i hq
    cases hl
    rw [Bool.and_eq_true,decide_eq_true_eq] at hq
    have htk:(is.take c).length=c:=by simp [hq.2]
    have e:is.take c++is.drop c=is:=List.take_append_drop ..
    refine wpIn_mono (fW.1 id ops (is.take c) (is.drop c) (by rw [e];exact jr) (by rw [e];exact CI.1) CI.2 (fun i hi hi2 j hj=>?_) S _ hK Y ι μ a w ho hb hR) fun e a w hp=>?_
    ·rw [htk] at hi
     rw [<-List.length_append,e] at hi2
     have:=List.all_eq_true.1 hq.1 i (List.mem_range.2 hi2)
     rw [Bool.or_eq_true,decide_eq_true_eq] at this
     rcases this with h|h
     ·omega
     ·simpa using List.all_eq_true.1 h j (List.mem_range.2 hj)
    ·obtain ⟨Y1, hY, ι', μ', S', e', h1, h2, h3⟩ := hp
     cases e'<;>simp at h3
     exact ⟨Y1,hY,ι',μ',S',.normal,h1,h2,h3⟩
   ·simp only [sj] at hK
    refine wpIn_mono (fW.1 id ops is [] (by rw [List.append_nil];exact jr) (by rw [List.append_nil];exact CI.1) CI.2 (fun i hi hi2=>by simp at hi2;omega) S _ hK Y ι μ a w ho hb hR) fun e a w hp=>?_
    obtain ⟨Y1,hY,ι',μ',S',e',h1,h2,h3⟩:=hp
    cases e'<;>simp at h3
    exact ⟨Y1,hY,ι',μ',S',.normal,h1,h2,h3⟩
  |false =>
   cases h
   simp only [sj] at hK
   refine wpIn_region ?_
   have:=sH (Y:=Y) (Q:=Post P N Y K) (K:=fun S=>K .normal S) (out:=out) (base:=base) (fun ι μ S a w hR hK=>(Post.of (e':=.normal) hR rfl hK)) (k:=0) jr (fun j=>by simp) hR hK
   rwa [Array.length_toList,<-List.range_eq_range'] at this
 |seq x y ihx ihy =>
  intro c h S K hK Y ι μ a w ho hb hR
  have h0:=h
  simp only [fU] at h
  split at h<;>try (cases h;done)
  rename_i cx cy hx hy
  split at h
  rotate_left
  next hd hmh =>
   split at h<;>try (cases h;done)
   rename_i bd hbd
   cases h
   rcases hK with hK|⟨ids,u,hu,hK⟩
   ·exact hK x y h0 (by rw [hmh];rfl) Y ι μ a w ho hb hR
   ·obtain ⟨ι', fO⟩ := hR.cl hu
    exact hK x y h0 (by rw [hmh];rfl) Y ι' μ a w ho hb fO
  cases h
  simp only [sj] at hK
  refine wpIn_seq (wpIn_mono (ihx hx hK Y ι μ a w ho hb hR) fun e a' w' hp=>?_)
  obtain ⟨Y1,hY,ι',μ',S',e',h1,h2,h3⟩:=hp
  cases e' with
  |normal=>cases h2;exact CH (ihy hy h3) hY ho hb h1
  |exit id=>cases h2;exact ⟨Y1,hY,ι',μ',S',.exit id,h1,rfl,h3⟩
  |ret=>cases h2;exact ⟨Y1,hY,ι',μ',S',.ret,h1,rfl,h3⟩
 |cond c0 x y ihx ihy =>
  intro c h S K hK Y ι μ a w ho hb hR
  simp only [fU] at h
  split at h<;>try (cases h;done)
  rename_i co cx cy hc hx hy
  cases h
  simp only [sj] at hK
  have rc:=aC hR.env hc
  generalize hg:a.eval c0=cv at rc
  split at hK
  ·rename_i hce; rw [hce] at rc; cases rc
   exact wpIn_cond hg (ihx hx hK Y ι μ a w ho hb hR)
  ·rename_i hce; rw [hce] at rc; cases rc
   exact wpIn_cond hg (ihy hy hK Y ι μ a w ho hb hR)
  ·rename_i t hce; rw [hce] at rc; cases rc
   obtain ⟨k1,k2⟩:=hK
   have hrw:dU P N Y ι μ (Th co t S) a w:=by
    cases co with
    |c v=>exact hR
    |m d dH=>exact hR
    |t d =>
     refine ⟨fun i=>?_,hR.sz,hR.inv,hR.ms⟩
     simp only [Th,Td,mL]
     by_cases hi:d=i
     ·subst hi; rw [if_pos rfl]
      have:=hR.env d
      have e1:get d S.env = .bool t:=hce
      rw [e1] at this
      generalize a.tmps.getD d undef=x at this
      cases this;exact .tf _
     ·rw [if_neg hi];exact hR.env i
   cases t with
   |true=>exact wpIn_cond hg (ihx hx (k1 rfl) Y ι μ a w ho hb hrw)
   |false=>exact wpIn_cond hg (ihy hy (k2 rfl) Y ι μ a w ho hb hrw)
  ·rename_i t hce; rw [hce] at rc
   cases rc with
   |cb _ b hbt =>
   obtain ⟨k1,k2⟩:=hK
   have hrw:dU P N Y ι μ (Th co b S) a w:=by
    cases co with
    |c v=>exact hR
    |m d dH=>exact hR
    |t d =>
     refine ⟨fun i=>?_,hR.sz,hR.inv,hR.ms⟩
     simp only [Th,Td,mL]
     by_cases hi:d=i
     ·subst hi; rw [if_pos rfl]
      have e2:a.tmps.getD d undef = .bool b:=by
       unfold dI at hc
       split at hc<;>try (cases hc;done)
       ·cases hc;exact hg
       ·split at hc<;>cases hc
      rw [e2];exact .tf _
     ·rw [if_neg hi];exact hR.env i
   cases b with
   |true=>exact wpIn_cond hg (ihx hx (k1 (hbt rfl)) Y ι μ a w ho hb hrw)
   |false=>exact wpIn_cond hg (ihy hy k2 Y ι μ a w ho hb hrw)
  ·exact hK.elim
 |block id b ih =>
  intro c h S K hK Y ι μ a w ho hb hR
  simp only [fU] at h
  cases hx:fU P N b<;>simp [hx] at h
  subst h
  simp only [sj] at hK
  refine wpIn_block (wpIn_mono (ih hx hK Y ι μ a w ho hb hR) fun e a' w' hp=>?_)
  obtain ⟨Y1,hY,ι',μ',S',e',h1,h2,h3⟩:=hp
  cases e' with
  |normal=>cases h2;exact ⟨Y1,hY,ι',μ',S',.normal,h1,rfl,h3⟩
  |exit id' =>
   cases h2
   simp only [Exit.inBlock]
   simp only at h3
   split at h3
   ·rename_i CJ
    rw [if_pos (Nat.eq_of_beq_eq_true CJ)]
    exact ⟨Y1,hY,ι',μ',S',.normal,h1,rfl,h3⟩
   ·rename_i CJ
    rw [if_neg (fun e=>by subst e;rw [Nat.beq_refl] at CJ;cases CJ)]
    exact ⟨Y1,hY,ι',μ',S',.exit id',h1,rfl,h3⟩
  |ret=>cases h2;exact ⟨Y1,hY,ι',μ',S',.ret,h1,rfl,h3⟩
 |loop b ih =>
  intro c h S K hK
  simp only [fU] at h
  cases hx:fU P N b<;>simp [hx] at h
  subst h
  rcases hK with hK|⟨ids,u,hu,hK⟩
  ·exact hK b hx
  ·intro Y ι μ a w ho hb hR
   obtain ⟨ι',fO⟩:=hR.cl hu
   exact hK b hx Y ι' μ a w ho hb fO
 |rangeFunc f ps x y ihx ihy =>
  intro c h S K hK
  simp only [fU] at h
  split at h<;>try (cases h;done)
  rename_i fo cx cy hf hx hy
  cases h
  rcases hK with hK|⟨ids,u,hu,hK⟩
  ·exact hK f ps x y hf rfl hx hy
  ·intro Y ι μ a w ho hb hR
   obtain ⟨ι',fO⟩:=hR.cl hu
   exact hK f ps x y hf rfl hx hy Y ι' μ a w ho hb fO
end
end Go.AM
end
section
namespace Go.AM
def bW:Ar:=bn (fun _ _ _ _=>False) (fun _ _ _=>False) (fun _ _ _=>False) (fun _ _ _ _=>False) (fun _ _ _ _ _ _=>False) (fun _ _ _=>False)
def JO (ar : Ar) (bl : ah) (g : Bool) (k : Nat) : V → Option V
 | .ptr id off=>match av id bl with
  |some (.cells cs _)=>match cut off k cs with
   |some vs=>cE g vs
   |none=>none
  |_=>none
 | .fe cs=>match cut 0 k cs with
  |some vs=>cE g vs
  |none=>none
 | .pa id t m=>match av id bl with
  |some (.arr t' xs _)=>if t=t' then (match EG ar t' xs m 0 with
   |vs=>if vs.length=k then cE g vs else none) else none
  |_=>none
 |_=>none
def wI (ar : Ar) (S : St) : List RV → Option (List V)
 |[]=>some []
 | .t n::r=>match wI ar S r with
  |some vs=>some (get n S.env::vs)
  |none=>none
 | .cell n g k::r=>match JO ar S.H.bl g k (get n S.env) with
  |some v=>match wI ar S r with
   |some vs=>some (v::vs)
   |none=>none
  |none=>none
def vK : List V → V
 |[v]=>v
 |vs=>.dc vs
def fk : List Nat → ah → Option ah
 |[],bl=>some bl
 |id::r,bl=>match av id bl with
  |some .iy=>fk r (bC id bl)
  |_=>none
def Mm (ar:Ar) (res:List RV) (tys:List (Option Ty)) (K:V->Prop):Ex->St->Prop:=fun e S=>match e with
 | .exit _=>False
 | .normal=>rD ar res tys K S
 | .ret=>rD ar res tys K S
where rD (ar:Ar) (res:List RV) (tys:List (Option Ty)) (K:V->Prop) (S:St):Prop:=match fk S.ms S.H.bl with
 |some bl=>match wI bW ⟨S.env,⟨S.H.next,bl⟩,[]⟩ res with
  |some vs=>match fin ar bl 8 (vK (cq tys vs)) with
   |some r=>K r
   |none=>False
  |none=>False
 |none=>False
def CK (res:List RV) (tys:List (Option Ty)) (K:V->aF->Prop):Ex->St->Prop:=fun e S=>match e with
 | .exit _=>False
 | .normal=>rD res tys K S
 | .ret=>rD res tys K S
where rD (res:List RV) (tys:List (Option Ty)) (K:V->aF->Prop) (S:St):Prop:=match fk S.ms S.H.bl with
 |some bl=>match wI bW ⟨S.env,⟨S.H.next,bl⟩,[]⟩ res with
  |some vs=>K (vK (cq (hTs tys) vs)) ⟨S.H.next,bl⟩
  |none=>False
 |none=>False
section
variable {P : Program} {N : Nat} {Y : Ctx} {ι ι' : aj} {μ μ' : Mu} {H : aF} {w w' : World} {out : Option Nat} {base : Nat}
 {c1:Nat->List V->aF->(V->aF->Prop)->Prop} {c2:Nat->List V->V->Prop} {c3:C->St->(Ex->St->Prop)->Prop}
theorem dP : ∀ {n : Nat} {v : V} {x : Value}, dX n v = true → Rel ι μ v x → Rel ι μ' v x
 |0,v,x,h,_=>by cases h
 |n+1,v,x,h,hr=>by
  have all:∀{cs:List V} {i:Nat} {v:V},cs.all (dX n)=true->cs[i]?=some v->dX n v=true:=fun h hv=>List.all_eq_true.1 h _ (List.mem_of_getElem? hv)
  cases hr<;>simp only [dX] at h<;>try (cases h;done)
  case any=>exact .any _
  case tf=>exact .tf _
  case bool=>exact .bool _
  case int=>exact .int _ _
  case str=>exact .str _
  case ga=>exact .ga
  case cW=>exact .cW
  case gn=>exact .gn
  case fM t xs hd=>exact .fM t xs _ hd
  case cw=>exact .cw _
  case fe cs b o g h1 h2 h3=>exact .fe cs b o g h1 (fun i v hv=>dP (all h hv) (h2 i v hv)) h3
  case ip t x b o us h1 h2=>exact .ip t x b o us h1 h2
  case fn f fs cs xs ys h1 h2 h3 h4 =>
   simp only [Bool.and_eq_true] at h
   exact .fn f fs cs xs ys h1 (fun i v x hv hx=>dP (all h.1 hv) (h2 i v x hv hx)) h3 (fun i v x hv hx=>dP (all h.2 hv) (h4 i v x hv hx))
  case agg cs xs h1 h2 h3=>exact .agg cs xs h1 (fun i v x hv hx=>dP (all h hv) (h2 i v x hv hx)) h3
  case dc cs xs h1 h2=>exact .dc cs xs h1 (fun i v x hv hx=>dP (all h hv) (h2 i v x hv hx))
  case cL t v x hv=>exact .cL t v x (dP h hv)
  case cb c b hc=>exact .cb c b hc
  case cT=>exact .cT
  case mG t xs b o us h1 h2=>exact .mG t xs b o us h1 h2
noncomputable def aj.all (ι:aj) (B:Nat->Prop) (w:World):aj:=by
 classical exact fun b o=>if B b then w.cell? ⟨b,o,none⟩ else ι b o
theorem aj.TA {ι:aj} {B:Nat->Prop} {w:World} {b o:Nat} (h:B b):ι.all B w b o=w.cell? ⟨b,o,none⟩:=by unfold aj.all;rw [if_pos h]
theorem aj.TB {ι:aj} {B:Nat->Prop} {w:World} {b o:Nat} (h:¬B b):ι.all B w b o=ι b o:=by unfold aj.all;rw [if_neg h]
theorem aj.H9 {ι:aj} {B:Nat->Prop} {w:World} (hr:∀b o x,ι b o=some x->w.cell? ⟨b,o,none⟩=some x) {b o:Nat} {x:Value} (h:ι.all B w b o=some x):w.cell? ⟨b,o,none⟩=some x:=by
 unfold aj.all at h;split at h
 ·exact h
 ·exact hr _ _ _ h
theorem aj.CL (h:∀b o x,ι b o=some x->w.cell? ⟨b,o,none⟩=some x) {B:Nat->Prop}:ι.le (ι.all B w):=fun b o x hx=>by
 unfold aj.all;split
 ·exact h _ _ _ hx
 ·exact hx
theorem ji {g : V → Option V} (hg : ∀ v r x, g v = some r → Rel ι μ v x → Rel ι' μ' r x) : ∀ {cs ds : List V} {xs : List Value}, dY g cs = some ds → aJ ι μ cs xs → aJ ι' μ' ds xs
 |[],ds,xs,h,hr=>by cases h;rw [hr.of_nil];exact .nil
 |v::r,ds,xs,h,hr=>by
  unfold dY at h
  obtain ⟨x,xs',rfl,h1,h2⟩:=hr.bL
  split at h<;>try (cases h;done)
  rename_i y hy
  split at h<;>try (cases h;done)
  rename_i ys hys
  cases h
  exact .cons (hg _ _ _ hy h1) (ji hg hys h2)
theorem w6 {ar:Ar} (hsub:∀{α:Type} (xs:List α) lo n,ar.sub' xs lo n=(xs.drop lo).take n) {bl:ah} {nx:Nat} (hI:Inv P Y ι μ ⟨nx,bl⟩ w) :
  ∀{n:Nat} {v r:V} {x:Value},fin ar bl n v=some r->Rel ι μ v x->Rel (ι.all Y.own w) (fun _=>none) r x
 |0,v,r,x,h,_=>by cases h
 |n+1,v,r,x,h,hr=>by
  have hle:=aj.CL (B:=Y.own) hI.rd
  have Ia:∀{L:Loc} {vs:List Value} {fz:Bool} {id:Nat},Mem Y.own ι μ id fz w L vs->Reads (ι.all Y.own w) L.b L.ba vs:=fun hM j v hv=>by
   rw [aj.TA hM.old]
   exact hM.rangeAt j v hv
  have g:∀v r x,fin ar bl n v=some r->Rel ι μ v x->Rel (ι.all Y.own w) (fun _=>none) r x:=fun v r x h hr=>w6 hsub hI h hr
  have conv:∀{cs ds:List V} {xs:Array Value},dY (fin ar bl n) cs=some ds->cs.length=xs.size->(∀(i:Nat) v x,cs[i]?=some v->xs[i]?=some x->Rel ι μ v x)->aJ (ι.all Y.own w) (fun _=>none) ds xs.toList :=
   fun hm h1 h2=>ji g hm ⟨by simpa using h1,fun i v x hv hx=>h2 i v x hv (by simpa using hx)⟩
  cases hr<;>simp only [fin] at h<;>try (cases h;done)
  case any=>cases h;exact .any _
  case tf=>cases h;exact .tf _
  case bool=>cases h;exact .bool _
  case int=>cases h;exact .int _ _
  case str=>cases h;exact .str _
  case ga=>cases h;exact .ga
  case cW=>cases h;exact .cW
  case gn=>cases h;exact .gn
  case fM t xs hd=>cases h;exact .fM t xs _ (af.mono (t:=.list t) hle hd)
  case cw=>cases h;exact .cw _
  case sl id t lo m cap L hL h1 h2 h3 =>
   split at h<;>try (cases h;done)
   rename_i t' xs fz hb
   split at h<;>try (cases h;done)
   rename_i e;subst e
   cases h
   rw [hsub]
   have hF:js (ι.all Y.own w) μ id t xs:=by
    rcases hI.live _ _ hb with ⟨e,hn⟩|⟨L',vs,hM,hR,hl⟩
    ·exact .inl ⟨e,hn⟩
    ·exact .inr ⟨L',vs,hM.mu,Ia hM,bx.mono (fun _ _=>af.mono hle) hR,hl⟩
   exact .fM _ _ _ (hF.slice (.sl (ι:=ι) id t lo m cap L hL h1 h2 h3))
  case bO id t lo a =>
   split at h<;>try (cases h;done)
   rename_i t' xs fz hb
   split at h<;>try (cases h;done)
   rename_i e;subst e
   cases h
   rw [hsub]
   exact .fM _ _ _ ⟨a,0,by simp,by simp,.inl (by simp)⟩
  case ptr id off L hL =>
   split at h<;>try (cases h;done)
   rename_i cs fz hb
   split at h<;>try (cases h;done)
   rename_i ds hds
   split at h<;>try (cases h;done)
   rename_i hoff
   cases h
   obtain ⟨L',vs,hM,hR⟩:=hI.live _ _ hb
   rw [hM.mu] at hL;cases hL
   have fO:=ji g hds hR
   have hrd:=Ia hM
   refine .fe _ L.b (L.ba+off) (fun i=>vs.getD (off+i) .nilIface) (fun i hi=>?_) (fun i v hv=>?_) (fun i=>?_)
   ·have hlt : off + i < vs.length := by have := fO.1; simp at hi; omega
    have:vs[off+i]?=some (vs.getD (off+i) .nilIface):=by simp [List.getD,hlt]
    rw [Nat.add_assoc];exact hrd _ _ this
   ·have rE : ds[off + i]? = some v := by simpa using hv
    obtain ⟨y,hy,hry⟩:=fO.at rE
    simp only [List.getD,hy,Option.getD_some];exact hry
   ·by_cases hlt : off + i < vs.length
    ·have : vs.getD (off + i) .nilIface = vs[off + i] := by simp [List.getD, hlt]
     rw [this];exact hM.one _ (List.getElem_mem hlt)
    ·have : vs.getD (off + i) .nilIface = .nilIface := by simp [List.getD, List.getElem?_eq_none (show vs.length ≤ off + i by omega)]
     rw [this];rfl
  case fe cs b o gf h1 h2 h3 =>
   split at h<;>try (cases h;done)
   rename_i hall
   cases h
   exact .fe cs b o gf (fun i hi=>hle _ _ _ (h1 i hi)) (fun i v hv=>(dP (List.all_eq_true.1 hall _ (List.mem_of_getElem? hv)) (h2 i v hv)).mono hle (Mu.le_refl _)) h3
  case ip t y b o us h1 h2=>cases h;exact .ip t y b o us (h1.mono hle) (af.mono hle h2)
  case fn f fs cs xs ys h1 h2 h3 h4 =>
   split at h<;>try (cases h;done)
   rename_i as bs ha hb
   cases h
   have r1:=conv ha h1 h2
   have r2:=conv hb h3 h4
   exact .fn f as bs xs ys (by simpa using r1.1) (fun i v x hv hx=>r1.2 i v x hv (by simpa using hx)) (by simpa using r2.1) (fun i v x hv hx=>r2.2 i v x hv (by simpa using hx))
  case agg cs xs h1 h2 h3 =>
   split at h<;>try (cases h;done)
   rename_i ds hds
   cases h
   have r1:=conv hds h1 h2
   exact .agg ds xs (by simpa using r1.1) (fun i v x hv hx=>r1.2 i v x hv (by simpa using hx)) h3
  case dc cs xs h1 h2 =>
   split at h<;>try (cases h;done)
   rename_i ds hds
   cases h
   have r1:=conv hds h1 h2
   exact .dc ds xs (by simpa using r1.1) (fun i v x hv hx=>r1.2 i v x hv (by simpa using hx))
  case cL t v x hv =>
   split at h<;>try (cases h;done)
   rename_i r' hr'
   cases h
   exact .cL t r' x (g _ _ _ hr' hv)
  case cb c b hc=>cases h;exact .cb c b hc
  case cT=>cases h;exact .cT
  case mG t xs b o us h1 h2=>cases h;exact .mG t xs b o us (h1.mono hle) (bx.mono (fun _ _=>af.mono hle) h2)
  case pa id t m L hL hm =>
   split at h<;>try (cases h;done)
   rename_i t' xs fz hb
   split at h<;>try (cases h;done)
   rename_i e;subst e
   cases h
   rcases hI.live _ _ hb with ⟨e,hn⟩|⟨L',vs,hM,hR,hl⟩
   ·rw [hn] at hL;cases hL
   ·rw [hM.mu] at hL; cases hL
    exact .mG _ _ _ _ vs (Ia hM) (bx.mono (fun _ _=>af.mono hle) hR)
end
end Go.AM
end
section
namespace Go.AM
section
variable {P:Program} {N:Nat} {Y:Ctx} {ι ι':aj} {μ μ':Mu} {H:aF} {w w':World} {out:Option Nat} {base:Nat}
theorem Inv.shut {bl:ah} {n id:Nat} {L:Loc} (h:Inv P Y ι μ ⟨n,bl⟩ w) (hb:av id bl=some .iy) (hL:μ id=some L):Inv P Y ι μ ⟨n,bC id bl⟩ (w.putObj L.b (.deferred none)):=by
 obtain ⟨L',h1,h2,h3⟩:=h.live id _ hb
 rw [hL] at h1;cases h1
 have hlt:L.b<w.heap.size:=(Array.getElem?_eq_some_iff.1 h3).1
 have bZ:∀k,k≠L.b->(w.putObj L.b (.deferred none)).heap[k]?=w.heap[k]?:=fun k hk=>World.putObj_heap_other hk
 have hsub:=h.del id
 refine ⟨⟨h.below.os, h.below.tape, h.below.output, by rw [World.putObj_size]; exact h.below.size, fun k hk hx => ?_, h.below.dr, fun k hk => (h.below.maps k hk).trans (by
   by_cases e:k=L.b
   ·subst e;exact .no (fun ms c e=>by rw [h3] at e;cases e)
   ·exact .eq (bZ k e))⟩,h.i0,h.iB,fun b o x hx=>?_,h.m0,h.nx,fun i B hB=>?_,hsub.inj,hsub.lt,h.gl⟩
 ·rw [bZ k (Ctx.mh h2 hk hx)];exact h.below.block k hk hx
 ·have := h.rd b o x hx
  have hne:b≠L.b:=fun e=>by subst e;simp [World.cell?,h3] at this
  unfold World.cell? at this ⊢
  simp only at this ⊢
  rw [bZ b hne];exact this
 ·simp only at hB
  rw [bh] at hB
  split at hB
  ·cases hB
  ·rename_i e
   refine (h.live i B hB).mono (aj.le_refl _) (Mu.le_refl _) (fun h=>h) (fun L' hL'=>bZ _ (fun e'=>e (h.inj i id B _ L' L hB hb hL' hL e'))) (fun _ _ h=>h)
theorem O6 {ar:Ar} {bl:ah} {g:Bool} {k:Nat} {v y:V} (h:JO ar bl g k v=some y):cg ar (.load g k (.c v)) [] bl 0=some ([],y,[]):=by
 unfold JO at h
 simp only [cg,O.ev]
 split at h<;>try (cases h;done)
 ·split at h <;> try (cases h; done)
  rename_i hb
  split at h<;>try (cases h;done)
  rename_i hc
  simp only [hb,hc,h]
 ·split at h <;> try (cases h; done)
  rename_i hc
  simp only [hc,h]
 ·split at h <;> try (cases h; done)
  rename_i hb
  split at h<;>try (cases h;done)
  rename_i e
  subst e
  dsimp only at h
  split at h<;>try (cases h;done)
  rename_i hk
  simp only [hb,if_true,if_pos hk,h]
def yj (tmps : Array Value) : ResultVar → Sem Value
 | .tmp t=>pure (tmps.getD t undef)
 | .cell a t=>do loadVar t (<-asAddr (tmps.getD a undef))
theorem Ib (fn : Func) (tmps : Array Value) : results fn tmps = (do
  let vs <-fn.results.mapM (yj tmps)
  pure (if h:vs.size=1 then vs[0] else .tuple vs)):=rfl
theorem ym (hI:Inv P Y ι μ H w) {env:List (Nat×V)} {ms:List Nat} {tmps:Array Value} (he:fu ι μ env tmps):∀{rs:List ResultVar} {res:List RV} {vs:List V},OL P rs=some res->wI bW ⟨env,H,ms⟩ res=some vs ->
  ∃xs,(rs.mapM (yj tmps)).run P w = .ok xs w/\aJ ι μ vs xs
 |[],res,vs,h,hv=>by cases h;cases hv;exact ⟨[],rfl,.nil⟩
 | .tmp t::rs,res,vs,h,hv=>by
  simp only [OL] at h
  cases hr:OL P rs<;>simp [hr] at h
  subst h
  simp only [wI] at hv
  split at hv<;>try (cases hv;done)
  rename_i vs' hvs
  cases hv
  obtain ⟨xs,h1,h2⟩:=ym hI he hr hvs
  exact ⟨tmps.getD t undef::xs,by simp only [List.mapM_cons,yj,Sem.run_bind,Sem.run_pure,Result.andThen_ok,h1],.cons (he t) h2⟩
 | .cell a t::rs,res,vs,h,hv=>by
  simp only [OL] at h
  split at h<;>try (cases h;done)
  rename_i k g rs' hk hg hr
  cases h
  simp only [wI] at hv
  split at hv<;>try (cases hv;done)
  rename_i v hl
  split at hv<;>try (cases hv;done)
  rename_i vs' hvs
  cases hv
  obtain ⟨xs,h1,h2⟩:=ym hI he hr hvs
  have ag:=O6 (ar:=bW) hl
  obtain ⟨_,y,hy,hry⟩:=xX (env:=[]) (x:=.c (get a env)) hI hk hg (he a) ag (fun b hb=>by cases hb)
  have hp:∃ad,tmps.getD a undef = .pointer (some ad):=by
   have:=he a
   unfold JO at hl
   split at hl<;>try (cases hl;done)
   ·rename_i hge;rw [hge] at this;generalize tmps.getD a undef=x at this;cases this;exact ⟨_,rfl⟩
   ·rename_i hge;rw [hge] at this;generalize tmps.getD a undef=x at this;cases this;exact ⟨_,rfl⟩
   ·rename_i hge;rw [hge] at this;generalize tmps.getD a undef=x at this;cases this;exact ⟨_,rfl⟩
  obtain ⟨ad,hp⟩:=hp
  rw [hp] at hy
  have hy':(loadVar t ad).run P w = .ok y w:=by simpa [Instr.loadAt,Instr.sureAddr] using hy
  exact ⟨y::xs,by simp only [List.mapM_cons,yj,Sem.run_bind,hp,asAddr,Sem.run_pure,Result.andThen_ok,hy',h1],.cons hry h2⟩
theorem Ff (hI : Inv P Y ι μ H w) {env : List (Nat × V)} {ms : List Nat} {tmps : Array Value} (he : fu ι μ env tmps) {func : Func} {res : List RV} {vs : List V} (h : OL P func.results.toList = some res)
  (hv:wI bW ⟨env,H,ms⟩ res=some vs):∃x,(results func tmps).run P w = .ok x w/\∀tys,Rel ι μ (vK (cq tys vs)) x:=by
 obtain ⟨xs,h1,h2⟩:=ym hI he h hv
 have hm:(func.results.mapM (yj tmps)).run P w = .ok xs.toArray w:=by
  rw [Array.mapM_eq_mapM_toList]
  simp [h1]
 refine ⟨if h:xs.toArray.size=1 then xs.toArray[0] else .tuple xs.toArray,?_,?_⟩
 ·rw [Ib, Sem.run_bind, hm]
  rfl
 ·intro tys
  replace h2:=jZ (ts:=tys) h2
  generalize cq tys vs=vs at h2
  match xs,vs,h2 with
  |[],vs,h2 => 
   have:vs=[]:=List.length_eq_zero_iff.1 h2.1
   subst this
   exact .dc _ _ rfl (fun i v x hv=>by simp at hv)
  |[x],[v],h2 => 
   obtain ⟨x',r,e,h3,_⟩:=h2.bL
   cases e;exact h3
  |x::y::r,v::v'::r',h2 =>
   rw [dif_neg (by simp)]
   exact .dc _ _ (by simpa using h2.1) (fun i v x hv hx=>h2.2 i v x hv (by simpa using hx))
  |[x],[],h2=>exact absurd h2.1 (by simp)
  |[x],v::v'::r',h2=>exact absurd h2.1 (by simp)
  |x::y::r,[],h2=>exact absurd h2.1 (by simp)
  |x::y::r,[v],h2=>exact absurd h2.1 (by simp)
theorem Inv.taken (h:Inv P Y ι μ H w) {r:Nat} (hr:w.heap[r]?=some (.deferred (some []))) (hown:Y.own r) (hne:∀id B L,av id H.bl=some B->μ id=some L->L.b≠r) (o:Obj):Inv P Y ι μ H (w.putObj r o):=by
 have bZ:∀k,k≠r->(w.putObj r o).heap[k]?=w.heap[k]?:=fun k hk=>World.putObj_heap_other hk
 refine ⟨⟨h.below.os,h.below.tape,h.below.output,by rw [World.putObj_size];exact h.below.size,fun k hk hx=>?_,h.below.dr,fun k hk=>(h.below.maps k hk).trans ?_⟩,h.i0,h.iB,fun b o2 x hx=>?_,h.m0,h.nx,fun i B hB=>?_,h.inj,h.lt,h.gl⟩
 ·rw [bZ k (Ctx.mh hown hk hx)];exact h.below.block k hk hx
 ·by_cases e : k = r
  ·subst e;rw [hr];exact .no fun _ _ e=>by cases e
  ·exact .eq (bZ k e)
 ·have := h.rd b o2 x hx
  have hne:b≠r:=fun e=>by subst e;simp [World.cell?,hr] at this
  unfold World.cell? at this ⊢
  simp only at this ⊢
  rw [bZ b hne];exact this
 ·exact (h.live i B hB).mono (aj.le_refl _) (Mu.le_refl _) (fun h=>h) (fun L' hL'=>bZ _ (hne i B L' hB hL')) (fun _ _ h=>h)
theorem Ic {func:Func} {R:Ending->World->Prop} {tmps:Array Value} {Y Y1:Ctx} (hY:Ext P Y Y1) (hid:Y.hid=[]):∀{H:aF} {w:World},Inv P Y1 ι μ H w ->
  (∀w',Inv P Y ι μ H w'->LeavesInM Fence.wide 0 P func tmps R [] .returning w')->LeavesInM Fence.wide 0 P func tmps R (Y1.hid.map coll) .returning w:=by
 induction hY with
 |refl=>intro H w hI h;rw [hid];exact h w hI
 |step hY ro hI0 hr own ih =>
  rename_i Y1 ι0 μ0 H0 w0 r
  intro H w hI h
  have hlt:=(Array.getElem?_eq_some_iff.1 hr).1
  have EW:w.heap[r]?=some (.deferred (some [])):=(hI.below.block r hlt fun h=>h.2 rfl).trans hr
  have hne:∀id B L,av id H.bl=some B->μ id=some L->L.b≠r:=fun id B L hB hL e=>by
   rcases ((hI.live id B hB).loc hL).1 with h|h
   ·have : w0.heap.size ≤ L.b := h
    omega
   ·exact h.2 e
  have oJ:=(hI0.O3 hI).taken EW own hne (.deferred none)
  exact ⟨by simp [coll],.inl ⟨r,_,rfl,run_takeDeferred EW,ih oJ h⟩⟩
theorem uJ {func:Func} {res:List RV} (hres:OL P func.results.toList=some res) {R:Ending->World->Prop} {tmps:Array Value} {env:List (Nat×V)} {n:Nat} {vs:List V} {Y Y1:Ctx} (hY:Ext P Y Y1) (hid:Y.hid=[]) :
  ∀{ms:List Nat} {bl bP:ah} {ds:List Deferred} {w:World},Inv P Y1 ι μ ⟨n,bl⟩ w->fu ι μ env tmps->mo Y1.hid μ ms ds->fk ms bl=some bP->wI bW ⟨env,⟨n,bP⟩,[]⟩ res=some vs ->
   (∀x w',Inv P Y ι μ ⟨n,bP⟩ w'->(∀tys,Rel ι μ (vK (cq tys vs)) x)->R (.returned x) w')->LeavesInM Fence.wide 0 P func tmps R ds .returning w
 |[],bl,bP,ds,w,hI,he,hm,hs,hv,hR=>by
  cases hs
  rw [show ds=Y1.hid.map coll from hm]
  refine Ic hY hid hI fun w' hI'=>?_
  obtain ⟨x,h1,h2⟩:=Ff hI' he hres hv
  exact ⟨x,h1,hR x w' hI' h2⟩
 |id::ms,bl,bP,ds,w,hI,he,⟨L,d,ds',e1,hL,e2,hm⟩,hs,hv,hR=>by
  subst e1;subst e2
  unfold fk at hs
  split at hs<;>try (cases hs;done)
  rename_i hb
  obtain ⟨L',h1,h2,h3⟩:=hI.live id _ hb
  rw [hL] at h1;cases h1
  exact ⟨by simp,.inl ⟨L.b,_,rfl,run_takeDeferred h3,uJ hres hY hid (hI.shut hb hL) he hm hs hv hR⟩⟩
theorem yp : ∀ {vs : List V} {n t : Nat}, get t (args n vs) = if n ≤ t then vs.getD (t - n) .any else .any
 |[],n,t=>by simp [args,get]
 |v::r,n,t=>by
  rw [args,cz]
  by_cases h:n=t
  ·subst h;simp
  ·rw [if_neg h, yp]
   by_cases h2:n<=t
   ·rw [if_pos (by omega),if_pos h2,show t - n=(t - (n+1))+1 by omega];rfl
   ·rw [if_neg (by omega),if_neg h2]
theorem JP {f : Nat} {func : Func} {fn : Fn} (hf : P.funcs[f]? = some func) (htr : cM P func = some fn) (fW : mw P fn.N none base) {vs : List V} {H : aF} (hlen : vs.length ≤ fn.np) {Q : Ex → St → Prop}
  (h:sj (eL P fn.N none base) fn.body ⟨args 0 vs,H,[]⟩ Q) {Y:Ctx} {ι:aj} {μ:Mu} {w:World} {as:Array Value} (hro:Y.ro=none) (CM:Y.hid=[]) (hbase:Y.base base) (hI:Inv P Y ι μ H w) (hr:aJ ι μ vs as.toList)
  {R:Ending->World->Prop} (hR:∀Y1 ι' μ' S' a' w' e',Ext P Y Y1->dU P fn.N Y1 ι' μ' S' a' w'->Q e' S'->(e' = .normal\/e' = .ret)/\LeavesInM Fence.wide 0 P func a'.tmps R a'.defers .returning w') :
  CallsIn Fence.wide 0 P f as w R:=by
 unfold cM at htr
 split at htr<;>try (cases htr;done)
 rename_i c hb
 split at htr<;>try (cases htr;done)
 rename_i b rs hc SU
 split at htr<;>try (cases htr;done)
 rename_i hnp
 cases htr
 simp only at *
 have hF:Y.F=Fence.wide:=by simp [Ctx.F,hro,Fence.wide]
 have hsize:as.size=vs.length:=by have:=hr.1;simp at this;omega
 have mQ:dU P func.ntmps Y ι μ ⟨args 0 vs,H,[]⟩ { tmps:=as++Array.replicate (func.ntmps - as.size) undef,defers:=[] } w:=by
  refine ⟨fun t=>?_,by simp;omega,hI,by rw [CM];rfl⟩
  simp only [yp,Nat.zero_le,if_true,Nat.sub_zero]
  by_cases ht:t<vs.length
  ·have hv : vs[t]? = some (vs.getD t .any) := by simp [List.getD, ht]
   obtain ⟨x,hx,hrx⟩:=hr.at hv
   have:(as++Array.replicate (func.ntmps - as.size) undef).getD t undef=x:=by
    rw [Array.getD_eq_getD_getElem?,Array.getElem?_append_left (by omega)]
    simp at hx;simp [hx]
   rw [this];exact hrx
  ·have : vs.getD t .any = .any := by simp [List.getD, List.getElem?_eq_none (show vs.length ≤ t by omega)]
   rw [this];exact .any _
 refine callsIn_of_wp_marks hf hb trivial ?_
 have hwp:=fR fW c hc h Y ι μ _ w hro hbase mQ
 rw [hF] at hwp
 refine wpIn_mono hwp fun e a' w' hp=>?_
 obtain ⟨Y1,hY,ι',μ',S',e',h1,h2,h3⟩:=hp
 obtain ⟨h4,h5⟩:=hR Y1 ι' μ' S' a' w' e' hY h1 h3
 rcases h4 with rfl|rfl<;>cases h2<;>exact h5
end
end Go.AM
end
section
namespace Go.AM
def uK (π : List Nat) : Nat → V → Option V
 |0,_=>none
 |n+1,v=>match v with
  | .sl id t lo m=>match π[id]? with
   |some i=>some (.sl i t lo m)
   |none=>none
  | .ptr id o=>match π[id]? with
   |some i=>some (.ptr i o)
   |none=>none
  | .ep id t j p=>match π[id]? with
   |some i=>some (.ep i t j p)
   |none=>none
  | .yl id=>match π[id]? with
   |some i=>some (.yl i)
   |none=>none
  | .mp id=>match π[id]? with
   |some i=>some (.mp i)
   |none=>none
  | .pa id t m=>match π[id]? with
   |some i=>some (.pa i t m)
   |none=>none
  | .sp _ _ _=>none
  | .fe cs=>match dY (uK π n) cs with
   |some cs=>some (.fe cs)
   |none=>none
  | .fn f a b=>match dY (uK π n) a with
   |some a=>match dY (uK π n) b with
    |some b=>some (.fn f a b)
    |none=>none
   |none=>none
  | .agg cs=>match dY (uK π n) cs with
   |some cs=>some (.agg cs)
   |none=>none
  | .dc cs=>match dY (uK π n) cs with
   |some cs=>some (.dc cs)
   |none=>none
  | .cL t v=>match uK π n v with
   |some v=>some (.cL t v)
   |none=>none
  |v=>some v
def TC (π : List Nat) : lJ → Option lJ
 | .cells cs fz=>match dY (uK π 8) cs with
  |some cs=>some (.cells cs fz)
  |none=>none
 | .arr t xs fz=>some (.arr t xs fz)
 | .iy=>some .iy
 | .map kt kg vt vg es=>some (.map kt kg vt vg es)
 | .loop _ _ _ _ _ _ _ _=>none
 | .ov _ _ _ _ _=>none
section
variable {P:Program} {N:Nat} {Y:Ctx} {ι ι':aj} {μ μ':Mu} {H:aF} {w w':World} {out:Option Nat} {base:Nat} {π:List Nat}
def Mu.kf (μ:Mu) (π:List Nat):Mu:=fun id=>(π[id]?).bind μ
theorem Ie {f:Nat} {vs:List V} {r:V} (h:kC P f vs r) (hd:vs.all (dX 8)=true) {K:V->aF->Prop} (hK:K r H):eW P f vs H K:=by
 refine ⟨h.1,fun Y ι μ w as hI hr=>?_⟩
 have hr':aJ ι (fun _=>none) vs as.toList:=⟨hr.1,fun i v x hv hx=>dP (List.all_eq_true.1 hd _ (List.mem_of_getElem? hv)) (hr.2 i v x hv hx)⟩
 refine (h.2 ι w as hI.dH hI.rd hr').mono ?_
 rintro e w' ⟨v,ι',rfl,hi,hib,hrd,jQ,Fc⟩
 refine ⟨v,ι',μ,r,H,rfl,hi,Mu.le_refl _,?_,Fc.mono (aj.le_refl _) (fun _ _ h=>by cases h),hK⟩
 have hsz:=hI.below.size
 refine ⟨hI.below.then jQ,aj.le_trans hI.i0 hi,fun b o hb hx=>by rw [hib b o (by omega)];exact hI.iB b o hb hx,hrd,hI.m0,hI.nx,fun id B hB=>?_,hI.inj,hI.lt,hI.gl⟩
 have lT:=hI.live id B hB
 refine lT.mono hi (Mu.le_refl _) (fun h=>h) (fun L hL=>jQ.b.block _ (lT.loc hL).2) (fun L hL ho o=>?_)
 rw [hib _ _ (lT.loc hL).2];exact ho o
end
end Go.AM
end
section
namespace Go.AM
def Bh (e e':List (Nat×V)):Prop:=∀t,get t e=get t e'
def EqB (b b':ah):Prop:=∀id,av id b=av id b'
theorem Fg {x:O} {env env':List (Nat×V)} (h:∀t∈Jy x,get t env=get t env'):x.ev env=x.ev env':=by
  cases x with
  |t n=>exact h n (by simp [Jy])
  |c v=>rfl
  |m n dH=>simp only [O.ev,h n (by simp [Jy])]
section
variable {ar:Ar} {bl bP:ah}
theorem gG : ∀ {t : Ty} {vs : List V}, (∀ v ∈ vs, ∀ id ∈ wF v, av id bl = av id bP) → bw ar bl t vs = bw ar bP t vs ∧ ∀ x u r, bw ar bl t vs = some (x, u, r) → ∀ v ∈ r, v ∈ vs
  | .unit,vs,h=>⟨by simp [bw],fun x u r e v hv=>by simp [bw] at e;obtain ⟨_,_,rfl⟩:=e;exact hv⟩
  | .prod a b,vs,h=>by
    obtain ⟨h1,h2⟩:=gG (t:=a) h
    constructor
    · simp only [bw]
      rw [<-h1]
      split
      · rename_i x u r hr
        obtain ⟨h3,_⟩:=gG (t:=b) (vs:=r) (fun v hv=>h v (h2 _ _ _ hr v hv))
        rw [h3]
      · rfl
    · intro x u r e v hv
      simp only [bw] at e
      split at e<;>try (cases e;done)
      rename_i x' u' r' hr
      split at e<;>try (cases e;done)
      rename_i y u'' r'' hr'
      cases e
      obtain ⟨_,h4⟩:=gG (t:=b) (vs:=r') (fun v hv=>h v (h2 _ _ _ hr v hv))
      exact h2 _ _ _ hr v (h4 _ _ _ hr' v hv)
  | .bool,[],h=>⟨rfl,fun x u r e=>by cases e⟩
  | .str,[],h=>⟨rfl,fun x u r e=>by cases e⟩
  | .int _,[],h=>⟨rfl,fun x u r e=>by cases e⟩
  | .list _,[],h=>⟨rfl,fun x u r e=>by cases e⟩
  | .cL _ _ _,[],h=>⟨rfl,fun x u r e=>by cases e⟩
  | .cL d g t,c::cs,h=>by
    cases c
    case cL d' v =>
      refine ⟨by simp only [bw],fun x u r e=>?_⟩
      simp only [bw] at e
      repeat' split at e
      all_goals first|(cases e;done)|(cases e;exact fun v hv=>List.mem_cons_of_mem _ hv)
    all_goals
      refine ⟨rfl,fun x u r e=>?_⟩
      cases e
  | .bool,c::cs,h=>by
    cases c<;>(refine ⟨rfl,fun x u r e=>?_⟩;first|(cases e;done)|(cases e;exact fun v hv=>List.mem_cons_of_mem _ hv))
  | .str,c::cs,h=>by
    cases c<;>(refine ⟨rfl,fun x u r e=>?_⟩;first|(cases e;done)|(cases e;exact fun v hv=>List.mem_cons_of_mem _ hv))
  | .int k,c::cs,h=>by
    cases c<;>(refine ⟨rfl,fun x u r e=>?_⟩;first|(cases e;done)|(simp only [bw] at e;split at e<;>first|(cases e;done)|(cases e;exact fun v hv=>List.mem_cons_of_mem _ hv)))
  | .list t,c::cs,h=>by
    cases c
    case sl id t' lo n =>
      have hb:=h _ (List.mem_cons_self ..) id (by simp [wF])
      refine ⟨by simp only [bw,hb],fun x u r e=>?_⟩
      simp only [bw] at e
      repeat' split at e
      all_goals first|(cases e;done)|(cases e;exact fun v hv=>List.mem_cons_of_mem _ hv)
    all_goals
      refine ⟨rfl,fun x u r e=>?_⟩
      first
        |(cases e;done)
        | (simp only [bw] at e; repeat' split at e
           all_goals first|(cases e;done)|(cases e;exact fun v hv=>List.mem_cons_of_mem _ hv))
theorem kQ {v:V} {cs:List V} (h:v.cells?=some cs):∀c∈cs,∀id∈wF c,id∈sA v:=by
  intro c hc id hid
  cases v<;>simp only [V.cells?] at h<;>cases h
  case agg=>simp only [sA,List.mem_flatMap];exact ⟨c,hc,hid⟩
  all_goals (simp at hc;subst hc;exact hid)
theorem yq {t : Ty} : ∀ {vs : List V}, (∀ id ∈ vs.flatMap sA, av id bl = av id bP) → sq ar bl t vs = sq ar bP t vs
  |[],_=>rfl
  |v::r,h=>by
    have ih:=yq (t:=t) (vs:=r) (fun id hid=>h id (by simp only [List.flatMap_cons,List.mem_append];exact .inr hid))
    simp only [sq]
    cases hc:v.cells? with
    |none=>rfl
    |some cs =>
      have:=(gG (ar:=ar) (t:=t) (vs:=cs) (fun c hc' id hid=>h id (by simp only [List.flatMap_cons,List.mem_append];exact .inl (kQ hc c hc' id hid)))).1
      simp only [this,ih]
theorem nL : ∀ {t : Ty} {x : t.den} {p : List Bool} {vs : List V}, (∀ v ∈ vs, ∀ id ∈ wF v, av id bl = av id bP) → cU ar bl t x p vs = cU ar bP t x p vs
  |t,x,[],vs,h=>by
    have:=(gG (ar:=ar) (t:=t) h).1
    cases t<;>simp only [cU,this]
  | .prod a b,x,false::p,vs,h=>by simp only [cU,nL (t:=a) h]
  | .prod a b,x,true::p,vs,h=>by simp only [cU,nL (t:=b) h]
  | .unit,_,_::_,_,h=>by simp [cU]
  | .bool,_,_::_,_,h=>by simp [cU]
  | .str,_,_::_,_,h=>by simp [cU]
  | .int _,_,_::_,_,h=>by simp [cU]
  | .list _,_,_::_,_,h=>by simp [cU]
  | .cL _ _ _,_,_::_,_,h=>by simp [cU]
theorem rF {t : Ty} : ∀ {n : Nat} {vs : List V}, (∀ v ∈ vs, ∀ id ∈ wF v, av id bl = av id bP) → mI ar bl t n vs = mI ar bP t n vs
  |0,vs,h=>by cases vs<;>rfl
  |n+1,vs,h=>by
    obtain ⟨h1,h2⟩:=gG (ar:=ar) (t:=t) h
    simp only [mI]
    rw [<-h1]
    split
    · rename_i x u r hr
      rw [rF (n:=n) (vs:=r) (fun v hv=>h v (h2 _ _ _ hr v hv))]
    · rfl
theorem vL {t:Ty} {v:V} (h:∀id∈wF v,av id bl=av id bP):elems ar bl t v=elems ar bP t v:=by
  cases v<;>try rfl
  rename_i id t' lo n
  simp only [elems,h id (by simp [wF])]
theorem Mn {e:iS} {vs:List V} {aD:Nat} (h:∀id∈vs.flatMap sA,av id bl=av id bP):iH ar e vs bl aD=iH ar e vs bP aD:=by
  have one:∀{v:V} {r:List V},vs=v::r->∀id∈sA v,av id bl=av id bP:=fun hv id hid=>h id (by subst hv;simp [hid])
  cases e<;>simp only [iH]
  case text =>
    split
    · rename_i v;rw [vL (fun id hid=>one rfl id (by cases v<;>simp_all [sA,wF]))]
    · rfl
  case clear t =>
    split
    · rename_i id t' lo n;rw [one rfl id (by simp [sA,wF])]
    · rfl
  case iF kt kg vt vg ok =>
    split
    · rename_i m k
      split
      · rename_i x _
        cases m<;>try rfl
        rename_i id
        simp only [jH,one rfl id (by simp [sA,wF])]
      · rfl
    · rfl
  case iG kt kg vt vg =>
    split
    · rename_i id k v
      simp only [jH,one rfl id (by simp [sA,wF])]
    · rfl
  case S7 =>
    split
    · rename_i id;rw [one rfl id (by simp [sA,wF])]
    · rfl
    · rfl
  case S8 t n =>
    split
    · rename_i cs
      rw [rF (fun v hv id hid=>one rfl id (by simp only [sA,List.mem_flatMap];exact ⟨v,hv,hid⟩))]
    · rfl
theorem vM {env env' : List (Nat × V)} : ∀ {ps : List (Nat × Nat × O)} {cs : List V}, (∀ x ∈ ps.map (·.2.2), x.ev env = x.ev env') → vB ps env cs = vB ps env' cs
  |[],_,_=>rfl
  |(off,k,x)::r,cs,h=>by
    simp only [vB,h x (by simp)]
    cases (x.ev env').cells? with
    |none=>rfl
    |some vs =>
      simp only
      split
      · cases sr off vs cs with
        |none=>rfl
        |some cs'=>exact vM (fun y hy=>h y (by simp at hy ⊢;exact .inr hy))
      · rfl
theorem dB {env env':List (Nat×V)} {xs:List O} (h:∀x∈xs,x.ev env=x.ev env'):xs.map (·.ev env)=xs.map (·.ev env'):=List.map_congr_left h
theorem sI {env env':List (Nat×V)} {d:Int} {x:Option O} (h:∀y,x=some y->y.ev env=y.ev env'):cH env d x=cH env' d x:=by
  cases x with
  |none=>rfl
  |some y=>simp only [cH,h y rfl]
theorem Mo {i:I} {env env':List (Nat×V)} {aD:Nat} (he:∀x∈i.os,x.ev env=x.ev env') (hb:∀id∈nF i env,av id bl=av id bP) :
    cg ar i env bl aD=cg ar i env' bP aD/\nF i env=nF i env':=by
  cases i
  case load g k x =>
    have hx:=he x (by simp [I.os])
    simp only [nF,hx] at hb ⊢
    refine ⟨?_,trivial⟩
    simp only [cg,hx]
    generalize x.ev env'=v at hb ⊢
    cases v<;>try rfl
    all_goals (simp only [hb _ (by simp only [wF];exact List.mem_singleton_self _)])
  case store k a x =>
    have ha:=he a (by simp [I.os])
    have hx:=he x (by simp [I.os])
    simp only [nF,hx,ha,List.mem_append] at hb ⊢
    refine ⟨?_,trivial⟩
    simp only [cg,hx,ha]
    generalize a.ev env'=v at hb ⊢
    generalize x.ev env'=y at hb ⊢
    cases hc:y.cells? with
    |none=>rfl
    |some vs =>
      have hsp:∀(t:Ty) (z:t.den) p,cU ar bl t z p vs=cU ar bP t z p vs:=fun t z p=>nL (fun v hv id hid=>hb id (.inr (kQ hc v hv id hid)))
      cases v<;>try rfl
      case ptr id o=>simp only [hb id (.inl (by simp [wF]))]
      case ep id t i p=>simp only [hb id (.inl (by simp [wF])),hsp]
      case pa id t n=>simp only [hb id (.inl (by simp [wF])),fun t n=>rF (ar:=ar) (t:=t) (n:=n) (vs:=vs) (fun v hv id hid=>hb id (.inr (kQ hc v hv id hid)))]
  case eY t xs =>
    have hx:=dB (xs:=xs) (fun x hx=>he x (by simpa [I.os] using hx))
    simp only [nF,hx] at hb ⊢
    exact ⟨by simp only [cg,hx,yq hb],trivial⟩
  case append ff x y =>
    have hx:=he x (by simp [I.os])
    have hy:=he y (by simp [I.os])
    simp only [nF,hx,hy,List.mem_append] at hb ⊢
    refine ⟨?_,trivial⟩
    simp only [cg,hx,hy]
    generalize x.ev env'=v at hb ⊢
    generalize y.ev env'=z at hb ⊢
    have hel:∀t,elems ar bl t z=elems ar bP t z:=fun t=>vL (fun id hid=>hb id (.inr hid))
    cases v<;>try rfl
    case cw=>simp only [hel]
    case sl id t lo n=>simp only [hel,hb id (.inl (by simp [wF]))]
  case ex e xs =>
    have hx:=dB (xs:=xs) (fun x hx=>he x (by simpa [I.os] using hx))
    simp only [nF,hx] at hb ⊢
    exact ⟨by simp only [cg,hx];exact Mn hb,trivial⟩
  case build z ps =>
    exact ⟨by simp only [cg,vM (ps:=ps) (fun x hx=>he x (by simpa [I.os] using hx))],rfl⟩
  case Ck f a b =>
    exact ⟨by simp only [cg,dB (xs:=a) (fun x hx=>he x (by simp [I.os,hx])),dB (xs:=b) (fun x hx=>he x (by simp [I.os,hx]))],rfl⟩
  case me mx x ys =>
    exact ⟨by simp only [cg,he x (by simp [I.os]),dB (xs:=ys) (fun y hy=>he y (by simp [I.os,hy]))],rfl⟩
  case slice ff x lo hi mx =>
    refine ⟨?_,rfl⟩
    have hx:=he x (by simp [I.os])
    have h1:∀d,cH env d lo=cH env' d lo:=fun d=>sI fun y hy=>he y (by simp [I.os,hy])
    have h2:∀d,cH env d hi=cH env' d hi:=fun d=>sI fun y hy=>he y (by simp [I.os,hy])
    cases mx with
    |none=>simp only [cg,hx,h1,h2]
    |some m =>
      have hm:=he m (by simp [I.os])
      cases hi with
      |none=>simp only [cg]
      |some h=>simp only [cg,hx,h1,hm,he h (by simp [I.os])]
  case bin op x y=>exact ⟨by simp only [cg,he x (by simp [I.os]),he y (by simp [I.os])],rfl⟩
  case S9 n x y=>exact ⟨by simp only [cg,he x (by simp [I.os]),he y (by simp [I.os])],rfl⟩
  case eqs n ks x y=>exact ⟨by simp only [cg,he x (by simp [I.os]),he y (by simp [I.os])],rfl⟩
  case idx ff x y=>exact ⟨by simp only [cg,he x (by simp [I.os]),he y (by simp [I.os])],rfl⟩
  case Ao n ff x y=>exact ⟨by simp only [cg,he x (by simp [I.os]),he y (by simp [I.os])],rfl⟩
  case pick c x y=>exact ⟨by simp only [cg,he x (by simp [I.os]),he y (by simp [I.os]),he c (by simp [I.os])],rfl⟩
  case alloc=>exact ⟨rfl,rfl⟩
  case Ap=>exact ⟨rfl,rfl⟩
  case mv x=>exact ⟨by simp only [cg,he x (by simp [I.os])],rfl⟩
  case box x=>exact ⟨by simp only [cg,he x (by simp [I.os])],rfl⟩
  case neg x=>exact ⟨by simp only [cg,he x (by simp [I.os])],rfl⟩
  case not x=>exact ⟨by simp only [cg,he x (by simp [I.os])],rfl⟩
  case conv k x=>exact ⟨by simp only [cg,he x (by simp [I.os])],rfl⟩
  case lI a b x=>exact ⟨by simp only [cg,he x (by simp [I.os])],rfl⟩
  case field a b c x=>exact ⟨by simp only [cg,he x (by simp [I.os])],rfl⟩
  case ext k x=>exact ⟨by simp only [cg,he x (by simp [I.os])],rfl⟩
  case len x=>exact ⟨by simp only [cg,he x (by simp [I.os])],rfl⟩
  case lens x=>exact ⟨by simp only [cg,he x (by simp [I.os])],rfl⟩
  case iU t n=>exact ⟨by simp only [cg,he n (by simp [I.os])],rfl⟩
theorem yu : ∀ {t : Ty} {vs : List V} {q : List Bool} {v : V} {vs' : List V}, mg t vs = some (q, v, vs') → ∀ x ∈ vs', x ∈ vs ∨ x = .cw
  | .list s,[],q,v,vs',h=>by simp [mg] at h
  | .list s,y::r,q,v,vs',h=>by
    cases y<;>simp [mg] at h
    obtain ⟨rfl,rfl,rfl⟩:=h
    intro x hx
    rcases List.mem_cons.1 hx with rfl|hx
    · exact .inr rfl
    · exact .inl (List.mem_cons_of_mem _ hx)
  | .prod a b,vs,q,v,vs',h=>by
    simp only [mg] at h
    split at h
    · rename_i h1;cases h;exact yu h1
    · split at h <;> try (cases h; done)
      rename_i h1
      cases h
      intro x hx
      rcases List.mem_append.1 hx with hx|hx
      · exact .inl (List.mem_of_mem_take hx)
      · exact (yu h1 x hx).imp List.mem_of_mem_drop id
  | .unit,vs,q,v,vs',h=>by simp [mg] at h
  | .bool,vs,q,v,vs',h=>by simp [mg] at h
  | .str,vs,q,v,vs',h=>by simp [mg] at h
  | .int k,vs,q,v,vs',h=>by simp [mg] at h
  | .cL _ _ _,vs,q,v,vs',h=>by simp [mg] at h
theorem Mp {i:I} {env env':List (Nat×V)} {aD:Nat} (he:∀x∈i.os,x.ev env=x.ev env') (hb:∀id∈nF i env,av id bl=av id bP):xK ar i env bl aD=xK ar i env' bP aD:=by
  cases i<;>try rfl
  case eY t xs =>
    cases xs with
    |nil=>rfl
    |cons x r =>
      cases r with
      |cons _ _=>rfl
      |nil =>
        have hx:=he x (by simp [I.os])
        simp only [nF,List.map_cons,List.map_nil,hx,List.flatMap_cons,List.flatMap_nil,List.append_nil] at hb
        simp only [xK,hx]
        generalize x.ev env'=y at hb ⊢
        cases hc:y.cells? with
        |none=>rfl
        |some vs =>
          simp only
          rw [(gG (ar:=ar) (bl:=bl) (bP:=bP) (t:=t) (vs:=vs) (fun v hv id hid=>hb id (kQ hc v hv id hid))).1]
  case store k a x =>
    have ha:=he a (by simp [I.os])
    have hx:=he x (by simp [I.os])
    simp only [nF,hx,ha,List.mem_append] at hb
    simp only [xK,hx,ha]
    generalize a.ev env'=v at hb ⊢
    generalize x.ev env'=y at hb ⊢
    cases hc:y.cells? with
    |none=>rfl
    |some vs =>
      cases v<;>try rfl
      case ep id t i p =>
        simp only [hb id (.inl (by simp [wF]))]
        split<;>try rfl
        split<;>try rfl
        split<;>try rfl
        split<;>try rfl
        rename_i t1 hat
        split<;>try rfl
        rename_i q v vs' hop
        rw [nL (bl:=bl) (bP:=bP) (fun v hv id hid=>?_)]
        rcases yu hop v hv with h|rfl
        · exact hb id (.inr (kQ hc v h id hid))
        · simp [wF] at hid
theorem uL {n:Nat} (hg:∀v,(∀id∈gb bl n v,av id bl=av id bP)->fin ar bl n v=fin ar bP n v/\gb bl n v=gb bP n v) :
    ∀{vs:List V},(∀id∈vs.flatMap (gb bl n),av id bl=av id bP)->dY (fin ar bl n) vs=dY (fin ar bP n) vs/\vs.flatMap (gb bl n)=vs.flatMap (gb bP n)
  |[],_=>⟨rfl,rfl⟩
  |v::r,h=>by
    simp only [List.flatMap_cons,List.mem_append] at h
    obtain ⟨h1,h2⟩:=hg v (fun id hid=>h id (.inl hid))
    obtain ⟨h3,h4⟩:=uL hg (vs:=r) (fun id hid=>h id (.inr hid))
    exact ⟨by simp only [dY,h1,h3],by simp only [List.flatMap_cons,h2,h4]⟩
theorem uM : ∀ {n : Nat} {v : V}, (∀ id ∈ gb bl n v, av id bl = av id bP) → fin ar bl n v = fin ar bP n v ∧ gb bl n v = gb bP n v
  |0,v,_=>⟨rfl,rfl⟩
  |n+1,v,h=>by
    have ih:=fun vs h=>uL (ar:=ar) (bl:=bl) (bP:=bP) (n:=n) (fun v h=>uM h) (vs:=vs) h
    cases v<;>simp only [gb] at h<;>try (exact ⟨rfl,rfl⟩)
    case sl id t lo m=>exact ⟨by simp only [fin,h id (by simp)],rfl⟩
    case pa id t m=>exact ⟨by simp only [fin,h id (by simp)],rfl⟩
    case ptr id off =>
      have hb:=h id (by simp)
      simp only [fin,gb,<-hb]
      cases hq:av id bl with
      |none=>exact ⟨rfl,rfl⟩
      |some B =>
        rw [hq] at h
        cases B<;>try (exact ⟨rfl,rfl⟩;done)
        rename_i cs fz
        obtain ⟨h1,h2⟩:=ih cs (fun id hid=>h id (List.mem_cons_of_mem _ hid))
        exact ⟨by simp only [h1],by simp only [h2]⟩
    case fn f a b =>
      simp only [List.mem_append] at h
      obtain ⟨h1,h2⟩:=ih a (fun id hid=>h id (.inl hid))
      obtain ⟨h3,h4⟩:=ih b (fun id hid=>h id (.inr hid))
      exact ⟨by simp only [fin,h1,h3],by simp only [gb,h2,h4]⟩
    case agg cs =>
      obtain ⟨h1,h2⟩:=ih cs h
      exact ⟨by simp only [fin,h1],by simp only [gb,h2]⟩
    case dc cs =>
      obtain ⟨h1,h2⟩:=ih cs h
      exact ⟨by simp only [fin,h1],by simp only [gb,h2]⟩
    case cL t v =>
      obtain ⟨h1,h2⟩:=uM (n:=n) (v:=v) h
      exact ⟨by simp only [fin,h1],by simp only [gb,h2]⟩
end
end Go.AM
end
section
namespace Go.AM
inductive Ac where
 |skip
 |op (v:V) (u:eZ)
 |call (v:V) (u:eZ)
structure TR where
 k:Nat
 it:dn
 ac:Ac
 rd:List Nat
def Ac.val : Ac → V
 | .skip=>.dc []
 | .op v _=>v
 | .call v _=>v
def Ac.qe : Ac → eZ
 | .op _ u=>u
 | .call _ u=>u
 |_=>[]
def TR.wr (t:TR):List Nat:=t.ac.qe.map (·.1)
def TR.dr (t:TR):DR:=⟨t.k,t.rd,t.wr⟩
def vOk (v0 v:V):Prop:=v=v0\/∃c,v0 = .bool c/\v = .tf c
def En (ar:Ar) (b:Nat) (t:TR) (env:List (Nat×V)) (bl:ah):Prop :=
 match t.ac,t.it with
 | .skip,it=>HQ it.XK env=some false/\t.rd=[]
 | .op v u,.op _ g i=>HQ g env=some true/\∃ob v0,(cg ar i env bl (b+t.k)=some (ob,v0,u)\/xK ar i env bl (b+t.k)=some (ob,v0,u))/\oL ob/\vOk v0 v/\nF i env=t.rd
 | .call v u,.call _ g f a tys=>HQ g env=some true/\∃fid fs cs vs' v0,f.ev env = .fn fid fs cs/\dY (fin ar bl 8) (fs++cq tys (a.map (·.ev env))++cs)=some vs'/\ar.kC fid vs' v0 /\
   JC (EM v0||(fs++cq tys (a.map (·.ev env))++cs).all (dX 8)) (jI bl (fs++cq tys (a.map (·.ev env))++cs)) bl=some u/\vOk v0 v/\jI bl (fs++cq tys (a.map (·.ev env))++cs)=t.rd
 |_,_=>False
def TR.Fh (t:TR) (env:List (Nat×V)):List (Nat×V):=put t.it.dst t.ac.val env
def TR.oT (t:TR) (bl:ah):ah:=bF t.ac.qe bl
def jR (ar : Ar) (b : Nat) : List TR → List (Nat × V) → ah → (List (Nat × V) → ah → Prop) → Prop
 |[],env,bl,F=>F env bl
 |t::ts,env,bl,F=>En ar b t env bl/\jR ar b ts (t.Fh env) (t.oT bl) F
def yw (F:List (Nat×V)->ah->Prop):Prop:=∀env env' bl bP,Bh env env'->EqB bl bP->F env bl->F env' bP
theorem Bh.trans {e e' e'':List (Nat×V)} (h:Bh e e') (h':Bh e' e''):Bh e e'':=fun t=>(h t).trans (h' t)
theorem sJ {d:Option Nat} {v:V} {env:List (Nat×V)} (t:Nat):get t (put d v env)=if d=some t then v else get t env:=by
 cases d with
 |none=>simp [put]
 |some s=>simp only [put,mL,Option.some.injEq]
theorem Bh.put {d:Option Nat} {v:V} {e e':List (Nat×V)} (h:Bh e e'):Bh (put d v e) (put d v e'):=fun t=>by rw [sJ,sJ,h t]
theorem gA : ∀ {u : eZ} {b b' : ah} {id : Nat}, av id b = av id b' → av id (bF u b) = av id (bF u b')
 |[],_,_,_,h=>h
 |(s,none)::r,b,b',id,h=>gA (u:=r) (by rw [bh,bh,h])
 |(s,some B)::r,b,b',id,h=>gA (u:=r) (by rw [bA,bA,bh,bh,h])
theorem bX : ∀ {u : eZ} {b : ah} {id : Nat}, id ∉ u.map (·.1) → av id (bF u b) = av id b
 |[],_,_,_=>rfl
 |(s,none)::r,b,id,h=>by
  simp at h
  simp only [bF]
  rw [bX (u:=r) (by simpa using h.2),bh,if_neg h.1]
 |(s,some B)::r,b,id,h=>by
  simp at h
  simp only [bF]
  rw [bX (u:=r) (by simpa using h.2),bA,if_neg (fun e=>h.1 e.symm),bh,if_neg h.1]
theorem qB : ∀ {u : eZ} {b b' : ah} {id : Nat}, id ∈ u.map (·.1) → av id (bF u b) = av id (bF u b')
 |[],_,_,_,h=>by simp at h
 |(s,o)::r,b,b',id,h=>by
  by_cases hr:id∈r.map (·.1)
  ·cases o<;>exact qB (u:=r) hr
  ·have e : id = s := by simp at h hr; rcases h with h | ⟨x, h⟩; exact h; exact absurd h (hr x)
   subst e
   cases o with
   |none=>simp only [bF];rw [bX hr,bX hr,bh,bh];simp
   |some B=>simp only [bF];rw [bX hr,bX hr,bA,bA];simp
theorem Mq {g:Option (Nat×Bool)} {env env':List (Nat×V)} (h:∀s b,g=some (s,b)->get s env=get s env'):HQ g env=HQ g env':=by
 cases g with
 |none=>rfl
 |some p=>obtain ⟨s,b⟩:=p;simp only [HQ,h s b rfl]
theorem JQ {it:dn} {env env':List (Nat×V)} (h:∀t∈it.uses,get t env=get t env'):(∀x∈it.os,x.ev env=x.ev env')/\HQ it.XK env=HQ it.XK env':=by
 refine ⟨fun x hx=>Fg fun t ht=>h t ?_,Mq fun s b e=>h s ?_⟩
 ·simp only [dn.uses, List.mem_append, List.mem_flatMap]
  exact .inl ⟨x,hx,ht⟩
 ·simp only [dn.uses, e, List.mem_append]
  exact .inr (List.mem_singleton_self _)
theorem yx : ∀ {ids : List Nat} {bl bP : ah}, (∀ id ∈ ids, av id bl = av id bP) → xQ ids bl = xQ ids bP
 |[],_,_,_=>rfl
 |id::r,bl,bP,h=>by
  have key:∀B,xQ r ((id,B)::bC id bl)=xQ r ((id,B)::bC id bP):=fun B=>yx fun i hi=>by
   by_cases e:id=i
   ·subst e;rw [bA,bA];simp
   ·rw [bA, bA, if_neg e, if_neg e, bh, bh, if_neg (fun h => e h.symm), if_neg (fun h => e h.symm)]
    exact h i (List.mem_cons_of_mem _ hi)
  simp only [xQ,h id (List.mem_cons_self ..),key]
theorem Fi {b:Bool} {ids:List Nat} {bl bP:ah} (h:∀id∈ids,av id bl=av id bP):JC b ids bl=JC b ids bP:=by
 cases b with
 |true=>rfl
 |false=>exact yx h
theorem mS {ar:Ar} {b:Nat} {t:TR} {env env':List (Nat×V)} {bl bP:ah} (he:∀s∈t.it.uses,get s env=get s env') (hb:∀id∈t.rd,av id bl=av id bP) (h:En ar b t env bl):En ar b t env' bP:=by
 obtain ⟨k,it,ac,rd⟩:=t
 obtain ⟨h1,h2⟩:=JQ he
 unfold En at h ⊢
 cases ac with
 |skip=>exact ⟨by rw [<-h2];exact h.1,h.2⟩
 |op v u =>
  cases it with
  |call=>exact h.elim
  |op d g i =>
   simp only [dn.XK] at h2
   obtain ⟨hg,ob,v0,ag,cV,hv,hr⟩:=h
   have:=Mo (ar:=ar) (i:=i) (aD:=b+k) (fun x hx=>h1 x hx) (fun id hid=>hb id (by rw [hr] at hid;exact hid))
   have aem:=Mp (ar:=ar) (i:=i) (aD:=b+k) (fun x hx=>h1 x hx) (fun id hid=>hb id (by rw [hr] at hid;exact hid))
   exact ⟨by rw [<-h2];exact hg,ob,v0,by rw [<-this.1,<-aem];exact ag,cV,hv,by rw [<-this.2];exact hr⟩
 |call v u =>
  cases it with
  |op=>exact h.elim
  |call d g f a tys =>
   simp only [dn.XK] at h2
   obtain ⟨hg,fid,fs,cs,vs',v0,hf,hm,hp,hs,hv,hr⟩:=h
   have ha:a.map (·.ev env)=a.map (·.ev env'):=dB fun x hx=>h1 x (by simp [dn.os,hx])
   have qd:=h1 f (by simp [dn.os])
   simp only [ha] at hm hs hr
   obtain ⟨q1,q2⟩:=uL (ar:=ar) (bl:=bl) (bP:=bP) (n:=8) (fun v h=>uM h) (vs:=fs++cq tys (a.map (·.ev env'))++cs) (fun id hid=>hb id (by rw [<-hr];exact hid))
   exact ⟨by rw [<-h2];exact hg,fid,fs,cs,vs',v0,by rw [<-qd];exact hf,by rw [<-q1];exact hm,hp,by rw [show jI bP (fs++cq tys (a.map (·.ev env'))++cs)=jI bl (fs++cq tys (a.map (·.ev env'))++cs) from q2.symm,<-Fi (bl:=bl) (fun id hid=>hb id (by rw [<-hr];exact hid))];exact hs,hv,by rw [<-hr];exact q2.symm⟩
theorem rG {ar : Ar} {b : Nat} {F : List (Nat × V) → ah → Prop} (hF : yw F) : ∀ {ts : List TR} {env env' : List (Nat × V)} {bl bP : ah}, Bh env env' → EqB bl bP → jR ar b ts env bl F → jR ar b ts env' bP F
 |[],_,_,_,_,he,hb,h=>hF _ _ _ _ he hb h
 |t::ts,_,_,_,_,he,hb,h=>⟨mS (fun s _=>he s) (fun id _=>hb id) h.1,rG hF (Bh.put he) (fun id=>gA (hb id)) h.2⟩
structure O7 (a b:TR):Prop where
 slots:iJ a.it b.it=true
 wr:∀id∈a.wr,id∉b.rd/\id∉b.wr
 rw:∀id∈b.wr,id∉a.rd
theorem nM {d:Option Nat} {l:List Nat} {v:V} {env:List (Nat×V)} (h:nE d l=true):∀t∈l,get t (put d v env)=get t env:=fun t ht=>by
 rw [sJ,if_neg]
 rintro rfl
 simp [nE] at h
 exact h ht
theorem pull {ar:Ar} {b:Nat} {F:List (Nat×V)->ah->Prop} (hF:yw F) {t:TR} {L2:List TR}:∀{L1:List TR} {env:List (Nat×V)} {bl:ah},(∀a∈L1,O7 a t)->jR ar b (L1++t::L2) env bl F ->
  En ar b t env bl/\jR ar b (L1++L2) (t.Fh env) (t.oT bl) F
 |[],_,_,_,h=>h
 |a::L1,env,bl,hA,h=>by
  obtain ⟨h1,h2⟩:=h
  obtain ⟨h3,h4⟩:=pull hF (fun x hx=>hA x (List.mem_cons_of_mem _ hx)) h2
  have hap:=hA a (List.mem_cons_self ..)
  have hs:=hap.slots
  simp only [iJ,Bool.and_eq_true] at hs
  obtain ⟨⟨s1,s2⟩,s3⟩:=hs
  refine ⟨mS (fun s hs=>nM s1 s hs) (fun id hid=>bX fun hw=>(hap.wr id hw).1 hid) h3,?_,?_⟩
  ·exact mS (fun s hs=>(nM s2 s hs).symm) (fun id hid=>(bX fun hw=>hap.rw id hw hid).symm) h1
  ·refine rG hF (fun s => ?_) (fun id => ?_) h4
   ·simp only [TR.Fh, sJ]
    by_cases q1:t.it.dst=some s
    ·by_cases q2 : a.it.dst = some s
     ·rw [q2] at s3;simp [q1] at s3
     ·simp [q1,q2]
    ·simp [q1]
   ·simp only [TR.oT]
    by_cases q1:id∈t.ac.qe.map (·.1)
    ·have q2 : id ∉ a.ac.qe.map (·.1) := fun hw => (hap.wr id hw).2 q1
     rw [qB (b':=bl) q1,bX q2]
    ·rw [bX q1]
     exact gA (bX q1).symm
def sK (t:TR):Option DR:=match t.rd,t.wr with
 |[],[]=>none
 |_,_=>some t.dr
theorem JR (k:Nat) (it:dn) (ac:Ac) (rd:List Nat) (cC:List DR):xP k rd (ac.qe.map (·.1)) cC=cC++([(⟨k,it,ac,rd⟩:TR)].filterMap sK):=by
 cases rd with
 |cons x r=>rfl
 |nil =>
  cases hu:ac.qe.map (·.1) with
  |nil=>simp [xP,sK,TR.wr,hu]
  |cons x r=>simp [xP,sK,TR.wr,TR.dr,hu]
theorem Fj {gs:List Nat} {d:Option Nat} {v:V} {env:List (Nat×V)} {K:List (Nat×V)->Prop} (h:EN gs d v env K):∃v',vOk v v'/\K (put d v' env):=by
 unfold EN at h
 cases d with
 |none=>exact ⟨v,.inl rfl,h⟩
 |some t =>
  simp only at h
  split at h
  ·exact ⟨v,.inl rfl,h⟩
  ·split at h
   ·rename_i c
    cases c with
    |true=>exact ⟨.tf true,.inr ⟨_,rfl,rfl⟩,h.1 rfl⟩
    |false=>exact ⟨.tf false,.inr ⟨_,rfl,rfl⟩,h.2 rfl⟩
   ·exact ⟨v,.inl rfl,h⟩
theorem mU {ar:Ar} {gs:List Nat} {b:Nat}:∀{is:List dn} {k:Nat} {env:List (Nat×V)} {bl:ah} {cC:List DR} {K:List (Nat×V)->ah->List DR->Prop},sB ar gs b is k env bl cC K ->
  ∃ts:List TR,ts.map (·.it)=is/\ts.map (·.k)=List.range' k is.length/\jR ar b ts env bl fun env' bP=>K env' bP (cC++ts.filterMap sK)
 |[],k,env,bl,cC,K,h=>⟨[],rfl,rfl,by simpa [jR,sB] using h⟩
 | .op d g i::r,k,env,bl,cC,K,h=>by
  simp only [sB] at h
  split at h
  ·rename_i hg
   have h':∃ob v u,(cg ar i env bl (b+k)=some (ob,v,u)\/xK ar i env bl (b+k)=some (ob,v,u))/\wD ob/\EN gs d v env fun env'=>sB ar gs b r (k+1) env' (bF u bl) (xP k (nF i env) (u.map (·.1)) cC) K:=by
    rcases h with h|h
    ·obtain ⟨ob,v,u,h1,h2,h3⟩:=xS h;exact ⟨ob,v,u,.inl h1,h2,h3⟩
    ·obtain ⟨ob,v,u,h1,h2,h3⟩:=xS h;exact ⟨ob,v,u,.inr h1,h2,h3⟩
   clear h
   obtain ⟨ob,v,u,ag,cV,h⟩:=h'
   obtain ⟨v',rE,h⟩:=Fj h
   obtain ⟨ts,h1,h2,h3⟩:=mU h
   refine ⟨⟨k,.op d g i,.op v' u,nF i env⟩::ts,by simp [h1],by simp [h2,List.range'_succ],⟨hg,ob,v,ag,yd cV,rE,rfl⟩,?_⟩
   rw [show u.map (·.1)=(Ac.op v' u).qe.map (·.1) from rfl,JR k (.op d g i) (.op v' u)] at h3
   rw [<-List.singleton_append,List.filterMap_append,<-List.append_assoc]
   exact h3
  ·rename_i hg
   obtain ⟨ts,h1,h2,h3⟩:=mU h
   exact ⟨⟨k,.op d g i,.skip,[]⟩::ts,by simp [h1],by simp [h2,List.range'_succ],⟨hg,rfl⟩,h3⟩
  ·exact h.elim
 | .call d g f a tys::r,k,env,bl,cC,K,h=>by
  simp only [sB] at h
  split at h
  ·rename_i hg
   split at h
   ·rename_i f' fs cs hf
    split at h
    ·rename_i vs' hm
     obtain ⟨x,u,hp,hs,h⟩:=h
     obtain ⟨v',rE,h⟩:=Fj h
     obtain ⟨ts,h1,h2,h3⟩:=mU h
     refine ⟨⟨k,.call d g f a tys,.call v' u,jI bl (fs++cq tys (a.map (·.ev env))++cs)⟩::ts,by simp [h1],by simp [h2,List.range'_succ],⟨hg,f',fs,cs,vs',x,hf,hm,hp,hs,rE,rfl⟩,?_⟩
     rw [show u.map (·.1)=(Ac.call v' u).qe.map (·.1) from rfl,JR k (.call d g f a tys) (.call v' u)] at h3
     rw [<-List.singleton_append,List.filterMap_append,<-List.append_assoc]
     exact h3
    ·exact h.elim
   ·exact h.elim
  ·rename_i hg
   obtain ⟨ts,h1,h2,h3⟩:=mU h
   exact ⟨⟨k,.call d g f a tys,.skip,[]⟩::ts,by simp [h1],by simp [h2,List.range'_succ],⟨hg,rfl⟩,h3⟩
  ·exact h.elim
theorem sL {x : Nat} : ∀ {l : List Nat}, Cw x l = true ↔ x ∈ l
 |[]=>by simp [Cw]
 |y::r=>by
  have ih:=sL (x:=x) (l:=r)
  simp only [Cw,List.mem_cons]
  split
  ·rename_i h;have:=Nat.eq_of_beq_eq_true h;simp [this]
  ·rename_i h; have : x ≠ y := fun e => by subst e; rw [Nat.beq_refl] at h; cases h
   rw [ih];simp [this]
theorem qf {l' : List Nat} : ∀ {l : List Nat}, A5 l l' = true → ∀ x ∈ l, x ∉ l'
 |[],_=>by simp
 |y::r,h=>by
  simp only [A5] at h
  split at h
  ·cases h
  ·rename_i hm
   intro x hx
   rcases List.mem_cons.1 hx with rfl|hx
   ·intro hx';rw [sL.2 hx'] at hm;cases hm
   ·exact qf h x hx
def DrP (cm:List (List Nat)) (a b:TR):Prop:=a.k∈cm.getD b.k []\/((∀id∈a.wr,id∉b.rd/\id∉b.wr)/\∀id∈b.wr,id∉a.rd)
theorem O8 {cm:List (List Nat)} {a b:TR} (h:Cy cm a.dr b.dr=true):DrP cm a b:=by
 unfold Cy at h
 split at h
 ·rename_i hm;exact .inl (sL.1 hm)
 ·split at h <;> try (cases h; done)
  rename_i h1
  split at h<;>try (cases h;done)
  rename_i h2
  exact .inr ⟨fun id hid=>⟨qf h1 id hid,qf h2 id hid⟩,fun id hid hr=>qf h id hr hid⟩
theorem Bi {cm : List (List Nat)} {a : DR} : ∀ {l : List DR}, JA cm a l = true → ∀ b ∈ l, Cy cm a b = true
 |[],_=>by simp
 |c::r,h=>by
  simp only [JA] at h
  split at h
  ·rename_i hc
   intro b hb
   rcases List.mem_cons.1 hb with rfl|hb
   ·exact hc
   ·exact Bi h b hb
  ·cases h
theorem oU (t:TR):(t.rd=[]/\t.wr=[]/\sK t=none)\/sK t=some t.dr:=by
 unfold sK
 split
 ·rename_i h1 h2;exact .inl ⟨h1,h2,rfl⟩
 ·exact .inr rfl
theorem rH {cm : List (List Nat)} : ∀ {ts : List TR}, OM cm (ts.filterMap sK) = true → ts.Pairwise (DrP cm)
 |[],_=>.nil
 |t::ts,h=>by
  rcases oU t with ⟨h1,h2,h3⟩|h3
  ·simp only [List.filterMap_cons, h3] at h
   exact .cons (fun b _=>.inr ⟨fun id hid=>by rw [h2] at hid;simp at hid,fun id _=>by rw [h1];simp⟩) (rH h)
  ·simp only [List.filterMap_cons, h3, OM] at h
   split at h<;>try (cases h;done)
   rename_i ho
   refine .cons (fun b hb=>?_) (rH h)
   rcases oU b with ⟨q1,q2,_⟩|q3
   ·exact .inr ⟨fun id _=>by rw [q1,q2];simp,fun id hid=>by rw [q2] at hid;simp at hid⟩
   ·exact O8 (Bi ho _ (List.mem_filterMap.2 ⟨b,hb,q3⟩))
section
variable {c1 : Nat → List V → aF → (V → aF → Prop) → Prop} {c2 : Nat → List V → V → Prop} {c3 : C → St → (Ex → St → Prop) → Prop}
 {c4:Nat->List V->aF->(V->aF->Prop)->Prop} {c5:O->List Nat->C->C->St->(Ex->St->Prop)->Prop} {c6:C->St->(Ex->St->Prop)->Prop} {bl:ah}
theorem nN {g h : V → Option V} (e : ∀ v, g v = h v) : ∀ vs, dY g vs = dY h vs
 |[]=>rfl
 |v::r=>by simp only [dY,e v,nN e r]
theorem yy : ∀ {n : Nat} {v : V}, fin (bn c1 c2 c3 c4 c5 c6) bl n v = fin bW bl n v
 |0,v=>rfl
 |n+1,v=>by
  have:=nN (fun v=>yy (n:=n) (v:=v))
  cases v<;>first|rfl|(simp only [fin,this];done)|(simp only [fin,yy];done)|(simp only [fin];rfl)
end
section
variable {P:Program} {N:Nat} {out:Option Nat} {base:Nat}
def vN : List Nat → ah → Option ah
 |[],bl=>some bl
 |id::r,bl=>match av id bl with
  |some (.arr t xs _)=>vN r ((id,.arr t xs true)::bC id bl)
  |some (.cells cs _)=>vN r ((id,.cells cs true)::bC id bl)
  |_=>none
def Av (ι : aj) (μ : Mu) (id : Nat) : Option lJ → Prop
 |some (.arr t xs _)=>js ι μ id t xs
 |some (.cells cs _)=>∃L vs,μ id=some L/\Reads ι L.b L.ba vs/\aJ ι μ cs vs/\∀v∈vs,v.oneCell'=true
 |_=>True
theorem Av.mono {ι ι':aj} {μ:Mu} {id:Nat} {o:Option lJ} (h:Av ι μ id o) (hi:ι.le ι'):Av ι' μ id o:=by
 unfold Av at h ⊢
 split at h
 ·exact js.mono hi h
 ·obtain ⟨L, vs, h1, h2, h3, h4⟩ := h
  exact ⟨L,vs,h1,h2.mono hi,h3.mono hi (Mu.le_refl _),h4⟩
 ·trivial
theorem Inv.TD {Y:Ctx} {ι:aj} {μ:Mu} {H:aF} {w:World} (h:Inv P Y ι μ H w) {id:Nat} {cs:List V} {fz:Bool} (hb:av id H.bl=some (.cells cs fz)) :
  ∃ι',ι.le ι'/\Inv P Y ι' μ ⟨H.next,(id,.cells cs true)::bC id H.bl⟩ w/\Av ι' μ id (some (.cells cs fz)):=by
 obtain ⟨L,vs,hM,hR⟩:=h.live id _ hb
 cases fz with
 |true=>exact ⟨ι,aj.le_refl _,h.same hb ⟨L,vs,hM,hR⟩,L,vs,hM.mu,hM.HR rfl,hR,hM.one⟩
 |false =>
  have hfree:=hM.sk rfl
  have hle:=aj.HS (vs:=vs) hfree
  have fO:aJ (ι.add L vs) μ cs vs:=hR.mono hle (Mu.le_refl _)
  refine ⟨ι.add L vs,hle,?_,L,vs,hM.mu,Reads.add,fO,hM.one⟩
  refine ⟨h.below,aj.le_trans h.i0 hle,fun b o hb' hx=>?_,fun b o x hx=>?_,h.m0,h.nx,fun i B hB=>?_,?_,?_,h.gl⟩
  ·unfold aj.add;rw [if_neg (fun e=>Ctx.mh hM.old hb' hx e)];exact h.iB b o hb' hx
  ·unfold aj.add at hx
   split at hx
   ·rename_i e; subst e
    split at hx
    ·rename_i ho
     obtain ⟨c,e,h1,h2,h3⟩:=hM.row
     have:=h3 _ _ hx
     rw [show L.ba+(o - L.ba)=o by omega] at this
     simp [World.cell?,h1,this]
    ·cases hx
   ·exact h.rd b o x hx
  ·rw [aG] at hB
   split at hB
   ·rename_i e; subst e; cases hB
    exact ⟨L,vs,⟨hM.mu,hM.old,hM.row,hM.fits,hM.one,fun _=>Reads.add,fun e=>by cases e⟩,fO⟩
   ·rename_i e
    refine (h.live i B hB).mono hle (Mu.le_refl _) (fun h=>h) (fun _ _=>rfl) (fun L' hL' ho o=>?_)
    unfold aj.add
    rw [if_neg (fun e'=>e (h.inj i id B _ L' L hB hb hL' hM.mu e'))]
    exact ho o
  ·intro i i' B B' L1 L2 h1 h2 iu hm2 e
   have:∀{j B},av j ((id,.cells cs true)::bC id H.bl)=some B->∃Zr,av j H.bl=some Zr:=fun {j B} hj=>by
    rw [aG] at hj
    split at hj
    ·rename_i e;subst e;exact ⟨_,hb⟩
    ·exact ⟨B,hj⟩
   obtain ⟨C,hC⟩:=this h1
   obtain ⟨C',Tj⟩:=this h2
   exact h.inj i i' C C' L1 L2 hC Tj iu hm2 e
  ·intro i B hB
   rw [aG] at hB
   split at hB
   ·rename_i e;subst e;exact h.lt _ _ hb
   ·exact h.lt i B hB
theorem w8 {Y:Ctx} {μ:Mu} {w:World} {nx:Nat}:∀{ids:List Nat} {bl bP:ah} {ι:aj},Inv P Y ι μ ⟨nx,bl⟩ w->vN ids bl=some bP ->
  ∃ι',ι.le ι'/\Inv P Y ι' μ ⟨nx,bP⟩ w/\∀id∈ids,Av ι' μ id (av id bl)
 |[],bl,bP,ι,hI,h=>by cases h;exact ⟨ι,aj.le_refl _,hI,fun id hid=>by simp at hid⟩
 |i::r,bl,bP,ι,hI,h=>by
  simp only [vN] at h
  split at h
  ·rename_i t xs fz hb
   obtain ⟨ι1,h1,h2,h3⟩:=hI.freeze hb
   obtain ⟨ι2,h4,h5,h6⟩:=w8 h2 h
   refine ⟨ι2,aj.le_trans h1 h4,h5,fun id hid=>?_⟩
   by_cases e:id=i
   ·subst e
    rw [show av id bl=some (.arr t xs fz) from hb]
    exact js.mono h4 h3
   ·rcases List.mem_cons.1 hid with rfl | hid
    ·exact absurd rfl e
    ·have := h6 id hid
     have e2:av id ((i,lJ.arr t xs true)::bC i bl)=av id bl:=by rw [bA,if_neg (fun h=>e h.symm),bh,if_neg e]
     rw [show av id ((i,lJ.arr t xs true)::bC i (aF.bl ⟨nx,bl⟩))=av id bl from e2] at this
     exact this
  ·rename_i cs fz hb
   obtain ⟨ι1,h1,h2,h3⟩:=hI.TD hb
   obtain ⟨ι2,h4,h5,h6⟩:=w8 h2 h
   refine ⟨ι2,aj.le_trans h1 h4,h5,fun id hid=>?_⟩
   by_cases e:id=i
   ·subst e
    rw [show av id bl=some (.cells cs fz) from hb]
    exact h3.mono h4
   ·rcases List.mem_cons.1 hid with rfl | hid
    ·exact absurd rfl e
    ·have := h6 id hid
     have e2:av id ((i,lJ.cells cs true)::bC i bl)=av id bl:=by rw [bA,if_neg (fun h=>e h.symm),bh,if_neg e]
     rw [show av id ((i,lJ.cells cs true)::bC i (aF.bl ⟨nx,bl⟩))=av id bl from e2] at this
     exact this
  ·cases h
theorem CN {ι : aj} {μ : Mu} {bl : ah} : ∀ {n : Nat} {v r : V} {x : Value}, fin bW bl n v = some r → (∀ id ∈ gb bl n v, Av ι μ id (av id bl)) → Rel ι μ v x → Rel ι (fun _ => none) r x
 |0,v,r,x,h,_,_=>by cases h
 |n+1,v,r,x,h,hF,hr=>by
  have conv:∀{cs ds:List V} {xs:List Value},dY (fin bW bl n) cs=some ds->(∀id∈cs.flatMap (gb bl n),Av ι μ id (av id bl))->aJ ι μ cs xs->aJ ι (fun _=>none) ds xs:=by
   intro cs
   induction cs with
   |nil=>intro ds xs hm _ hl;cases hm;rw [hl.of_nil];exact .nil
   |cons c cs ih =>
    intro ds xs hm hf hl
    unfold dY at hm
    obtain ⟨y,ys,rfl,h1,h2⟩:=hl.bL
    split at hm<;>try (cases hm;done)
    rename_i u hu
    split at hm<;>try (cases hm;done)
    rename_i us Hw
    cases hm
    simp only [List.flatMap_cons,List.mem_append] at hf
    exact .cons (CN hu (fun id hid=>hf id (.inl hid)) h1) (ih Hw (fun id hid=>hf id (.inr hid)) h2)
  cases hr<;>simp only [fin] at h<;>try (cases h;done)
  case any=>cases h;exact .any _
  case tf=>cases h;exact .tf _
  case bool=>cases h;exact .bool _
  case int=>cases h;exact .int _ _
  case str=>cases h;exact .str _
  case ga=>cases h;exact .ga
  case cW=>cases h;exact .cW
  case gn=>cases h;exact .gn
  case fM t xs hd=>cases h;exact .fM t xs _ hd
  case cw=>cases h;exact .cw _
  case sl id t lo m cap L hL h1 h2 h3 =>
   split at h<;>try (cases h;done)
   rename_i t' xs fz hb
   split at h<;>try (cases h;done)
   rename_i e;subst e
   cases h
   have hf:=hF id (by simp [gb])
   rw [hb] at hf
   exact .fM _ _ _ (js.slice hf (.sl (ι:=ι) id t lo m cap L hL h1 h2 h3))
  case bO id t lo a =>
   split at h<;>try (cases h;done)
   rename_i t' xs fz hb
   split at h<;>try (cases h;done)
   rename_i e;subst e
   cases h
   exact .fM _ _ _ ⟨a,0,by simp [bn,bW],by simp [bn,bW],.inl (by simp [bn,bW])⟩
  case ptr id off L hL =>
   split at h<;>try (cases h;done)
   rename_i cs fz hb
   split at h<;>try (cases h;done)
   rename_i ds hds
   split at h<;>try (cases h;done)
   rename_i hoff
   cases h
   have hf:=hF id (by simp [gb])
   rw [hb] at hf
   obtain ⟨L',vs,hM,hrd,hR,hone⟩:=hf
   rw [hM] at hL;cases hL
   have fO:=conv hds (fun i hi=>hF i (by simp only [gb,hb,List.mem_cons];exact .inr hi)) hR
   refine .fe _ L.b (L.ba+off) (fun i=>vs.getD (off+i) .nilIface) (fun i hi=>?_) (fun i v hv=>?_) (fun i=>?_)
   ·have hlt : off + i < vs.length := by have := fO.1; simp at hi; omega
    have:vs[off+i]?=some (vs.getD (off+i) .nilIface):=by simp [List.getD,hlt]
    rw [Nat.add_assoc];exact hrd _ _ this
   ·have rE : ds[off + i]? = some v := by simpa using hv
    obtain ⟨y,hy,hry⟩:=fO.at rE
    simp only [List.getD,hy,Option.getD_some];exact hry
   ·by_cases hlt : off + i < vs.length
    ·have : vs.getD (off + i) .nilIface = vs[off + i] := by simp [List.getD, hlt]
     rw [this];exact hone _ (List.getElem_mem hlt)
    ·have : vs.getD (off + i) .nilIface = .nilIface := by simp [List.getD, List.getElem?_eq_none (show vs.length ≤ off + i by omega)]
     rw [this];rfl
  case fe cs b o gf h1 h2 h3 =>
   split at h<;>try (cases h;done)
   rename_i hall
   cases h
   exact .fe cs b o gf h1 (fun i v hv=>dP (List.all_eq_true.1 hall _ (List.mem_of_getElem? hv)) (h2 i v hv)) h3
  case ip t y b o us h1 h2=>cases h;exact .ip t y b o us h1 h2
  case fn f fs cs xs ys h1 h2 h3 h4 =>
   split at h<;>try (cases h;done)
   rename_i as bs ha hb
   cases h
   have r1:=conv ha (fun i hi=>hF i (by simp only [gb,List.mem_append];exact .inl hi)) (xs:=xs.toList) ⟨by simpa using h1,fun i v x hv hx=>h2 i v x hv (by simpa using hx)⟩
   have r2:=conv hb (fun i hi=>hF i (by simp only [gb,List.mem_append];exact .inr hi)) (xs:=ys.toList) ⟨by simpa using h3,fun i v x hv hx=>h4 i v x hv (by simpa using hx)⟩
   exact .fn f as bs xs ys (by simpa using r1.1) (fun i v x hv hx=>r1.2 i v x hv (by simpa using hx)) (by simpa using r2.1) (fun i v x hv hx=>r2.2 i v x hv (by simpa using hx))
  case agg cs xs h1 h2 h3 =>
   split at h<;>try (cases h;done)
   rename_i ds hds
   cases h
   have r1:=conv hds (fun i hi=>hF i (by simpa [gb] using hi)) (xs:=xs.toList) ⟨by simpa using h1,fun i v x hv hx=>h2 i v x hv (by simpa using hx)⟩
   exact .agg ds xs (by simpa using r1.1) (fun i v x hv hx=>r1.2 i v x hv (by simpa using hx)) h3
  case dc cs xs h1 h2 =>
   split at h<;>try (cases h;done)
   rename_i ds hds
   cases h
   have r1:=conv hds (fun i hi=>hF i (by simpa [gb] using hi)) (xs:=xs.toList) ⟨by simpa using h1,fun i v x hv hx=>h2 i v x hv (by simpa using hx)⟩
   exact .dc ds xs (by simpa using r1.1) (fun i v x hv hx=>r1.2 i v x hv (by simpa using hx))
  case cL t v x hv =>
   split at h<;>try (cases h;done)
   rename_i r' hr'
   cases h
   exact .cL t r' x (CN hr' (fun i hi=>hF i (by simpa [gb] using hi)) hv)
  case cb c b hc=>cases h;exact .cb c b hc
  case cT=>cases h;exact .cT
  case mG t xs b o us h1 h2=>cases h;exact .mG t xs b o us h1 h2
  case pa id t m L hL hm =>
   split at h<;>try (cases h;done)
   rename_i t' xs fz hb
   split at h<;>try (cases h;done)
   rename_i e;subst e
   cases h
   have hf:=hF id (by simp [gb])
   rw [hb] at hf
   rcases hf with ⟨e,hn⟩|⟨L',vs,hM,hrd,hR,hl⟩
   ·rw [hn] at hL;cases hL
   ·rw [hM] at hL; cases hL
    exact .mG _ _ _ _ vs hrd hR
theorem CO : ∀ {ids : List Nat} {bl : ah} {u : eZ}, xQ ids bl = some u → vN ids bl = some (bF u bl)
 |[],_,_,h=>by cases h;rfl
 |id::r,bl,u,h=>by
  simp only [xQ] at h
  simp only [vN]
  split at h
  ·rename_i hb
   split at h<;>try (cases h;done)
   rename_i hu
   cases h
   rw [hb]
   exact CO hu
  ·rename_i hb
   split at h<;>try (cases h;done)
   rename_i hu
   cases h
   rw [hb]
   exact CO hu
  ·cases h
theorem TE {ι ι':aj} {μ:Mu} {bl:ah} (h1:ι.le ι'):∀{vs vs':List V} {xs:List Value},dY (fin bW bl 8) vs=some vs'->(∀id∈jI bl vs,Av ι' μ id (av id bl))->aJ ι μ vs xs->aJ ι' (fun _=>none) vs' xs:=by
 intro vs
 induction vs with
 |nil=>intro vs' xs hm _ hl;cases hm;rw [hl.of_nil];exact .nil
 |cons v r ih =>
  intro vs' xs hm hfz hl
  unfold dY at hm
  split at hm<;>try (cases hm;done)
  rename_i u hu
  split at hm<;>cases hm
  rename_i us Hw
  obtain ⟨x,xs',rfl,r1,r2⟩:=hl.bL
  simp only [jI,List.flatMap_cons,List.mem_append] at hfz
  exact .cons (CN hu (fun id hid=>hfz id (.inl hid)) (r1.mono h1 (Mu.le_refl _))) (ih Hw (fun id hid=>hfz id (.inr hid)) r2)
end
end Go.AM
end
