/- Each operation of the small machine is the model's: slices of slices; the sum. Each operation of the small machine is the model's: the sum. The small machine's code is the model's: what is said of calls, loops and rounds; a region's items. The small machine's code is the model's: sequences, tests, blocks, loops. A function's contract: data in, data out. A function's contract out of its code. States that stand for as much: at a loop's head. Calls of functions whose contract speaks of data. A region whose order is drawn: what an item does depends on little, and items that have nothing to do with each other change places. A drawn region's trace: its items in the canonical order, and each brought to the front where nothing forbids it. -/
import Derived.Test.YtgmflfkhjjjhmaaAMa
import Derived.MapKept
import Derived.WideKeyRuns
import Derived.Laws.IdiomCopy
import Derived.Laws.BytesString
set_option linter.unusedSectionVars false
set_option linter.unusedVariables false
set_option linter.unusedSimpArgs false
section
namespace Go.AM
section
variable {P : Program} {Y : Ctx} {ι ι' : aA} {μ μ' : Mu} {H : aK} {w w' : World}
 {c1:Nat->List V->aK->(V->aK->Prop)->Prop} {c2:Nat->List V->V->Prop} {c3:C->St->(Ex->St->Prop)->Prop}
 {c4:Nat->List V->aK->(V->aK->Prop)->Prop} {c5:O->List Nat->C->C->St->(Ex->St->Prop)->Prop} {c6:C->St->(Ex->St->Prop)->Prop} {c7:GC}
theorem Aa {v:V} {z:Int} {x:Value} (h:lS v=some z) (hr:Rel ι μ v x):∃k,x = .int k z:=by
 cases v<;>simp [lS] at h
 subst h;cases hr;exact ⟨_,rfl⟩
theorem di {env:List (Nat×V)} {a:Act} (he:fG ι μ env a.tmps) {d z:Int} {o:Option O} {oo:Option Operand} (ht:ve oo=some o) (h:bT env d o=some z) :
  (oo=none/\z=d)\/∃x k,oo=some x/\a.eval x = .int k z:=by
 cases oo with
 |none=>cases ht;simp [bT] at h;exact .inl ⟨rfl,h.symm⟩
 |some x =>
  simp only [ve] at ht
  cases hx:cZ x with
  |none=>simp [hx] at ht
  |some y =>
   simp [hx] at ht;subst ht
   simp only [bT] at h
   obtain ⟨k,hk⟩:=Aa h (aD he hx)
   exact .inr ⟨x,k,rfl,hk⟩
theorem xM {env : List (Nat × V)} {a : Act} (he : fG ι μ env a.tmps) {t e : TypeId} {dw : Nat} (ht : P.underlying t = some (.slice e)) (hsz : cm P e = some dw) {x : O} {px : Value} (hx : Rel ι μ (x.ev env) px)
  {lo hi mx:Option O} {lo' hi' JZ:Option Operand} (h1:ve lo'=some lo) (h2:ve hi'=some hi) (h3:ve JZ=some mx) {bl:aj} {n:Nat} {ob:List Bool} {v:V} {u:cU}
  (ah:cg (aZ c1 c2 c3 c4 c5 c6 c7) (.slice dw x lo hi mx) env bl n=some (ob,v,u)) (cE:lW ob) :
  u=[]/\∃y,(Instr.sliceAt t px (lo'.map a.eval) (hi'.map a.eval) (JZ.map a.eval)).run P w = .ok y w/\Rel ι μ v y:=by
 have hsize:∀w:World,(sizeOf e).run P w = .ok dw w:=fun w=>by
  unfold cm at hsz
  cases hq:P.info? e with
  |none=>simp [hq] at hsz
  |some i=>simp [hq] at hsz;subst hsz;simp [sizeOf,typeInfo,hq]
 -- the run, between bounds
 have run:∀(base:Option Addr) (len cap:Nat) (l h:Nat),(∃z:Int,z.toNat=l/\0<=z/\((lo'=none/\z=0)\/∃x k,lo'=some x/\a.eval x = .int k z)) ->
   (∃z:Int,z.toNat=h/\0<=z/\((hi'=none/\z=len)\/∃x k,hi'=some x/\a.eval x = .int k z))->l<=h->h<=len->len<=cap->JZ=none ->
   (Instr.sliceAt t (.slice base len cap) (lo'.map a.eval) (hi'.map a.eval) (JZ.map a.eval)).run P w = .ok (.slice (if cap=l then base else base.map (·.add (l * dw))) (h - l) (cap - l)) w:=by
  intro base len cap l h hl hh hlh hhl hlc hm
  subst hm
  obtain ⟨zl,rfl,XU,hl⟩:=hl
  obtain ⟨zh,rfl,XV,hh⟩:=hh
  simp only [Instr.sliceAt,Instr.slice,Sem.run_bind,run_underlying ht,Result.andThen_ok,Instr.sliceBounds]
  rcases hl with ⟨rfl,rfl⟩|⟨xl,kl,rfl,hl⟩<;>rcases hh with ⟨rfl,rfl⟩|⟨xh,kh,rfl,hh⟩
  ·simp [hsize]
  ·have q1 : zh ≤ (cap : Int) := by omega
   simp [hsize,hh,Instr.sliceBound,asIntOf,XV,q1]
  ·have q1 : zl ≤ (len : Int) := by omega
   simp [hsize,hl,Instr.sliceBound,asIntOf,XU,q1]
  ·have q1 : zh ≤ (cap : Int) := by omega
   have q2:zl<=zh:=by omega
   simp [hsize,hl,hh,Instr.sliceBound,asIntOf,XU,XV,q1,q2]
   intro hc;omega
 simp only [cg] at ah
 split at ah
 ·rename_i mO
  split at ah<;>try (cases ah;done)
  rename_i hO
  split at ah<;>try (cases ah;done)
  rename_i za zb zc OS OT OR
  -- the run with a bound on the capacity: nothing is left
  have fin:∀(base:Option Addr) (len cap:Nat),za=0->zb=0->zc=0->(Instr.sliceAt t (.slice base len cap) (lo'.map a.eval) (hi'.map a.eval) (JZ.map a.eval)).run P w = .ok (.slice base 0 0) w:=by
   intro base len cap e1 e2 e3
   subst e1;subst e2;subst e3
   have g1:=di he (d:=0) h1 OR
   have g2:∃x k,hi'=some x/\a.eval x = .int k 0:=by
    rcases di he (d:=1) h2 (z:=0) (by simpa [bT] using OT) with ⟨e,e'⟩|h
    ·cases e'
    ·exact h
   have g3:∃x k,JZ=some x/\a.eval x = .int k 0:=by
    rcases di he (d:=1) h3 (z:=0) (by simpa [bT] using OS) with ⟨e,e'⟩|h
    ·cases e'
    ·exact h
   obtain ⟨xh,kh,rfl,hh⟩:=g2
   obtain ⟨xm,km,rfl,hm⟩:=g3
   simp only [Instr.sliceAt,Instr.slice,Sem.run_bind,run_underlying ht,Result.andThen_ok,Instr.sliceBounds]
   rcases g1 with ⟨rfl,_⟩|⟨xl,kl,rfl,hl⟩
   ·simp [hsize,hh,hm,Instr.sliceBound,asIntOf]
   ·simp [hsize,hh,hm,hl,Instr.sliceBound,asIntOf]
  have obs:ob=[za==0,zb==0,zc==0]->za=0/\zb=0/\zc=0:=fun e=>by
   subst e
   have e1:=cE _ (List.mem_cons_self)
   have e2:=cE _ (List.mem_cons_of_mem _ (List.mem_cons_self))
   have e3:=cE _ (List.mem_cons_of_mem _ (List.mem_cons_of_mem _ (List.mem_cons_self)))
   simp at e1 e2 e3;exact ⟨e1,e2,e3⟩
  split at ah<;>try (cases ah;done)
  ·rename_i cT; rw [cT] at hx
   cases ah
   obtain ⟨e1,e2,e3⟩:=obs rfl
   cases hx with
   |sl=>exact ⟨rfl,_,fin _ _ _ e1 e2 e3,.bK _⟩
   |bO=>exact ⟨rfl,_,fin _ _ _ e1 e2 e3,.bK _⟩
  ·rename_i cT; rw [cT] at hx
   cases ah
   obtain ⟨e1,e2,e3⟩:=obs rfl
   cases hx with
   |dS _ _ _ hd =>
    obtain ⟨b,cap,e,_⟩:=hd
    cases e
    exact ⟨rfl,_,fin _ _ _ e1 e2 e3,.bK _⟩
  ·rename_i cT; rw [cT] at hx
   cases ah
   obtain ⟨e1,e2,e3⟩:=obs rfl
   cases hx with
   |bK=>exact ⟨rfl,_,fin _ _ _ e1 e2 e3,.bK _⟩
 ·have J0:JZ=none:=by
   cases JZ with
   |none=>rfl
   |some q=>simp only [ve] at h3;cases hq:cZ q<;>simp [hq] at h3
  split at ah<;>try (cases ah;done)
  ·rename_i id te l len cT
   rw [cT] at hx
   split at ah<;>try (cases ah;done)
   rename_i J1
   split at ah<;>try (cases ah;done)
   rename_i za zb OS OT
   cases ah
   have e1:=cE _ (List.mem_cons_self)
   have e2:=cE _ (List.mem_cons_of_mem _ (List.mem_cons_self))
   have e3:=cE _ (List.mem_cons_of_mem _ (List.mem_cons_of_mem _ (List.mem_cons_self)))
   simp only [decide_eq_true_eq] at e1 e2 e3
   have Ti:zb<=(len:Int):=e3
   have g1:=di he h1 OS
   have g2:=di he h2 OT
   refine ⟨rfl,?_⟩
   cases hx with
   |bO _ _ _ base =>
    refine ⟨_,run base 0 0 za.toNat zb.toNat ⟨za,rfl,e1,g1⟩ ⟨zb,rfl,by omega,g2⟩ (by omega) (by omega) (by omega) J0,?_⟩
    have ha:za.toNat=0:=by omega
    have hb:zb.toNat=0:=by omega
    simp only [ha,hb,Nat.sub_self,if_true]
    exact .bO _ _ _ _
   |sl _ _ _ _ cap L hL q1 q2 q3 =>
    refine ⟨_,run _ len cap za.toNat zb.toNat ⟨za,rfl,e1,g1⟩ ⟨zb,rfl,by omega,g2⟩ (by omega) (by omega) q1 J0,?_⟩
    by_cases hc:cap=za.toNat
    ·rw [if_pos hc, show zb.toNat - za.toNat = 0 by omega, show cap - za.toNat = 0 by omega]
     exact .bO _ _ _ _
    ·rw [if_neg hc]
     have := Rel.sl (ι := ι) id te (l + za.toNat) (zb.toNat - za.toNat) (cap - za.toNat) L hL (by omega)
      (by rw [show l+za.toNat+(cap - za.toNat)=l+cap by omega];exact q2) (by omega)
     simp only [Option.map_some,Addr.add_mid]
     rw [Nat.add_mul,<-Nat.add_assoc,J1] at this
     rw [J1];exact this
  ·rename_i te xs cT
   rw [cT] at hx
   split at ah<;>try (cases ah;done)
   rename_i J1
   split at ah<;>try (cases ah;done)
   rename_i za zb OS OT
   cases ah
   have e1:=cE _ (List.mem_cons_self)
   have e2:=cE _ (List.mem_cons_of_mem _ (List.mem_cons_self))
   have e3:=cE _ (List.mem_cons_of_mem _ (List.mem_cons_of_mem _ (List.mem_cons_self)))
   simp only [decide_eq_true_eq] at e1 e2 e3
   have Ti:zb<=(xs.length:Int):=e3
   have g1:=di he h1 OS
   have g2:=di he h2 OT
   refine ⟨rfl,?_⟩
   cases hx with
   |dS _ _ _ hd =>
    obtain ⟨base,cap,e,hle,hd⟩:=hd
    cases e
    refine ⟨_,run base xs.length cap za.toNat zb.toNat ⟨za,rfl,e1,g1⟩ ⟨zb,rfl,by omega,g2⟩ (by omega) (by omega) hle J0,?_⟩
    have hlen:((xs.drop za.toNat).take (zb.toNat - za.toNat)).length=zb.toNat - za.toNat:=by simp;omega
    refine .dS _ _ _ ⟨_,_,by rw [hlen],by omega,?_⟩
    by_cases hz:zb.toNat - za.toNat=0
    ·left;rw [hz];simp
    ·right
     rcases hd with rfl|⟨b,o,us,rfl,hrd,hc⟩
     ·simp at Ti;omega
     ·rw [if_neg (by omega)]
      refine ⟨b,o+za.toNat * dw,(us.drop (za.toNat * te.sz)).take ((zb.toNat - za.toNat) * te.sz),by simp [Addr.add_mid],?_,?_⟩
      ·rw [<-J1];exact hrd.sub _ _
      ·exact (hc.drop (fun _ _=>af.length) _).take (fun _ _=>af.length) _
  ·rename_i cT
   rw [cT] at hx
   split at ah<;>try (cases ah;done)
   rename_i za zb OS OT
   cases ah
   have e1:=cE _ (List.mem_cons_self)
   have e2:=cE _ (List.mem_cons_of_mem _ (List.mem_cons_self))
   have Dg:za=0:=by simpa using e1
   have Sx:zb=0:=by simpa using e2
   subst Dg;subst Sx
   have g1:=di he h1 OS
   have g2:=di he h2 OT
   cases hx with
   |bK ad =>
    refine ⟨rfl,_,run ad 0 0 0 0 ⟨0,rfl,by omega,g1⟩ ⟨0,rfl,by omega,by simpa using g2⟩ (by omega) (by omega) (by omega) J0,?_⟩
    exact .bK _
theorem tV {k : IntKind} : ∀ {cs : List V} {zs : List Int}, Bt k cs = some zs → zs.length = cs.length ∧ ∀ (j : Nat) v, cs[j]? = some v → v = .int k (zs.getD j 0)
 |[],zs,h=>by cases h;exact ⟨rfl,fun j v hv=>by simp at hv⟩
 |v::r,zs,h=>by
  cases v<;>simp only [Bt] at h<;>try (cases h;done)
  split at h<;>try (cases h;done)
  rename_i e;subst e
  split at h<;>try (cases h;done)
  rename_i ys hy
  cases h
  obtain ⟨h1,h2⟩:=tV hy
  exact ⟨by simp [h1],fun j v hv=>by
   cases j with
   |zero=>simp at hv;subst hv;rfl
   |succ j=>simpa using h2 j v (by simpa using hv)⟩
theorem FR {e:TypeId} {k:Nat} {g:Bool} (hk:cm P e=some k) (hg:nZ P e=some g) {xa:Array Value} {off:Nat} {y:Value} (hoff:off+k<=xa.size) (hy:lE g ((xa.toList.drop off).take k)=some y) :
  (part e xa off).run P w = .ok y w:=by
 have hsz:∀w:World,(sizeOf e).run P w = .ok k w:=by
  unfold cm at hk
  cases hq:P.info? e with
  |none=>simp [hq] at hk
  |some i=>simp [hq] at hk;subst hk;exact fun w=>by simp [sizeOf,typeInfo,hq]
 have gH:∀w:World,(isAgg e).run P w = .ok g w:=by
  intro w
  unfold nZ at hg
  split at hg
  ·rename_i hu;cases hg;unfold isAgg;rw [Sem.run_bind,run_underlying hu w];rfl
  ·rename_i hu;cases hg;unfold isAgg;rw [Sem.run_bind,run_underlying hu w];rfl
  ·rename_i d h1 h2 hu
   cases hg;unfold isAgg;rw [Sem.run_bind,run_underlying hu w]
   cases d<;>simp_all
  ·cases hg
 cases g with
 |true =>
  cases hy
  have:(List.take k (List.drop off xa.toList)).toArray=xa.extract off (off+k):=by
   apply Array.ext';simp [List.extract_eq_take_drop]
  simp [part,gH,hsz,this]
 |false =>
  have hl:List.take k (List.drop off xa.toList)=[y]:=by
   match h0:List.take k (List.drop off xa.toList),hy with
   |[c],hy=>cases hy;rfl
   |[],hy=>cases hy
   |_::_::_,hy=>cases hy
  have hc:xa[off]?=some y:=by
   have h0:(List.take k (List.drop off xa.toList))[0]?=some y:=by rw [hl];rfl
   rw [List.getElem?_take] at h0
   split at h0
   ·simpa using h0
   ·cases h0
  simp [part,gH,hc]
theorem xN {t e : TypeId} {n k : Nat} {g : Bool} (hu : P.underlying t = some (.array n e)) (hk : cm P e = some k) (hg : nZ P e = some g) {va vi : V} {a ix : Value} (ha : Rel ι μ va a) (hi : Rel ι μ vi ix) {bl : aj} {aF : Nat}
  {ob:List Bool} {v:V} {u:cU} (ah:iO (aZ c1 c2 c3 c4 c5 c6 c7) (.qD n k g) [va,vi] bl aF=some (ob,v,u)) (cE:lW ob):u=[]/\∃y,(Instr.index t a ix).run P w = .ok y w/\Rel ι μ v y:=by
 have hsz:∀w:World,(sizeOf e).run P w = .ok k w:=by
  unfold cm at hk
  cases hq:P.info? e with
  |none=>simp [hq] at hk
  |some i=>simp [hq] at hk;subst hk;exact fun w=>by simp [sizeOf,typeInfo,hq]
 simp only [iO] at ah
 split at ah<;>try (cases ah;done)
 rename_i cs kk i heq
 simp only [List.cons.injEq,and_true] at heq
 obtain ⟨rfl,rfl⟩:=heq
 cases hi
 cases ha with
 |agg _ xa p1 p2 p3 =>
 have hR:aG ι μ cs xa.toList:=⟨by simpa using p1,fun i v x hv hx=>p2 i v x hv (by simpa using hx)⟩
 split at ah<;>try (cases ah;done)
 rename_i hlen
 have hlen:=Nat.eq_of_beq_eq_true hlen
 have hxs:xa.size=n * k:=by rw [<-p1];exact hlen
 have fin:∀{m:Nat} {y:Value} {ws:List V} {v:V},m<n->aG ι μ ws ((xa.toList.drop (m * k)).take k)->dG g ws=some v->i=(m:Int)->∃y,(Instr.index t (.agg xa) (.int kk i)).run P w = .ok y w/\Rel ι μ v y:=by
  intro m y ws v hm hr hw hi
  subst hi
  obtain ⟨y,hy,hv⟩:=n5 hw hr (fun u hu=>p3 u (List.mem_of_mem_drop (List.mem_of_mem_take hu)))
  have hmk:m * k+k<=xa.size:=by
   rw [hxs]
   have:=Nat.mul_le_mul_right k (show m+1<=n from hm)
   rwa [Nat.add_mul,Nat.one_mul] at this
  refine ⟨y,?_,hv⟩
  have h2:(m:Int)<(n:Int):=by omega
  simp [Instr.index,asIntOf,run_underlying hu,hm,hsz,FR hk hg hmk hy]
 split at ah
 ·rename_i k0 z r _
  split at ah<;>try (cases ah;done)
  rename_i zs hzs
  split at ah<;>try (cases ah;done)
  rename_i v' hw
  cases ah
  have hb:=cE _ (List.mem_singleton.2 rfl)
  simp only [decide_eq_true_eq] at hb
  obtain ⟨q1,q2⟩:=tV hzs
  have jv:i.toNat<n:=by have:=hb.2;simp at this;omega
  refine ⟨rfl,fin (m:=i.toNat) (y:=undef) jv ?_ hw (by omega)⟩
  have hmk:i.toNat * k+k<=n * k:=by
   have:=Nat.mul_le_mul_right k (show i.toNat+1<=n from jv)
   rwa [Nat.add_mul,Nat.one_mul] at this
  refine ⟨by simp [JL];omega,fun m v x hv hx=>?_⟩
  have hm:m<k:=by have:=(List.getElem?_eq_some_iff.1 hv).1;simpa [JL] using this
  have hv2:v = .int k0 (zs.getD (i.toNat * k+m) 0):=by
   simp only [JL,List.getElem?_map,List.getElem?_range hm,Option.map_some,Option.some.injEq] at hv
   rw [<-hv]
   simp only [S5,List.getD_eq_getElem?_getD,List.getElem?_map,List.getElem?_range jv,Option.map_some,Option.getD_some]
  have hj:i.toNat * k+m<(V.int k0 z::r).length:=by rw [hlen];omega
  have XW:xa.toList[i.toNat * k+m]?=some x:=by
   rw [List.getElem?_take,if_pos hm,List.getElem?_drop] at hx
   exact hx
  have h1:=q2 (i.toNat * k+m) _ (List.getElem?_eq_getElem hj)
  have h2:=hR.2 (i.toNat * k+m) _ x (List.getElem?_eq_getElem hj) XW
  rw [h1] at h2
  rw [hv2];exact h2
 ·split at ah <;> try (cases ah; done)
  rename_i m
  split at ah<;>try (cases ah;done)
  rename_i hm
  split at ah<;>try (cases ah;done)
  rename_i ws qN
  split at ah<;>try (cases ah;done)
  rename_i v' hw
  cases ah
  obtain ⟨r1,r2,r3⟩:=hR.mQ qN
  exact ⟨rfl,fin (m:=m) (y:=undef) hm r1 hw rfl⟩
theorem xP {t : TypeId} (hu : P.underlying t = some .string) {va vi : V} {a ix : Value} (ha : Rel ι μ va a) (hi : Rel ι μ vi ix) {bl : aj} {aF : Nat}
  {ob:List Bool} {v:V} {u:cU} (ah:iO (aZ c1 c2 c3 c4 c5 c6 c7) .qC [va,vi] bl aF=some (ob,v,u)) (cE:lW ob):u=[]/\∃y,(Instr.index t a ix).run P w = .ok y w/\Rel ι μ v y:=by
 simp only [iO] at ah
 split at ah<;>try (cases ah;done)
 rename_i s kk i heq
 simp only [List.cons.injEq,and_true] at heq
 obtain ⟨rfl,rfl⟩:=heq
 cases ha;cases hi
 cases ah
 have hb:=cE _ (List.mem_singleton.2 rfl)
 simp only [decide_eq_true_eq] at hb
 have h2:i.toNat<s.size:=by omega
 refine ⟨rfl,.int .u8 ((s[i.toNat]'h2).toNat),?_,?_⟩
 ·rw [run_index_string w t s kk i hu,dif_pos hb]
 ·have:zP s i.toNat=((s[i.toNat]'h2).toNat:Int):=by
   have h3:i.toNat<s.data.toList.length:=by simpa using h2
   simp only [zP,mM,List.getD_eq_getElem?_getD,List.getElem?_map,List.getElem?_eq_getElem h3,Option.map_some,Option.getD_some]
   rfl
  show Rel ι μ (.int .u8 (zP s i.toNat)) _
  rw [this];exact .int _ _
theorem xQ {t e : TypeId} (hu : P.underlying t = some (.slice e)) {op : BinOp} {neg : Bool} (hop : gZ op = some neg) {xo yo : Operand} {va : V} {a : Value} (ha : Rel ι μ va a) {bl : aj} {aF : Nat} {ob : List Bool} {v : V} {u : cU}
  (ah:iO (aZ c1 c2 c3 c4 c5 c6 c7) (.Fj neg) [va] bl aF=some (ob,v,u)) :
  u=[]/\∃y,(do eqGuard op t xo yo a (.slice none 0 0);binOp op t a (.slice none 0 0):Sem Value).run P w = .ok y w/\Rel ι μ v y:=by
 have hd:∀(d:Nat) (a0:Option Addr) (n c:Nat),(Op.equalIn (d+1) t (.slice a0 n c) (.slice none 0 0)).run P w = .ok a0.isNone w:=fun d a0 n c=>by
  cases a0<;>simp [Op.equalIn,run_underlying hu]
 have key:∀(a0:Option Addr) (n c:Nat),(Op.equal t (.slice a0 n c) (.slice none 0 0)).run P w = .ok a0.isNone w:=fun a0 n c=>hd 9999 a0 n c
 have fin:∀(a0:Option Addr) (n c:Nat) (cc:Bool),neg=false->(a0.isNone=true->cc=true)->∃y,(do eqGuard op t xo yo (.slice a0 n c) (.slice none 0 0);binOp op t (.slice a0 n c) (.slice none 0 0):Sem Value).run P w = .ok y w/\Rel ι μ (.cb cc) y:=fun a0 n c cc hn hc=>by
  subst hn
  cases op<;>simp [gZ] at hop
  have hg:=bY (P:=P) (w:=w) .eql t xo yo (a:=.slice a0 n c) (b:=.slice none 0 0) (by simp) (by simp)
  exact ⟨.bool a0.isNone,by simp only [Sem.run_bind,hg,Result.andThen_ok,binOp,key];rfl,.cb _ _ hc⟩
 simp only [iO] at ah
 split at ah<;>try (cases ah;done)
 ·rename_i id t' lo n heq
  simp only [List.cons.injEq,and_true] at heq
  subst heq
  split at ah<;>try (cases ah;done)
  cases ah
  cases ha with
  |sl=>exact ⟨rfl,fin _ _ _ _ rfl (fun h=>by cases h)⟩
  |bO=>exact ⟨rfl,fin _ _ _ _ rfl (fun _=>rfl)⟩
 ·rename_i t' xs heq
  simp only [List.cons.injEq,and_true] at heq
  subst heq
  split at ah<;>try (cases ah;done)
  cases ah
  cases ha with
  |dS _ _ _ hd =>
   obtain ⟨a0,cap,e',hle,hx⟩:=hd
   cases e'
   refine ⟨rfl,fin _ _ _ _ rfl (fun h=>?_)⟩
   rcases hx with rfl|⟨b,o,us,rfl,_⟩
   ·rfl
   ·cases h
theorem vp {t k e : TypeId} (hu : P.underlying t = some (.map k e)) {op : BinOp} {neg : Bool} (hop : gZ op = some neg) {xo yo : Operand} {va : V} {a : Value} (ha : Rel ι μ va a) {bl : aj} {aF : Nat} {ob : List Bool} {v : V} {u : cU}
  (ah:iO (aZ c1 c2 c3 c4 c5 c6 c7) (.zL neg) [va] bl aF=some (ob,v,u)) :
  u=[]/\∃y,(do eqGuard op t xo yo a (.map none);binOp op t a (.map none):Sem Value).run P w = .ok y w/\Rel ι μ v y:=by
 have fin:∀(r:Option Nat) (b:Bool),b=(if neg then !r.isNone else r.isNone)->∃y,(do eqGuard op t xo yo (.map r) (.map none);binOp op t (.map r) (.map none):Sem Value).run P w = .ok y w/\Rel ι μ (.tf b) y:=fun r b hb=>by
  have hd:∀d:Nat,(Op.equalIn (d+1) t (.map r) (.map none)).run P w = .ok r.isNone w:=fun d=>by
   cases r<;>simp [Op.equalIn,run_underlying hu]
  have key:(Op.equal t (.map r) (.map none)).run P w = .ok r.isNone w:=hd 9999
  have hg:=bY (P:=P) (w:=w) op t xo yo (a:=.map r) (b:=.map none) (by simp) (by simp)
  subst hb
  cases op<;>simp [gZ] at hop<;>subst hop
  ·exact ⟨.bool r.isNone,by simp only [Sem.run_bind,hg,Result.andThen_ok,binOp,key];rfl,.tf _⟩
  ·exact ⟨.bool (!r.isNone),by simp only [Sem.run_bind,hg,Result.andThen_ok,binOp,key];rfl,.tf _⟩
 simp only [iO] at ah
 split at ah<;>try (cases ah;done)
 ·rename_i id heq
  simp only [List.cons.injEq,and_true] at heq
  subst heq
  cases ah
  cases ha with
  |mp _ L hL=>exact ⟨rfl,fin _ _ (by cases neg<;>rfl)⟩
 ·rename_i heq
  simp only [List.cons.injEq,and_true] at heq
  subst heq
  cases ah
  cases ha
  exact ⟨rfl,fin _ _ (by cases neg<;>rfl)⟩
theorem vq {t e : TypeId} (hu : P.underlying t = some (.pointer e)) {op : BinOp} {neg : Bool} (hop : gZ op = some neg) {xo yo : Operand} {va : V} {a : Value} (ha : Rel ι μ va a) {bl : aj} {aF : Nat} {ob : List Bool} {v : V} {u : cU}
  (ah:iO (aZ c1 c2 c3 c4 c5 c6 c7) (.zM neg) [va] bl aF=some (ob,v,u)) :
  u=[]/\∃y,(do eqGuard op t xo yo a (.pointer none);binOp op t a (.pointer none):Sem Value).run P w = .ok y w/\Rel ι μ v y:=by
 have fin:∀(r:Option Addr) (b:Bool),b=(if neg then !r.isNone else r.isNone)->∃y,(do eqGuard op t xo yo (.pointer r) (.pointer none);binOp op t (.pointer r) (.pointer none):Sem Value).run P w = .ok y w/\Rel ι μ (.tf b) y:=fun r b hb=>by
  have hd:∀d:Nat,(Op.equalIn (d+1) t (.pointer r) (.pointer none)).run P w = .ok r.isNone w:=fun d=>by
   cases r<;>simp [Op.equalIn,run_underlying hu]
  have key:(Op.equal t (.pointer r) (.pointer none)).run P w = .ok r.isNone w:=hd 9999
  have hg:=bY (P:=P) (w:=w) op t xo yo (a:=.pointer r) (b:=.pointer none) (by simp) (by simp)
  subst hb
  cases op<;>simp [gZ] at hop<;>subst hop
  ·exact ⟨.bool r.isNone,by simp only [Sem.run_bind,hg,Result.andThen_ok,binOp,key];rfl,.tf _⟩
  ·exact ⟨.bool (!r.isNone),by simp only [Sem.run_bind,hg,Result.andThen_ok,binOp,key];rfl,.tf _⟩
 simp only [iO] at ah
 split at ah<;>try (cases ah;done)
 ·rename_i id off heq
  simp only [List.cons.injEq,and_true] at heq
  subst heq
  cases ah
  cases ha with
  |ptr _ _ L hL=>exact ⟨rfl,fin _ _ (by cases neg<;>rfl)⟩
 ·rename_i heq
  simp only [List.cons.injEq,and_true] at heq
  subst heq
  cases ah
  cases ha
  exact ⟨rfl,fin _ _ (by cases neg<;>rfl)⟩
theorem Inv.BK {bl : aj} {n id : Nat} {L : Loc} {B B' : js} (h : Inv P Y ι μ ⟨n, bl⟩ w) (hb : aq id bl = some B) (hL : μ id = some L) {o o' : Obj} (ho : w.heap[L.b]? = some o) (hnc : ∀ c e f, o ≠ .cells c e f) (Tb : ia (some o) (some o'))
  (hnew:eu P Y.own ι μ id (w.putObj L.b o') B'):Inv P Y ι μ ⟨n,(id,B')::bH id bl⟩ (w.putObj L.b o'):=by
 have hold:Y.own L.b:=((h.live id _ hb).loc hL).1
 have dj:∀k,k≠L.b->(w.putObj L.b o').heap[k]?=w.heap[k]?:=fun k hk=>World.putObj_heap_other hk
 refine ⟨⟨h.below.os, h.below.tape, h.below.output, by rw [World.putObj_size]; exact h.below.size, fun k hk hx => ?_, h.below.dr, fun k hk => (h.below.maps k hk).trans (by
   by_cases e:k=L.b
   ·subst e;rw [ho,World.putObj_heap_same (Array.getElem?_eq_some_iff.1 ho).1];exact Tb
   ·exact .eq (dj k e))⟩,h.i0,h.iB,fun b o2 x hx=>?_,h.m0,h.nx,fun i B2 hB=>?_,fun i i' B1 B2 L1 L2 jv iF=>?_,fun i B2 hB=>?_,h.gl⟩
 ·rw [dj k (Ctx.jZ hold hk hx)];exact h.below.block k hk hx
 ·have := h.rd b o2 x hx
  have hne:b≠L.b:=fun e=>by
   subst e
   cases o<;>simp [World.cell?,ho] at this
   exact hnc _ _ _ rfl
  unfold World.cell? at this ⊢
  simp only at this ⊢
  rw [dj b hne];exact this
 ·simp only at hB
  rw [aU] at hB
  split at hB
  ·rename_i e;subst e;cases hB;exact hnew
  ·rename_i e
   refine (h.live i B2 hB).mono (aA.le_refl _) (Mu.le_refl _) (fun h=>h) (fun L' hL'=>dj _ (fun e'=>e (h.inj i id B2 _ L' L hB hb hL' hL e'))) (fun _ _ h=>h)
 ·simp only at jv iF
  rw [aU] at jv iF
  have hx:∀j Bj,(if j=id then some B' else aq j bl)=some Bj->∃Bj',aq j bl=some Bj':=fun j Bj hj=>by
   split at hj
   ·rename_i e;subst e;exact ⟨_,hb⟩
   ·exact ⟨_,hj⟩
  obtain ⟨_,q1⟩:=hx _ _ jv
  obtain ⟨_,q2⟩:=hx _ _ iF
  exact h.inj i i' _ _ L1 L2 q1 q2
 ·simp only at hB
  rw [aU] at hB
  split at hB
  ·rename_i e;subst e;exact h.lt _ _ hb
  ·exact h.lt _ _ hB
theorem fP.rel {g:Bool} {t:Ty} {x:t.den} {v:Value} (h:fP ι g t x v):Rel ι μ (dF.jY g (dF t x)) v:=by
 obtain ⟨xs,h1,h2⟩:=h
 exact tK h2 (eo h1) (af.one h1)
theorem n9 {t:Ty} {g:Bool} {v:V} {x:t.den} {z:Value} (h:keyOf (aZ c1 c2 c3 c4 c5 c6 c7) t g v=some x) (hr:Rel ι μ v z):fP ι g t x z:=by
 unfold keyOf at h
 split at h<;>try (cases h;done)
 rename_i cs hun
 split at h<;>try (cases h;done)
 rename_i x0 ho
 cases h
 obtain ⟨zs,r1,r2⟩:=xF hun hr
 obtain ⟨_,f1⟩:=gJ ho r1
 obtain ⟨us,ws,e1,hd,E6⟩:=f1 ι (aA.le_refl _) (fun _ _ _ hm=>by cases hm)
 rw [E6.of_nil,List.append_nil] at e1
 exact ⟨zs,by rw [e1];exact hd,r2⟩
theorem qU (a b:ByteArray):(a==b)=(a.data.toList==b.data.toList):=by
 obtain ⟨x⟩:=a
 obtain ⟨y⟩:=b
 show (x==y)=(x.toList==y.toList)
 rw [Bool.eq_iff_iff]
 simp [Array.toList_inj]
theorem iX : ∀ (t : Ty) (a b : t.den), gX t a b = gX t b a
 | .unit,_,_=>rfl
 | .bool,a,b=>by cases a<;>cases b<;>rfl
 | .str,a,b=>by
  simp only [gX]
  rw [Bool.eq_iff_iff];simp only [beq_iff_eq];exact ⟨Eq.symm,Eq.symm⟩
 | .int _,a,b=>by
  simp only [gX]
  rw [Bool.eq_iff_iff];simp only [beq_iff_eq];exact ⟨Eq.symm,Eq.symm⟩
 | .list _,_,_=>rfl
 | .prod s t,x,y=>by simp only [gX,iX s x.1 y.1,iX t x.2 y.2]
 | .cn _ _ t,x,y=>iX t x y
theorem gK : ∀ {t : Ty} {a b : t.den}, gX t a b = true → a = b
 | .unit,_,_,_=>rfl
 | .bool,a,b,h=>by simpa [gX] using h
 | .str,a,b,h=>by
  simp only [gX,beq_iff_eq] at h
  obtain ⟨a⟩:=a
  obtain ⟨b⟩:=b
  simp [Array.toList_inj] at h
  rw [h]
 | .int _,a,b,h=>by simpa [gX] using h
 | .list _,_,_,h=>by simp [gX] at h
 | .prod s t,x,y,h=>by
  simp only [gX,Bool.and_eq_true] at h
  exact Prod.ext (gK h.1) (gK h.2)
 | .cn _ _ t,x,y,h=>gK (t:=t) h
section
variable {t:Ty} {β:Type} {es es':List (t.den×β)} {x:t.den}
theorem oa (h:es.Perm es'):cH t es x=cH t es' x:=by
 unfold cH
 rw [Bool.eq_iff_iff]
 simp only [List.any_eq_true,h.mem_iff]
theorem tW (h:cH t es x=false) {e:t.den×β} (he:e∈es):gX t x e.1=false:=by
 unfold cH at h
 have:=List.any_eq_false.1 h e he
 simpa using this
theorem kW {d : β} : ∀ {es : List (t.den × β)}, cH t es x = false → dD t d es x = d
 |[],_=>rfl
 |e::r,h=>by
  have h1:=tW h (List.mem_cons_self ..)
  simp only [dD,h1,Bool.false_eq_true,if_false]
  refine kW ?_
  simpa [cH,h1] using h
theorem vr {d : β} : ∀ {es : List (t.den × β)}, KD t es → ∀ {e : t.den × β}, e ∈ es → gX t x e.1 = true → dD t d es x = e.2
 |[],_,_,h,_=>by cases h
 |a::r,hd,e,he,hx=>by
  unfold KD at hd
  rw [List.pairwise_cons] at hd
  rcases List.mem_cons.1 he with rfl|he
  ·simp [dD,hx]
  ·have:gX t x a.1=false:=by
    cases h:gX t x a.1 with
    |false=>rfl
    |true =>
     have e1:=gK h
     subst e1
     have:=hd.1 e he
     rw [hx] at this;cases this
   simp only [dD,this,Bool.false_eq_true,if_false]
   exact vr hd.2 he hx
theorem Dh {d:β} (h:es.Perm es') (hd:KD t es) (hd':KD t es'):dD t d es x=dD t d es' x:=by
 cases hm:cH t es x with
 |false=>rw [kW hm,kW (by rw [<-oa h];exact hm)]
 |true =>
  unfold cH at hm
  obtain ⟨e,he,hx⟩:=List.any_eq_true.1 hm
  rw [vr hd he hx,vr hd' (h.mem_iff.1 he) hx]
theorem KD.perm (h:es.Perm es') (hd:KD t es):KD t es':=by
 unfold KD at *
 exact (h.pairwise_iff (fun {a b} h=>by rw [iX];exact h)).1 hd
theorem kX {v : β} : ∀ {es : List (t.den × β)}, (Bs t es x v).Perm ((x, v) :: es)
 |[]=>.refl _
 |e::r=>by
  unfold Bs
  split
  ·exact .refl _
  ·exact (kX.cons e).trans (.swap _ _ _)
theorem tX {v:β} (h:es.Perm es'):(jX t es x v).Perm (jX t es' x v):=by
 unfold jX
 rw [<-oa h]
 split
 ·exact h.map _
 ·exact kX.trans ((h.cons _).trans kX.symm)
theorem qV {v:β} (h:cH t es x=false):(es++[(x,v)]).Perm (jX t es x v):=by
 unfold jX
 rw [h,if_neg (by simp)]
 exact List.perm_append_comm.trans kX.symm
theorem BL {v:β} (hd:KD t es) {j:Nat} {e:t.den×β} (he:es[j]?=some e) (hx:gX t x e.1=true):es.set j (x,v)=jX t es x v:=by
 unfold jX
 rw [if_pos (by unfold cH;exact List.any_eq_true.2 ⟨e,List.mem_of_getElem? he,hx⟩)]
 apply List.ext_getElem?
 intro i
 rw [List.getElem?_set,List.getElem?_map]
 split
 ·rename_i hij; subst hij
  rw [if_pos (List.getElem?_eq_some_iff.1 he).1,he]
  simp [hx]
 ·rename_i hij
  cases hi:es[i]? with
  |none=>rfl
  |some e' =>
   have hne:gX t x e'.1=false:=by
    cases h:gX t x e'.1 with
    |false=>rfl
    |true =>
     have e1:=gK hx
     subst e1
     obtain ⟨hj,q1⟩:=List.getElem?_eq_some_iff.1 he
     obtain ⟨hi',q2⟩:=List.getElem?_eq_some_iff.1 hi
     have hp:=List.pairwise_iff_getElem.1 hd
     rcases Nat.lt_or_gt_of_ne hij with h1|h1
     ·have := hp j i hj hi' h1
      rw [q1,q2,h] at this;cases this
     ·have := hp i j hi' hj h1
      rw [q1,q2,iX,h] at this;cases this
   simp [hne]
theorem KD.ta {v:β} (hd:KD t es):KD t (jX t es x v):=by
 cases hm:cH t es x with
 |false =>
  refine KD.perm (qV hm) ?_
  unfold KD
  rw [List.pairwise_append]
  refine ⟨hd,by simp,fun a ha b hb=>?_⟩
  rw [List.mem_singleton] at hb;subst hb
  rw [iX]
  exact tW hm ha
 |true =>
  unfold jX
  rw [hm,if_pos rfl]
  unfold KD
  rw [List.pairwise_map]
  refine List.Pairwise.imp ?_ hd
  intro a b h
  split<;>split
  ·rename_i h1 h2
   have e1:=gK h1
   have e2:=gK h2
   rw [<-e1,<-e2] at h
   rw [<-e1] at h1;rw [h] at h1;cases h1
  ·rename_i h1 h2
   have e1:=gK h1
   rw [<-e1] at h;exact h
  ·rename_i h1 h2
   have e1:=gK h2
   rw [<-e1] at h;exact h
  ·exact h
end
theorem ig:∀{k1 k2:List Kd} {a1 a2 b1 b2:List V} {p q:Bool},aI (aZ c1 c2 c3 c4 c5 c6 c7) k1 a1 b1=some p->aI (aZ c1 c2 c3 c4 c5 c6 c7) k2 a2 b2=some q ->
  aI (aZ c1 c2 c3 c4 c5 c6 c7) (k1++k2) (a1++a2) (b1++b2)=some (p&&q)
 |[],k2,a1,a2,b1,b2,p,q,h1,h2=>by
  cases a1<;>cases b1<;>simp [aI] at h1
  subst h1
  simpa using h2
 |k::k1,k2,as,a2,bs,b2,p,q,h1,h2=>by
  obtain ⟨a,as,b,bs,rfl,rfl⟩:=cJ h1
  simp only [List.cons_append]
  cases k
  ·simp only [aI] at h1 ⊢
   split at h1<;>try (cases h1;done)
   rename_i u v hu hv
   split at h1<;>try (cases h1;done)
   rename_i r hr
   cases h1
   rw [ig hr h2]
   simp [Bool.and_assoc]
  ·cases a <;> cases b <;> simp only [aI] at h1 <;> try (cases h1; done)
   split at h1<;>try (cases h1;done)
   rename_i hk
   split at h1<;>try (cases h1;done)
   rename_i r hr
   cases h1
   simp only [aI,if_pos hk]
   rw [ig hr h2]
   simp [Bool.and_assoc]
  ·cases a <;> cases b <;> simp only [aI] at h1 <;> try (cases h1; done)
   split at h1<;>try (cases h1;done)
   rename_i r hr
   cases h1
   simp only [aI]
   rw [ig hr h2]
   simp [Bool.and_assoc]
theorem kq : ∀ {t : Ty} {ks : List Kd} (x y : t.den), mS t = some ks → aI (aZ c1 c2 c3 c4 c5 c6 c7) ks (dF t x) (dF t y) = some (gX t x y)
 | .unit,ks,x,y,h=>by cases h;rfl
 | .bool,ks,x,y,h=>by cases h;simp [dF,aI,C9,gX]
 | .str,ks,x,y,h=>by cases h;simp [dF,aI,gX,ByteArray.toList_eq]
 | .int k,ks,x,y,h=>by cases h;simp [dF,aI,gX]
 | .list _,ks,x,y,h=>by cases h
 | .cn _ _ _,ks,x,y,h=>by cases h
 | .prod a b,ks,x,y,h=>by
  simp only [mS] at h
  split at h<;>try (cases h;done)
  rename_i k1 k2 h1 h2
  cases h
  simp only [dF,gX]
  exact ig (kq x.1 y.1 h1) (kq x.2 y.2 h2)
theorem ij {ι ι' : aA} : ∀ {t : Ty} {ks : List Kd} {x : t.den} {vs : List Value}, mS t = some ks → af ι t x vs → (∀ y ws, af ι' t y ws → x = y → ws = vs) ∧ ∀ v ∈ vs, ∀ n, Instr.sameBits n v v = true
 | .unit,ks,x,vs,h,hc=>by
  simp only [af] at hc;subst hc
  exact ⟨fun y ws hw _=>by simpa [af] using hw,by simp⟩
 | .bool,ks,x,vs,h,hc=>by
  simp only [af] at hc;subst hc
  refine ⟨fun y ws hw e=>by simp only [af] at hw;rw [hw,e],fun v hv n=>?_⟩
  rw [List.mem_singleton] at hv;subst hv;cases n<;>simp [Instr.sameBits]
 | .str,ks,x,vs,h,hc=>by
  simp only [af] at hc;subst hc
  refine ⟨fun y ws hw e=>by simp only [af] at hw;rw [hw,e],fun v hv n=>?_⟩
  rw [List.mem_singleton] at hv;subst hv;cases n<;>simp [Instr.sameBits,qU]
 | .int k,ks,x,vs,h,hc=>by
  simp only [af] at hc;subst hc
  refine ⟨fun y ws hw e=>by simp only [af] at hw;rw [hw,e],fun v hv n=>?_⟩
  rw [List.mem_singleton] at hv;subst hv;cases n<;>simp [Instr.sameBits]
 | .list _,ks,x,vs,h,hc=>by cases h
 | .cn _ _ _,ks,x,vs,h,hc=>by cases h
 | .prod a b,ks,x,vs,h,hc=>by
  simp only [mS] at h
  split at h<;>try (cases h;done)
  rename_i k1 k2 h1 h2
  obtain ⟨us,ws,rfl,d1,d2⟩:=hc
  obtain ⟨p1,p2⟩:=ij (ι':=ι') h1 d1
  obtain ⟨q1,q2⟩:=ij (ι':=ι') h2 d2
  refine ⟨fun y vs hv e=>?_,fun v hv n=>?_⟩
  ·obtain ⟨us', ws', rfl, d1', d2'⟩ := hv
   rw [p1 _ _ d1' (by rw [e]),q1 _ _ d2' (by rw [e])]
  ·rcases List.mem_append.1 hv with hv | hv
   ·exact p2 v hv n
   ·exact q2 v hv n
theorem mX {em:Bool} {n:Nat} {xs:Array Value}:∀{fs:List Field} {k:Nat} {ks:List Kd},o4 P k fs=some ks->k+ks.length<=xs.size ->
  (forIn (m:=Sem) fs PUnit.unit (fun f (_:PUnit) =>
   if f.name ≠ "_" then part f.type xs f.offset >>= fun p=>Instr.checkKey em (n+1) f.type p >>= fun _=>pure (ForInStep.yield PUnit.unit)
   else pure (ForInStep.yield PUnit.unit))).run P w = .ok PUnit.unit w
 |[],k,ks,h,hl=>by simp
 |f::r,k,ks,h,hl=>by
  unfold o4 at h
  split at h<;>try (cases h;done)
  rename_i hn
  obtain ⟨hname,hoff⟩:=hn
  have step:∀{d:TypeDesc} {ks':List Kd},P.underlying f.type=some d->(match d with | .struct _=>false | .array _ _=>false | .interface _=>false|_=>true)=true->o4 P (k+1) r=some ks'->ks.length=ks'.length+1 ->
    (forIn (m:=Sem) (f::r) PUnit.unit (fun f (_:PUnit) =>
     if f.name ≠ "_" then part f.type xs f.offset >>= fun p=>Instr.checkKey em (n+1) f.type p >>= fun _=>pure (ForInStep.yield PUnit.unit)
     else pure (ForInStep.yield PUnit.unit))).run P w = .ok PUnit.unit w:=by
   intro d ks' hu hd hks hl'
   have gH:(isAgg f.type).run P w = .ok false w:=by
    unfold isAgg
    rw [Sem.run_bind,run_underlying hu w]
    cases d<;>simp_all
   obtain ⟨x,hx⟩:∃x,xs[k]?=some x:=⟨xs[k],Array.getElem?_eq_getElem (by omega)⟩
   have p1:(part f.type xs f.offset).run P w = .ok x w:=by simp [part,gH,hoff,hx]
   have p2:(Instr.checkKey em (n+1) f.type x).run P w = .ok () w:=by
    unfold Instr.checkKey
    rw [Sem.run_bind,run_underlying hu w]
    cases d<;>first|(cases hd;done)|simp
   have ih:=mX (em:=em) (n:=n) (xs:=xs) hks (by omega)
   simp only [List.forIn_cons,Sem.run_bind,if_pos hname,p1,p2,Result.andThen_ok,Sem.run_pure]
   exact ih
  split at h<;>try (cases h;done)
  all_goals
   rename_i ks' hu hks
   cases h
   exact step hu rfl hks rfl
theorem oc : ∀ {t : Ty} {ks : List Kd}, mS t = some ks → t.sz = ks.length
 | .unit,ks,h=>by cases h;rfl
 | .bool,ks,h=>by cases h;rfl
 | .str,ks,h=>by cases h;rfl
 | .int k,ks,h=>by cases h;rfl
 | .list _,ks,h=>by cases h
 | .cn _ _ _,ks,h=>by cases h
 | .prod a b,ks,h=>by
  simp only [mS] at h
  split at h<;>try (cases h;done)
  rename_i k1 k2 h1 h2
  cases h
  simp [Ty.sz,oc h1,oc h2]
structure vu (P:Program) (k:TypeId) (kt:Ty) (kg:Bool) (ι:aA) (w:World) (x:kt.den) (z:Value):Prop where
 check:∀em,(Instr.checkKey em 10000 k z).run P w = .ok () w
 stays:(Instr.keyThatStays z z).run P w = .ok z w
 same:∀{y:kt.den} {z':Value},fP ι kg kt y z'->gX kt x y=true->z'=z
 find:∃A:List MapEntry->Nat->Option (Nat×Value)->Prop,(∀ms o,A ms 0 o->(Instr.findKey k z ms).run P w = .ok o w)/\(∀i,A [] i none) /\
  (∀m r i y,fP ι kg kt y m.key->gX kt x y=true->A (m::r) i (some (i,m.val)))/\∀m r i y o,fP ι kg kt y m.key->gX kt x y=false->A r (i+1) o->A (m::r) i o
theorem tY {k:TypeId} {kt:Ty} {kg:Bool} (h:Bz P k=some (kt,kg)) {x:kt.den} {z:Value} (hz:fP ι kg kt x z):vu P k kt kg ι w x z:=by
 unfold Bz at h
 split at h<;>try (cases h;done)
 ·rename_i i hu
  cases h
  obtain ⟨xs,h1,h2⟩:=hz
  cases h1;cases h2
  have hk:MapKept.IsKey (.int i) (.int i x):=rfl
  have q:∀{y:(Ty.int i).den} {z':Value},fP ι false (.int i) y z'->Instr.sameNow (.int i) (.int i x) z'=some (gX (.int i) x y):=fun {y z'} qk=>by
   obtain ⟨ys,h3,h4⟩:=qk
   cases h3;cases h4
   simp [Instr.sameNow,gX]
  refine ⟨fun em=>MapKept.run_checkKey hu hk em 9999,MapKept.run_keyThatStays hk,fun {y z'} qk e=>?_,fun ms i' o=>Instr.findNow (.int i) (.int i x) ms i'=some o,fun ms o h=>MapKept.run_findKey hu h,fun _=>rfl,fun m r i' y hy e=>?_,fun m r i' y o hy e h=>?_⟩
  ·obtain ⟨ys, h3, h4⟩ := qk
   cases h3;cases h4
   simp only [gX,beq_iff_eq] at e;rw [e]
  ·have:=q hy;rw [e] at this;simp [Instr.findNow,this]
  ·have:=q hy;rw [e] at this;simp [Instr.findNow,this,h]
 ·rename_i hu
  cases h
  obtain ⟨xs,h1,h2⟩:=hz
  cases h1;cases h2
  have hk:MapKept.IsKey .string (.string x):=trivial
  have q:∀{y:Ty.str.den} {z':Value},fP ι false .str y z'->Instr.sameNow .string (.string x) z'=some (gX .str x y):=fun {y z'} qk=>by
   obtain ⟨ys,h3,h4⟩:=qk
   cases h3;cases h4
   simp only [Instr.sameNow,gX,qU]
  refine ⟨fun em=>MapKept.run_checkKey hu hk em 9999,MapKept.run_keyThatStays hk,fun {y z'} qk e=>?_,fun ms i' o=>Instr.findNow .string (.string x) ms i'=some o,fun ms o h=>MapKept.run_findKey hu h,fun _=>rfl,fun m r i' y hy e=>?_,fun m r i' y o hy e h=>?_⟩
  ·obtain ⟨ys, h3, h4⟩ := qk
   cases h3;cases h4
   have:=gK e;subst this;rfl
  ·have:=q hy;rw [e] at this;simp [Instr.findNow,this]
  ·have:=q hy;rw [e] at this;simp [Instr.findNow,this,h]
 ·rename_i fs hu
  split at h<;>try (cases h;done)
  rename_i ty ks E9 hfl
  split at h<;>try (cases h;done)
  rename_i hc
  cases h
  obtain ⟨hks,hst⟩:=hc
  obtain ⟨xs,h1,h2⟩:=hz
  cases h2
  have hlen:xs.length=ks.length:=by rw [h1.length,oc hks]
  have heq:∀{y:kt.den} {z':Value},fP ι true kt y z'->(Op.equal k (.agg xs.toArray) z').run P w = .ok (gX kt x y) w:=fun {y z'} qk=>by
   obtain ⟨ys,h3,h4⟩:=qk
   cases h4
   have hfo:P.fieldsOf k=fs:=by simp [Program.fieldsOf,hu]
   have e1:=run_equalIn_struct (P:=P) w 9999 k xs.toArray ys.toArray (by rw [hfo];exact hu) hst
   rw [hfo] at e1
   have hv:=kq (c1:=fun _ _ _ _=>True) (c2:=fun _ _ _=>True) (c3:=fun _ _ _=>True) (c4:=fun _ _ _ _=>True) (c5:=fun _ _ _ _ _ _=>True) (c6:=fun _ _ _=>True) (c7:=fun _ _ _ _ _ _=>True) x y hks
   have e2:=fS (d:=9998) (w:=w) (P:=P) (ι:=ι) (μ:=fun _=>none) hfl (xs:=xs.toArray) (ys:=ys.toArray) (by simpa using eo h1) (by simpa using eo h3) hv
   exact e1.trans e2
  refine ⟨fun em=>?_,?_,fun {y z'} qk e=>?_,fun ms i' o=>(Instr.findAsking k (.agg xs.toArray) ms i').run P w = .ok o w,fun ms o h=>?_,fun _=>rfl,fun m r i' y hy e=>?_,fun m r i' y o hy e h=>?_⟩
  ·show (Instr.checkKey em (9999 + 1) k _).run P w = _
   unfold Instr.checkKey
   rw [Sem.run_bind,run_underlying hu w]
   simp only [Result.andThen_ok]
   rw [<-Array.forIn_toList]
   rw [Sem.run_bind]
   have:=mX (P:=P) (w:=w) (em:=em) (n:=9998) (xs:=xs.toArray) hfl (by simp [hlen])
   erw [this]
   rfl
  ·have hs:Instr.sameBits 10000 (.agg xs.toArray) (.agg xs.toArray)=true:=by
    show Instr.sameBits (9999+1) _ _=true
    simp only [Instr.sameBits,beq_self_eq_true,Bool.true_and,List.all_eq_true]
    intro p hp
    obtain ⟨i,hi,e⟩:=List.getElem_of_mem hp
    rw [List.getElem_zip] at e
    rw [<-e]
    exact (ij (ι':=ι) hks h1).2 _ (List.getElem_mem _) 9999
   simp [Instr.keyThatStays,hs]
  ·obtain ⟨ys, h3, h4⟩ := qk
   cases h4
   rw [(ij (ι':=ι) hks h1).1 _ _ h3 (gK e)]
  ·rw [run_findKey_eq w (by rw [hu])];exact h
  ·have:=heq hy;rw [e] at this;simp [Instr.findAsking,this]
  ·have:=heq hy;rw [e] at this;simp [Instr.findAsking,this,h]
theorem FT {kt vt : Ty} {kg vg : Bool} {x : kt.den} {z : Value} {A : List MapEntry → Nat → Option (Nat × Value) → Prop} (hsame : ∀ {y : kt.den} {z' : Value}, fP ι kg kt y z' → gX kt x y = true → z' = z) (h0 : ∀ i, A [] i none)
  (hy1:∀m r i y,fP ι kg kt y m.key->gX kt x y=true->A (m::r) i (some (i,m.val))) (NA:∀m r i y o,fP ι kg kt y m.key->gX kt x y=false->A r (i+1) o->A (m::r) i o) (dflt:vt.den) :
  ∀{es:List (kt.den×vt.den)} {ms:List MapEntry} (i:Nat),fE ι kt kg vt vg es ms ->
  (cH kt es x=false/\A ms i none) \/
  (cH kt es x=true/\∃j m,A ms i (some (i+j,m.val))/\ms[j]?=some m/\m.key=z/\fP ι vg vt (dD kt dflt es x) m.val/\∃e,es[j]?=some e/\gX kt x e.1=true)
 |[],ms,i,h=>by simp [fE] at h;subst h;exact .inl ⟨rfl,h0 i⟩
 |e::es,ms,i,h=>by
  obtain ⟨m,r,rfl,h1,h2,h3⟩:=h
  cases hd:gX kt x e.1 with
  |true=>exact .inr ⟨by simp [cH,hd],0,m,hy1 m r i _ h1 hd,rfl,hsame h1 hd,by simp [dD,hd];exact h2,e,rfl,hd⟩
  |false =>
   rcases FT hsame h0 hy1 NA dflt (i+1) h3 with ⟨r1,r2⟩|⟨r1,j,m',r2,r3,r4,r5,e',r6,r7⟩
   ·refine .inl ⟨?_, NA m r i _ _ h1 hd r2⟩
    simp only [cH] at r1 ⊢
    simp [hd,r1]
   ·refine .inr ⟨?_, j + 1, m', ?_, by simpa using r3, r4, by simp [dD, hd]; exact r5, e', by simpa using r6, r7⟩
    ·simp only [cH] at r1 ⊢
     simp [hd,r1]
    ·have := NA m r i _ _ h1 hd r2
     rwa [show i+1+j=i+(j+1) by omega] at this
theorem NB {k:TypeId} {kt vt:Ty} {kg vg:Bool} {x:kt.den} {z:Value} (hk:vu P k kt kg ι w x z) (dflt:vt.den) {es:List (kt.den×vt.den)} {ms:List MapEntry} (h:fE ι kt kg vt vg es ms) :
  (cH kt es x=false/\(Instr.findKey k z ms).run P w = .ok none w) \/
  (cH kt es x=true/\∃j m,(Instr.findKey k z ms).run P w = .ok (some (j,m.val)) w/\ms[j]?=some m/\m.key=z/\fP ι vg vt (dD kt dflt es x) m.val/\∃e,es[j]?=some e/\gX kt x e.1=true):=by
 obtain ⟨A,a1,a2,a3,a4⟩:=hk.find
 rcases FT hk.same a2 a3 a4 dflt 0 h with ⟨r1,r2⟩|⟨r1,j,m,r2,r3,r4,r5,r6⟩
 ·exact .inl ⟨r1,a1 _ _ r2⟩
 ·exact .inr ⟨r1,j,m,by have:=a1 _ _ r2;rwa [Nat.zero_add] at this,r3,r4,r5,r6⟩
theorem fE.set {kt vt : Ty} {kg vg : Bool} {x : kt.den} {y : vt.den} {z zv : Value} (hx : fP ι kg kt x z) (hy : fP ι vg vt y zv) : ∀ {es : List (kt.den × vt.den)} {ms : List MapEntry} {j : Nat} {m : MapEntry}, fE ι kt kg vt vg es ms → m.key = z → m.val = zv → fE ι kt kg vt vg (es.set j (x, y)) (ms.set j m)
 |[],ms,j,m,h,_,_=>by simp [fE] at h;subst h;simp [fE]
 |e::es,ms,0,m,h,hk,hv=>by
  obtain ⟨m0,r,rfl,h1,h2,h3⟩:=h
  exact ⟨m,r,rfl,by rw [hk];exact hx,by rw [hv];exact hy,h3⟩
 |e::es,ms,j+1,m,h,hk,hv=>by
  obtain ⟨m0,r,rfl,h1,h2,h3⟩:=h
  exact ⟨m0,r.set j m,rfl,h1,h2,fE.set hx hy h3 hk hv⟩
theorem fE.snoc {kt vt : Ty} {kg vg : Bool} {x : kt.den} {y : vt.den} {m : MapEntry} (hx : fP ι kg kt x m.key) (hy : fP ι vg vt y m.val) : ∀ {es : List (kt.den × vt.den)} {ms : List MapEntry}, fE ι kt kg vt vg es ms → fE ι kt kg vt vg (es ++ [(x, y)]) (ms ++ [m])
 |[],ms,h=>by simp [fE] at h;subst h;exact ⟨m,[],rfl,hx,hy,rfl⟩
 |e::es,ms,h=>by
  obtain ⟨m0,r,rfl,h1,h2,h3⟩:=h
  exact ⟨m0,r++[m],rfl,h1,h2,fE.snoc hx hy h3⟩
theorem qW {bl:aj} {kt vt:Ty} {kg vg:Bool} {id:Nat} {es:List (kt.den×vt.den)} (h:tJ bl kt kg vt vg id=some es):aq id bl=some (.map kt kg vt vg es):=by
 unfold tJ at h
 split at h<;>try (cases h;done)
 rename_i Fp Nq Fq Nr es' hb
 split at h<;>try (cases h;done)
 rename_i hg
 obtain ⟨rfl,rfl⟩:=hg
 unfold Bu at h
 split at h<;>try (cases h;done)
 rename_i hc
 obtain ⟨rfl,rfl⟩:=hc
 cases h
 exact hb
theorem Ab {e:TypeId} {vt:Ty} {vg:Bool} (h:Bx P e=some (vt,vg)):∃z,(∀w:World,(zeroValue e).run P w = .ok z w)/\fP ι vg vt vt.zero z:=by
 unfold Bx at h
 split at h<;>try (cases h;done)
 rename_i ty g i _ _ hi
 split at h<;>try (cases h;done)
 rename_i z hz
 have hrun:∀w:World,(zeroValue e).run P w = .ok z w:=fun w=>by simp [zeroValue,typeInfo,hi,hz]
 split at h<;>try (cases h;done)
 rename_i h0
 split at h<;>try (cases h;done)
 rename_i hg
 cases h
 obtain ⟨us,e1,hd⟩:=eC (ι:=ι) h0
 rw [List.append_nil] at e1
 refine ⟨z,hrun,us,hd,?_⟩
 rw [<-e1,<-hg]
 cases z<;>simp [Fx,lE,Value.cells]
theorem qX {t:TypeId} {kt vt:Ty} {kg vg:Bool} (h:o5 P t=some (kt,kg,vt,vg)):∃k e,P.underlying t=some (.map k e)/\Bz P k=some (kt,kg)/\Bx P e=some (vt,vg):=by
 unfold o5 at h
 split at h<;>try (cases h;done)
 rename_i k e hu
 split at h<;>try (cases h;done)
 rename_i Fp Nq Fq Nr hk hv
 cases h
 exact ⟨k,e,hu,hk,hv⟩
theorem xR (h:Inv P Y ι μ H w) {aF:Nat} (hn:μ aF=none) (t:TypeId) (kt vt:Ty) (kg vg:Bool) :
  ∃μ' x w',(Instr.makeMap t none).run P w = .ok x w'/\μ.le μ'/\(∀id,id≠aF->μ' id=μ id)/\Inv P Y ι μ' ⟨max H.next (aF+1),(aF,.map kt kg vt vg [])::bH aF H.bl⟩ w'/\Rel ι μ' (.mp aF) x:=by
 let L:Loc:=⟨w.heap.size,0,0,0⟩
 have hle:=Mu.gF (L:=L) hn
 have iW:μ.set aF L aF=some L:=by simp [Mu.set]
 refine ⟨_,_,w.alloc (.map #[] 0),rfl,hle,Mu.n7,h.lay hn (L:=L) rfl ⟨L,#[],0,[],iW,.inl h.below.size,?_,rfl,by simp,by simp,.refl _,.nil⟩,.mp _ L iW⟩
 show (w.heap.push _)[w.heap.size]?=_
 simp
theorem Ad (h : Inv P Y ι μ H w) {aF : Nat} {t : TypeId} {kt vt : Ty} {kg vg ok : Bool} (ht : o5 P t = some (kt, kg, vt, vg)) {va vi : V} {a ix : Value} (ha : Rel ι μ va a) (hi : Rel ι μ vi ix) {ob : List Bool} {v : V} {u : cU}
  (ah:iO (aZ c1 c2 c3 c4 c5 c6 c7) (.zN kt kg vt vg ok) [va,vi] H.bl aF=some (ob,v,u)):u=[]/\∃y,(Instr.lookup t a ix ok).run P w = .ok y w/\Rel ι μ v y:=by
 obtain ⟨k,e,hu,hk,hv⟩:=qX ht
 simp only [iO] at ah
 split at ah<;>try (cases ah;done)
 rename_i x hx
 have tq:vu P k kt kg ι w x ix:=tY hk (n9 hx hi)
 obtain ⟨z0,Fb,hz1⟩:=Ab (ι:=ι) hv
 have fin:∀{b:Bool} {y:vt.den} {yv:Value},fP ι vg vt y yv->Rel ι μ (if ok=true then V.cq [dF.jY vg (dF vt y),.bool b] else dF.jY vg (dF vt y)) (if ok=true then .tuple #[yv,.bool b] else yv):=fun {b y yv} hy=>by
  cases ok with
  |false=>exact hy.rel
  |true =>
   refine .cq _ _ rfl (fun i v x hv hx=>?_)
   match i with
   |0=>simp at hv hx;subst hv;subst hx;exact hy.rel
   |1=>simp at hv hx;subst hv;subst hx;exact .bool _
   |i+2=>simp at hv
 split at ah<;>try (cases ah;done)
 rename_i es Sy
 have hout:u=[]/\v=(if ok=true then V.cq [dF.jY vg (dF vt (dD kt vt.zero es x)),.bool (cH kt es x)] else dF.jY vg (dF vt (dD kt vt.zero es x))):=by
  cases ok<;>cases ah<;>exact ⟨rfl,rfl⟩
 obtain ⟨rfl,rfl⟩:=hout
 refine ⟨rfl,?_⟩
 cases ha<;>simp only at Sy<;>try (cases Sy;done)
 case mp id L hL =>
  have hb:=qW Sy
  obtain ⟨L',ms,clock,qJ,h1,h2,h3,h4,h5,h6,h7,h8⟩:=h.live _ _ hb
  rw [hL] at h1;cases h1
  have hge:dD kt vt.zero es x=dD kt vt.zero qJ x:=(Dh h7 h8 (h8.perm h7)).symm
  have hhe:cH kt es x=cH kt qJ x:=(oa h7).symm
  rw [hge,hhe]
  rcases NB tq vt.zero h4 with ⟨r1,r2⟩|⟨r1,j,m,r2,r3,r4,r5,_⟩
  ·refine ⟨_, ?_, fin (b := cH kt qJ x) (yv := z0) (by rw [kW r1]; exact hz1)⟩
   rw [r1]
   cases ok<;>simp [Instr.lookup,run_underlying hu,MapKept.run_getObj_map h3,tq.check,r2,Fb]
  ·refine ⟨_, ?_, fin (b := cH kt qJ x) r5⟩
   rw [r1]
   cases ok<;>simp [Instr.lookup,run_underlying hu,MapKept.run_getObj_map h3,tq.check,r2]
 case dA =>
  cases Sy
  refine ⟨_,?_,fin (b:=false) (yv:=z0) hz1⟩
  obtain ⟨A,a1,a2,_⟩:=tq.find
  have r2:(Instr.findKey k ix []).run P w = .ok none w:=a1 _ _ (a2 0)
  cases ok<;>simp [Instr.lookup,run_underlying hu,tq.check,r2,Fb]
theorem Ae (h : Inv P Y ι μ H w) {aF : Nat} {t : TypeId} {kt vt : Ty} {kg vg : Bool} (ht : o5 P t = some (kt, kg, vt, vg)) {va vi vv : V} {a ix z : Value} (ha : Rel ι μ va a) (hi : Rel ι μ vi ix) (hz : Rel ι μ vv z) {ob : List Bool} {v : V} {u : cU}
  (ah:iO (aZ c1 c2 c3 c4 c5 c6 c7) (.ta kt kg vt vg) [va,vi,vv] H.bl aF=some (ob,v,u)):∃w',(Instr.mapUpdate t a ix z).run P w = .ok () w'/\Inv P Y ι μ ⟨H.next,bD u H.bl⟩ w'/\v = .any:=by
 obtain ⟨k,e,hu,hk,hv⟩:=qX ht
 simp only [iO] at ah
 split at ah<;>try (cases ah;done)
 rename_i id k' v' heq
 simp only [List.cons.injEq,and_true] at heq
 obtain ⟨rfl,rfl,rfl⟩:=heq
 split at ah<;>try (cases ah;done)
 rename_i x hx
 split at ah<;>try (cases ah;done)
 rename_i y hy
 split at ah<;>try (cases ah;done)
 rename_i es Sy
 cases ah
 have hb:=qW Sy
 have YM:=n9 hx hi
 have hvy:=n9 hy hz
 have tq:vu P k kt kg ι w x ix:=tY hk YM
 cases ha with
 |mp _ L hL =>
 obtain ⟨L',ms,clock,qJ,h1,h2,h3,h4,h5,h6,h7,h8⟩:=h.live _ _ hb
 rw [hL] at h1;cases h1
 have hlt:L.b<w.heap.size:=(Array.getElem?_eq_some_iff.1 h3).1
 rcases NB tq vt.zero h4 with ⟨r1,r2⟩|⟨r1,j,m,r2,r3,r4,_,e0,r5,r6⟩
 ·refine ⟨w.putObj L.b (.map (ms.push { key := ix, val := z, born := clock }) (clock + 1)), ?_, ?_, rfl⟩
  ·simp [Instr.mapUpdate,run_underlying hu,MapKept.run_getObj_map h3,tq.check,r2,MapKept.run_setObj_map _ h3,World.putObj]
  ·refine h.BK hb hL h3 (by simp) (fun ms' c' e => by cases e; exact ⟨_, _, rfl, by simp [Array.toList_push, List.map_append], Nat.le_succ _⟩) ⟨L, _, _, qJ ++ [(x, y)], hL, h2, World.putObj_heap_same hlt, ?_, ?_, ?_, (qV r1).trans (tX h7), KD.perm (qV r1).symm h8.ta⟩
   ·show fE ι kt kg vt vg _ _
    rw [Array.toList_push]
    exact h4.snoc YM hvy
   ·intro m hm
    simp only [Array.toList_push,List.mem_append,List.mem_singleton] at hm
    rcases hm with hm|rfl
    ·exact Nat.lt_succ_of_lt (h5 m hm)
    ·exact Nat.lt_succ_self _
   ·simp only [Array.toList_push, List.map_append, List.map_cons, List.map_nil]
    refine List.nodup_append.2 ⟨h6,by simp,?_⟩
    intro p hp q hq
    simp only [List.mem_singleton] at hq
    subst hq
    obtain ⟨m,hm,rfl⟩:=List.mem_map.1 hp
    exact Nat.ne_of_lt (h5 m hm)
 ·have hj : ms[j]? = some m := by simpa using r3
  refine ⟨w.putObj L.b (.map (ms.modify j fun e=>{ e with key:=ix,val:=z }) clock),?_,?_,rfl⟩
  ·have := tq.stays
   simp [Instr.mapUpdate,run_underlying hu,MapKept.run_getObj_map h3,tq.check,r2,hj,r4,this,MapKept.run_setObj_map _ h3,World.putObj]
  ·have hml:(ms.modify j fun e=>{ e with key:=ix,val:=z }).toList=ms.toList.set j { m with key:=ix,val:=z }:=by
    apply List.ext_getElem?
    intro i
    simp only [Array.getElem?_toList,Array.getElem?_modify,List.getElem?_set]
    by_cases e:j=i
    ·subst e
     obtain ⟨q1,q2⟩:=Array.getElem?_eq_some_iff.1 hj
     simp [hj,q1,q2]
    ·simp [e]
   have Tj:(ms.toList.set j { m with key:=ix,val:=z }).map (fun m=>(m.born,m.key))=ms.toList.map fun m=>(m.born,m.key):=by
    rw [List.map_set]
    apply List.ext_getElem?
    intro i
    simp only [List.getElem?_set,List.getElem?_map,List.length_map]
    by_cases e:j=i
    ·subst e
     obtain ⟨q1,q2⟩:=Array.getElem?_eq_some_iff.1 hj
     simp [hj,q1,q2,r4]
    ·simp [e]
   have NC:(ms.toList.set j { m with key:=ix,val:=z }).map (·.born)=ms.toList.map (·.born):=by
    have:=congrArg (List.map Prod.fst) Tj
    simpa [List.map_map,Function.comp_def] using this
   refine h.BK hb hL h3 (by simp) (fun ms' c' e=>by cases e;exact ⟨_,_,rfl,by rw [hml,Tj];exact List.prefix_refl _,Nat.le_refl _⟩) ⟨L,_,_,qJ.set j (x,y),hL,h2,World.putObj_heap_same hlt,?_,?_,?_,by rw [BL h8 r5 r6];exact tX h7,by rw [BL h8 r5 r6];exact h8.ta⟩
   ·show fE ι kt kg vt vg _ _
    rw [hml]
    exact fE.set YM hvy h4 rfl rfl
   ·intro m' hm'
    rw [hml] at hm'
    have:m'.born∈(ms.toList.set j { m with key:=ix,val:=z }).map (·.born):=List.mem_map.2 ⟨m',hm',rfl⟩
    rw [NC] at this
    obtain ⟨m2,hm2,e2⟩:=List.mem_map.1 this
    rw [<-e2];exact h5 m2 hm2
   ·rw [hml,NC];exact h6
theorem Af (h : Inv P Y ι μ H w) {aF : Nat} {t e : TypeId} {n dw : Nat} (hu : P.underlying t = some (.array n e)) (hsz : cm P e = some dw) {va : V} {a : Value} (ha : Rel ι μ va a) {ob : List Bool} {v : V} {u : cU}
  (ah:iO (aZ c1 c2 c3 c4 c5 c6 c7) (.JH n) [va] H.bl aF=some (ob,v,u)):u=[]/\∃y,(Instr.sliceAt t a none none none).run P w = .ok y w/\Rel ι μ v y:=by
 have hsize:(sizeOf e).run P w = .ok dw w:=by
  unfold cm at hsz
  cases hq:P.info? e with
  |none=>simp [hq] at hsz
  |some i=>simp [hq] at hsz;subst hsz;simp [sizeOf,typeInfo,hq]
 simp only [iO] at ah
 split at ah<;>try (cases ah;done)
 rename_i id ty m hvs
 cases hvs
 split at ah<;>try (cases ah;done)
 rename_i t' xs fz hb
 split at ah<;>try (cases ah;done)
 rename_i hc
 obtain ⟨rfl,rfl⟩:=hc
 cases ah
 cases ha with
 |pa _ _ _ L hL hm =>
  rcases h.live id _ hb with ⟨_,hn⟩|⟨L',vs,hM,dI,hl⟩
  ·rw [hL] at hn;cases hn
  ·have e1 := hM.mu
   rw [hL] at e1;cases e1
   have hlen:=dI.length (fun _ _=>af.length)
   have hf:=hM.fits
   refine ⟨rfl,.slice (some ⟨L.b,L.ba+0 * ty.sz,none⟩) m m,?_,.sl id ty 0 m m L hL (Nat.le_refl _) ?_ (by omega)⟩
   ·simp [Instr.sliceAt,run_underlying hu,Instr.sureAddr,Instr.sliceBounds,hsize,Addr.add]
   ·rw [hl, hm] at hlen
    simp only [Nat.zero_add]
    omega
theorem Ag (h : Inv P Y ι μ H w) {aF : Nat} {t k e ty : TypeId} (hu : P.underlying t = some (.map k e)) {va : V} {a : Value} (ha : Rel ι μ va a) {ob : List Bool} {v : V} {u : cU}
  (ah:iO (aZ c1 c2 c3 c4 c5 c6 c7) .JG [va] H.bl aF=some (ob,v,u)):u=[]/\∃y,(Builtin.len_ #[t] ty #[a]).run P w = .ok y w/\Rel ι μ v y:=by
 simp only [iO] at ah
 split at ah<;>try (cases ah;done)
 ·rename_i id heq
  simp only [List.cons.injEq,and_true] at heq
  subst heq
  split at ah<;>try (cases ah;done)
  rename_i es hb
  cases ah
  cases ha with
  |mp _ L hL =>
   obtain ⟨L',ms,clock,qJ,h1,h2,h3,h4,_,_,h7,_⟩:=h.live _ _ hb
   rw [hL] at h1;cases h1
   have:=h4.length.trans h7.length_eq
   simp only [Array.length_toList] at this
   refine ⟨rfl,.int .i64 es.length,?_,.int _ _⟩
   simp [Builtin.len_,run_underlying hu,MapKept.run_getObj_map h3,goInt,this]
 ·rename_i heq
  simp only [List.cons.injEq,and_true] at heq
  subst heq
  cases ah
  cases ha
  exact ⟨rfl,.int .i64 0,by simp [Builtin.len_,run_underlying hu,goInt],.int _ _⟩
theorem kr (zs:List Value):∀(m:Nat),((Array.range (m * zs.length)).map (fun i=>zs.toArray[i % zs.toArray.size]!)).toList=(List.replicate m zs).flatten:=by
 intro m
 apply List.ext_getElem?
 intro i
 induction m generalizing i with
 |zero=>simp
 |succ m ih =>
  rw [List.replicate_succ,List.flatten_cons]
  by_cases hi:i<zs.length
  ·rw [List.getElem?_append_left hi]
   have:i<(m+1) * zs.length:=by rw [Nat.add_mul];omega
   simp [this,Nat.mod_eq_of_lt hi,hi]
  ·rw [List.getElem?_append_right (by omega), ← ih]
   by_cases h2:i<(m+1) * zs.length
   ·have h3 : i - zs.length < m * zs.length := by rw [Nat.add_mul, Nat.one_mul] at h2; omega
    have h4:i % zs.length=(i - zs.length) % zs.length:=by
     rw [Nat.mod_eq_sub_mod (by omega)]
    simp [h2,h3,h4]
   ·have h3 : ¬ i - zs.length < m * zs.length := by rw [Nat.add_mul, Nat.one_mul] at h2; omega
    simp [h2,h3]
theorem xS (h:Inv P Y ι μ H w) {src dst e:TypeId} (hs:P.underlying src=some .string) (hd:P.underlying dst=some (.slice e)) (he:P.underlying e=some (.int .u8)) {s:ByteArray} :
  ∃ι' x w',(convert src dst (.string s)).run P w = .ok x w'/\ι.le ι'/\Inv P Y ι' μ H w'/\Rel ι' μ (.dS (.int .u8) (mM s)) x:=by
 let cells:Array Value:=(s.data.map fun b=>Value.int .u8 b.toNat)++Array.replicate (grownCap w s.size 0 e - s.size) (.int .u8 0)
 have hrun:(convert src dst (.string s)).run P w = .ok (.slice (some ⟨w.heap.size,0,none⟩) s.size (grownCap w s.size 0 e)) (w.drew.alloc (.cells cells e (cells.size,cells.size+1))):=by
  have hfr:(w.drew.alloc (.cells cells e)).freeze { block:=w.heap.size,off:=cells.size } 1=w.drew.alloc (.cells cells e (cells.size,cells.size+1)):=by
   have hh:(w.heap.push (.cells cells e)).modify w.heap.size (fun
     | .cells c elem (lo,hi)=>.cells c elem (if lo==hi then (cells.size,cells.size+1) else (min lo cells.size,max hi (cells.size+1)))
     |o=>o)=w.heap.push (.cells cells e (cells.size,cells.size+1)):=by
    apply Array.ext_getElem?
    intro i
    rw [Array.getElem?_modify]
    by_cases hi:w.heap.size=i
    ·subst hi;simp
    ·simp [hi,Array.getElem?_push,Ne.symm hi]
   unfold World.freeze
   rw [if_neg (by decide)]
   exact congrArg (fun h=>({ w.drew.alloc (.cells cells e) with heap:=h }:World)) hh
  have OU:(w.drew.alloc (.cells cells e)).shape? w.heap.size=some (e,cells.size):=by
   have:(w.drew.alloc (.cells cells e)).heap[w.heap.size]?=some (.cells cells e):=by
    show (w.heap.push _)[_]?=_
    simp
   unfold World.shape?
   rw [this]
  have hg:(choose (.appendCap s.size 0 e)).run P w = .ok (grownCap w s.size 0 e) w.drew:=by
   rw [run_choose_drew];rfl
  have Tk:(convert src dst (.string s)).run P w=(Conv.stringToBytes e s).run P w:=by
   simp [convert,run_underlying hs,run_underlying hd,run_underlying he]
  rw [Tk]
  have hnew:(newObj (.cells cells e)).run P w.drew = .ok w.heap.size (w.drew.alloc (.cells cells e)):=rfl
  simp only [Conv.stringToBytes,Sem.run_bind,hg,Result.andThen_ok,newRow,markStringish]
  rw [show (s.data.map fun b=>Value.int .u8 b.toNat)++Array.replicate (grownCap w s.size 0 e - s.size) (.int .u8 0)=cells from rfl,hnew]
  simp only [Result.andThen_ok,Sem.run_pure,Sem.run_bind,run_shape,OU,run_freeze,hfr]
 have FN:∀(j:Nat) v,((mM s).map (Value.int .u8))[j]?=some v->cells[j]?=some v:=fun j v hv=>by
  have hj:j<s.data.size:=by have:=(List.getElem?_eq_some_iff.1 hv).1;simpa [mM] using this
  simp only [cells]
  rw [Array.getElem?_append_left (by simpa using hj)]
  simpa [mM] using hv
 obtain ⟨ι',h1,h2,h3⟩:=h.drew.JS (c:=cells) (e:=e) (f:=(cells.size,cells.size+1)) FN
 have dI:∀(zs:List Int),bu (af ι' (.int .u8)) zs (zs.map (Value.int .u8)):=fun zs=>by
  induction zs with
  |nil=>rfl
  |cons z zs ih=>exact ⟨[.int .u8 z],_,rfl,rfl,ih⟩
 have hl:(mM s).length=s.size:=by simp [mM]
 refine ⟨ι',_,_,hrun,h1,h2,.dS _ _ _ ⟨some ⟨w.heap.size,0,none⟩,grownCap w s.size 0 e,by rw [hl],by rw [hl];exact grownCap_ge w s.size 0 e,.inr ⟨_,_,_,rfl,h3,dI _⟩⟩⟩
theorem tZ {t : Ty} : ∀ {m : Nat} {vs r : List Value}, Bw t m vs = some r → ∃ us, vs = us ++ r ∧ bu (af ι t) (List.replicate m t.zero) us
 |0,vs,r,h=>by cases h;exact ⟨[],rfl,rfl⟩
 |m+1,vs,r,h=>by
  simp only [Bw] at h
  split at h<;>try (cases h;done)
  rename_i r1 h1
  obtain ⟨us,rfl,hu⟩:=eC (ι:=ι) h1
  obtain ⟨ws,rfl,hw⟩:=tZ h
  exact ⟨us++ws,by simp,us,ws,rfl,hu,hw⟩
theorem FU (h:Inv P Y ι μ H w) {aF:Nat} (hn:μ aF=none) {t:Ty} {ys:List t.den} {xs:List Value} (hr:bu (af ι t) ys xs) (e:TypeId) {n:Nat} (hl:ys.length=n) :
  ∃μ',μ.le μ'/\(∀id,id≠aF->μ' id=μ id)/\Inv P Y ι μ' ⟨max H.next (aF+1),(aF,.arr t ys false)::bH aF H.bl⟩ (w.alloc (.cells xs.toArray e))/\Rel ι μ' (.pa aF t n) (.pointer (some ⟨w.heap.size,0,none⟩)):=by
 let L:Loc:=⟨w.heap.size,0,xs.length,ys.length⟩
 have hle:=Mu.gF (L:=L) hn
 have iW:μ.set aF L aF=some L:=by simp [Mu.set]
 have hfree:∀o,ι w.heap.size o=none:=fun o=>by
  cases FG:ι w.heap.size o with
  |none=>rfl
  |some y=>have:=World.block_lt_of_cell? _ _ (h.rd _ _ _ FG);simp at this
 refine ⟨_,hle,Mu.n7,h.lay hn (L:=L) rfl (.inr ⟨L,xs,⟨iW,(.inl h.below.size),⟨xs.toArray,e,?_,by simp [L],fun j v hv=>by simpa [L] using hv⟩,by simp [L],
  bu.one (fun _ _=>af.one) hr,(fun e=>by cases e),fun _=>hfree⟩,hr,rfl⟩),.pa _ _ _ L iW hl⟩
 show (w.heap.push _)[w.heap.size]?=_
 simp
theorem xT (h : Inv P Y ι μ H w) {aF : Nat} {t e : TypeId} {ty : Ty} {k : Nat} {i : TypeInfo} {z : Value} (ht : P.underlying t = some (.slice e)) (hi : P.info? e = some i) (hz : i.zero = some z)
  (h0:dH ty z.cells.toList=some []) {tt:TypeId} {va:V} {a:Value} (ha:Rel ι μ va a) {ob:List Bool} {v:V} {u:cU}
  (ah:iO (aZ c1 c2 c3 c4 c5 c6 c7) (.clear ty) [va] H.bl aF=some (ob,v,u)):∃w',(Builtin.clear_ #[t] tt #[a]).run P w = .ok (.tuple #[]) w'/\Inv P Y ι μ ⟨H.next,bD u H.bl⟩ w'/\Rel ι μ v (.tuple #[]):=by
 have hzv:∀w:World,(zeroValue e).run P w = .ok z w:=fun w=>by simp [zeroValue,typeInfo,hi,hz]
 obtain ⟨us,BM,hcell⟩:=eC (ι:=ι) h0
 simp only [List.append_nil] at BM
 simp only [iO] at ah
 split at ah<;>try (cases ah;done)
 rename_i id t' lo n heq
 simp only [List.cons.injEq,and_true] at heq
 subst heq
 split at ah<;>try (cases ah;done)
 rename_i e1;subst e1
 split at ah<;>try (cases ah;done)
 rename_i t'' xs hb
 split at ah<;>try (cases ah;done)
 rename_i e1;subst e1
 cases ah
 have Tl:Rel ι μ (.cq []) (.tuple #[]):=.cq _ _ rfl (fun i v x hv=>by simp at hv)
 have zero:∀(a0:Option Addr) (c:Nat),n=0->∃w',(Builtin.clear_ #[t] tt #[.slice a0 n c]).run P w = .ok (.tuple #[]) w'/\Inv P Y ι μ ⟨H.next,bD [(id,some (.arr t' (xp t'.zero xs lo n) false))] H.bl⟩ w'/\Rel ι μ (.cq []) (.tuple #[]):=fun a0 c hn=>by
  subst hn
  refine ⟨w,?_,?_,Tl⟩
  ·cases a0<;>simp [Builtin.clear_,run_underlying ht]
  ·have : xp t'.zero xs lo 0 = xs := by simp [xp]
   rw [this]
   exact h.same hb (h.live _ _ hb)
 cases ha with
 |bO _ _ _ a0=>exact zero a0 0 rfl
 |sl _ _ _ _ cap L hm h1 h2 h3 =>
  by_cases hn:n=0
  ·exact zero _ cap hn
  rcases h.live _ _ hb with ⟨_,hn'⟩|⟨L',vs,hM,hR,hl⟩
  ·rw [hn'] at hm;cases hm
  ·rw [hM.mu] at hm; cases hm
   have hul:us.length=t'.sz:=hcell.length
   have OR:(Builtin.zeroCells z.cells n).toList=(List.replicate n us).flatten:=by
    rw [<-BM]
    rw [<-kr z.cells.toList n]
    simp [Builtin.zeroCells]
   have FV:=bu.rep hcell n
   have tS:=FV.length (fun _ _=>af.length)
   simp only [List.length_replicate] at tS
   have hvl:=hR.length (fun _ _=>af.length)
   have hf:=hM.fits
   have hmul:lo * t'.sz+n * t'.sz<=vs.length:=by
    rw [hvl,<-Nat.add_mul]
    exact Nat.mul_le_mul_right _ (by omega)
   have OM:w.there L.b (L.ba+lo * t'.sz) ((List.replicate n us).flatten).length:=hM.there (by omega) (by rw [tS];omega)
   have h1c:∀v∈(List.replicate n us).flatten,v.oneCell'=true:=bu.one (fun _ _=>af.one) FV
   have hst:=run_storeCells_cells (P:=P) L.b (L.ba+lo * t'.sz) (List.replicate n us).flatten 0 w (fun j hj=>(OM j hj).1) (fun j hj=>(OM j hj).2) h1c
   refine ⟨w.setCells L.b (L.ba+lo * t'.sz) (List.replicate n us).flatten,?_,?_,Tl⟩
   ·obtain ⟨m, rfl⟩ : ∃ m, n = m + 1 := ⟨n - 1, by omega⟩
    simp only [Nat.add_zero] at hst
    simp [Builtin.clear_,run_underlying ht,hzv,OR,hst]
   ·have hw := hM.write (d := lo * t'.sz) (us := (List.replicate n us).flatten) (by rw [tS]; omega) h1c
    refine h.store hb hM.mu (hM.n4 rfl) (.inr ⟨L,_,hw,?_,by simp [xp,hl];omega⟩)
    have hA:=(hR.take (fun _ _=>af.length) lo)
    have hD:=(hR.drop (fun _ _=>af.length) (lo+n))
    rw [tS,<-Nat.add_mul]
    exact (hA.append FV).append hD
end
end Go.AM
end
section
namespace Go.AM
section
variable {P : Program} {Y : Ctx} {ι ι' : aA} {μ μ' : Mu} {H : aK} {w w' : World}
 {c1:Nat->List V->aK->(V->aK->Prop)->Prop} {c2:Nat->List V->V->Prop} {c3:C->St->(Ex->St->Prop)->Prop}
 {c4:Nat->List V->aK->(V->aK->Prop)->Prop} {c5:O->List Nat->C->C->St->(Ex->St->Prop)->Prop} {c6:C->St->(Ex->St->Prop)->Prop} {c7:GC}
theorem FW (ys:List Int):∀s:ByteArray,ys.foldl (fun r n=>r.push (UInt8.ofNat n.toNat)) s=⟨s.data++(ys.map fun z=>UInt8.ofNat z.toNat).toArray⟩:=by
 induction ys with
 |nil=>intro s;simp
 |cons y ys ih =>
  intro s
  rw [List.foldl_cons,ih]
  simp [ByteArray.push]
theorem BN : ∀ {ys : List Int} {us : List Value}, bu (af ι (.int .u8)) ys us → us = ys.map (Value.int .u8)
 |[],us,h=>h
 |y::ys,us,h=>by
  obtain ⟨a,b,rfl,h1,h2⟩:=h
  rw [BN h2]
  have h1:a=[.int .u8 y]:=h1
  subst h1
  rfl
theorem Ah (h : Inv P Y ι μ H w) {src dst e : TypeId} (hs : P.underlying src = some (.slice e)) (hd : P.underlying dst = some .string) (he : P.underlying e = some (.int .u8)) {v : V} {x : Value} {ys : List Int}
  (hy:elems (aZ c1 c2 c3 c4 c5 c6 c7) H.bl (.int .u8) v=some ys) (hr:Rel ι μ v x):(convert src dst x).run P w = .ok (.string (xk ys)) w:=by
 obtain ⟨news,hsrc,dI⟩:=n8 h (t:=.int .u8) hs hy hr
 have hn:=BN dI
 subst hn
 have hx:∃a n cap,x = .slice a n cap:=by
  unfold elems at hy
  split at hy<;>try (cases hy;done)
  ·cases hr;exact ⟨_,_,_,rfl⟩
  ·cases hr with
   |dS _ _ _ hd =>
    obtain ⟨a,cap,e,hle,hd⟩:=hd
    cases e
    exact ⟨_,_,_,rfl⟩
  ·cases hr<;>exact ⟨_,_,_,rfl⟩
 obtain ⟨a,n,cap,rfl⟩:=hx
 have hl:=hsrc.len w
 have hn:n=ys.length:=by simpa [Builtin.lenOf] using hl
 rw [run_convert_bytes_string w src dst e a n cap hs he hd]
 have hc:=hsrc.cells
 cases a with
 |none =>
  simp only [run_firstCells_none] at hc
  have:ys=[]:=by
   cases ys with
   |nil=>rfl
   |cons y ys=>simp at hc
  subst this
  simp [Conv.bytesToString,xk]
  rfl
 |some a =>
  simp only [Builtin.firstCells] at hc
  rw [run_bytesToString w a n cap ys (by rw [hn];simpa [Ty.sz] using hc),FW]
  simp [xk]
theorem lF {s:TypeId} {f n:Nat} {fd:Field} (h:mR P s f=some (fd,n)):∃fs,P.underlying s=some (.struct fs)/\fs[f]?=some fd:=by
 unfold mR at h
 split at h<;>try (cases h;done)
 rename_i fs hu
 split at h<;>try (cases h;done)
 rename_i fd' hf
 cases h
 exact ⟨fs,hu,hf⟩
theorem gA {t:TypeId} {k:Nat} (h:cm P t=some k):∃i,P.info? t=some i/\i.size=k/\∀w:World,(sizeOf t).run P w = .ok k w:=by
 unfold cm at h
 cases hq:P.info? t with
 |none=>simp [hq] at h
 |some i=>simp [hq] at h;subst h;exact ⟨i,rfl,rfl,fun w=>by simp [sizeOf,typeInfo,hq]⟩
theorem FX {t:TypeId} {g:Bool} (h:nZ P t=some g):∀w:World,(isAgg t).run P w = .ok g w:=by
 intro w
 unfold nZ at h
 split at h
 ·rename_i hu;cases h;unfold isAgg;rw [Sem.run_bind,run_underlying hu w];rfl
 ·rename_i hu;cases h;unfold isAgg;rw [Sem.run_bind,run_underlying hu w];rfl
 ·rename_i d h1 h2 hu
  cases h;unfold isAgg;rw [Sem.run_bind,run_underlying hu w]
  cases d<;>simp_all
 ·cases h
theorem xU {xs:List Value} {y:Value} (h:lE false xs=some y):xs=[y]:=by
 match xs,h with
 |[c],h=>cases h;rfl
theorem ku {env:List (Nat×V)} {a:Act} (he:fG ι μ env a.tmps):∀{parts:List (Nat×Operand)} {n:Nat} {xs:List O},qj n parts=some xs ->
  aG ι μ (xs.map (·.ev env)) (parts.map fun p=>a.eval p.2)/\(parts.map fun (i,x)=>(i,a.eval x))=((parts.map fun p=>a.eval p.2).zipIdx n).map fun (v,i)=>(i,v)
 |[],n,xs,h=>by cases h;exact ⟨.nil,rfl⟩
 |(i,x)::r,n,xs,h=>by
  unfold qj at h
  split at h<;>try (cases h;done)
  rename_i hi;subst hi
  split at h<;>try (cases h;done)
  rename_i y ys hy hys
  cases h
  obtain ⟨h1,h2⟩:=ku he hys
  exact ⟨.cons (aD he hy) h1,by simp [h2]⟩
theorem J2 {n m:Operand} {x:O} {a:Act} (h:OE n m=some x):cZ n=some x/\a.eval m=a.eval n:=by
 unfold OE at h
 split at h<;>try (cases h;done)
 ·split at h <;> try (cases h; done)
  rename_i e;subst e;cases h
  exact ⟨rfl,rfl⟩
 ·split at h <;> try (cases h; done)
  rename_i e;obtain ⟨e1,e2⟩:=e;subst e1;subst e2;cases h
  exact ⟨rfl,rfl⟩
theorem tr (h : Inv P Y ι μ H w) {aF : Nat} (hn : μ aF = none) {t e : TypeId} {ty : Ty} {k : Nat} {i : TypeInfo} {z : Value} (ht : P.underlying t = some (.slice e)) (he : gE P e = some k) (hi : P.info? e = some i) (hz : i.zero = some z)
  (h0:dH ty z.cells.toList=some []) (hk:ty.sz=k) {kk:IntKind} {m:Int} (hm0:0<=m) (hm:m<(bU:Int)) :
  ∃μ' x w',(Instr.makeSlice t (.int kk m) (.int kk m)).run P w = .ok x w'/\μ.le μ'/\(∀id,id≠aF->μ' id=μ id)/\Inv P Y ι μ' ⟨max H.next (aF+1),(aF,.arr ty (List.replicate m.toNat ty.zero) false)::bH aF H.bl⟩ w' /\
   Rel ι μ' (.sl aF ty 0 m.toNat) x:=by
 obtain ⟨i',z',hi',qk,hby,hzs,hsz⟩:=dJ he
 rw [hi] at hi';cases hi'
 rw [hz] at qk;cases qk
 obtain ⟨us,BM,hcell⟩:=eC (ι:=ι) h0
 simp only [List.append_nil] at BM
 have hw:IntKind.i64.wrap m=m:=by
  apply gG
  unfold bU at hm
  simp [IntKind.min,IntKind.max,IntKind.bits,IntKind.signed]
  omega
 have YN:(i.bytes:Int) * m<=2 ^ 48:=by
  have h1:(i.bytes:Int)<=1024:=by unfold iS at hby;omega
  have h2:m<=1073741824:=by unfold bU at hm;omega
  have:=Int.mul_le_mul h1 h2 hm0 (by omega)
  omega
 have hlt:¬(2 ^ 48<(i.bytes:Int) * m):=by omega
 have dI:=bu.rep (D:=af ι ty) (BM▸hcell) m.toNat
 obtain ⟨μ',m1,m0,m2,m3⟩:=ql (rest:=[]) h hn dI e m.toNat (by simp) (by simp [dI.length (fun _ _=>af.length)])
 have pV:=kr z.cells.toList m.toNat
 refine ⟨μ',.slice (some ⟨w.heap.size,0,none⟩) m.toNat m.toNat,_,?_,m1,m0,m2,by simpa using m3⟩
 have jw:((List.replicate m.toNat z.cells.toList).flatten++[]).toArray=(Array.range (m.toNat * i.size)).map (fun j=>z.cells[j % z.cells.size]!):=by
  apply Array.ext'
  rw [List.append_nil,<-pV]
  simp [hzs]
 rw [jw]
 simp only [Instr.makeSlice,Sem.run_bind,run_underlying ht,Result.andThen_ok,asInt,asIntOf,Sem.run_pure,typeInfo,run_program,hi,hw]
 rw [if_neg (by simp;omega)]
 simp only [run_askRoom,Result.andThen_ok,sizeOf,Sem.run_bind,typeInfo,run_program,hi,Sem.run_pure]
 split
 ·rename_i h0
  have YI:Array.range 0=#[]:=rfl
  simp [h0,newRow,YI]
 ·simp [zeroValue,typeInfo,hi,hz,newRow]
theorem Ai (h : Inv P Y ι μ H w) {aF : Nat} (hn : μ aF = none) {t u e tt : TypeId} {ik : IntKind} {ty : Ty} {k : Nat} {i : TypeInfo} {z : Value} (ht : P.underlying t = some (.slice e)) (hu : P.underlying u = some (.int ik)) (he : gE P e = some k) (hi : P.info? e = some i) (hz : i.zero = some z)
  (h0:dH ty z.cells.toList=some []) (hk:ty.sz=k) {kk:IntKind} {m:Int} (hm0:0<=m) (hm:m<(bU:Int)) (a:Option Addr) :
  ∃μ' x w',(Builtin.append_ #[t,u] tt #[.slice a 0 0,.int kk m]).run P w = .ok x w'/\μ.le μ'/\(∀id,id≠aF->μ' id=μ id)/\Inv P Y ι μ' ⟨max H.next (aF+1),(aF,.arr ty (List.replicate m.toNat ty.zero) false)::bH aF H.bl⟩ w' /\
   Rel ι μ' (.sl aF ty 0 m.toNat) x:=by
 obtain ⟨i',z',hi',qk,hby,hzs,hsz⟩:=dJ he
 rw [hi] at hi';cases hi'
 rw [hz] at qk;cases qk
 obtain ⟨us,BM,hcell⟩:=eC (ι:=ι) h0
 simp only [List.append_nil] at BM
 have hw:IntKind.i64.wrap m=m:=by
  apply gG
  unfold bU at hm
  simp [IntKind.min,IntKind.max,IntKind.bits,IntKind.signed]
  omega
 have YN:m * (i.bytes:Int)<=2 ^ 48:=by
  have h1:(i.bytes:Int)<=1024:=by unfold iS at hby;omega
  have h2:m<=1073741824:=by unfold bU at hm;omega
  have:=Int.mul_le_mul h2 h1 (by omega) (by omega)
  omega
 obtain ⟨n,rfl⟩:∃n:Nat,m=n:=⟨m.toNat,by omega⟩
 have Tm:¬(281474976710656<(n:Int) * (i.bytes:Int)):=by omega
 have hn0:¬((n:Int)<0):=by omega
 simp only [Int.toNat_natCast]
 by_cases Fb:n=0
 ·subst Fb
  refine ⟨μ,.slice a 0 0,w,?_,Mu.le_refl _,fun _ _=>rfl,h.BI hn ty false,.bO _ _ _ a⟩
  have hw0:IntKind.i64.wrap 0=0:=hw
  cases a<;>simp [Builtin.append_,run_underlying ht,run_underlying hu,sizeOf,typeInfo,hi,asInt,asIntOf,hw0,storeCells]
 ·have lY : n < bU := by omega
  have hfit:Builtin.nextslicecap n 0 * i.bytes<=281474976710656:=by
   refine growslice_fits (by omega) (Nat.le_trans (Nat.mul_le_mul (Nat.le_of_lt lY) hby) ?_)
   unfold bU iS;decide
  have h63:¬(9223372036854775807<(n:Int)):=by unfold bU at lY;omega
  have h48:¬(281474976710656<Builtin.nextslicecap n 0 * i.bytes):=by omega
  have hf:(Builtin.firstCells i.size 0 (.slice a 0 0)).run P w.drew = .ok ([]:List Value).toArray w.drew:=by
   cases a with
   |none=>exact run_firstCells_none _ _ _ _ _
   |some a=>exact run_firstCells_some _ _ _ _ _ _ [] (by simp) (fun j u h=>by simp at h)
  have dI:=bu.rep (D:=af ι ty) (BM▸hcell) n
  have hl:=dI.length (fun _ _=>af.length)
  have hge:=grownCap_ge w n 0 e
  obtain ⟨μ', m1, m0, m2, m3⟩ := ql (aF := aF) (rest := (Builtin.zeroCells z.cells (grownCap w n 0 e - n)).toList) h.drew hn dI e (grownCap w n 0 e) (by simpa using hge) (by
   have OR:(Builtin.zeroCells z.cells (grownCap w n 0 e - n)).toList.length=(grownCap w n 0 e - n) * ty.sz:=by
    rw [Array.length_toList,size_zeroCells,hzs,hsz,hk]
   rw [hl,OR,List.length_replicate,<-Nat.add_mul]
   exact Nat.mul_le_mul_right _ (by omega))
  have YO:(Builtin.zeroCells z.cells n).toList=(List.replicate n z.cells.toList).flatten:=by
   rw [<-kr z.cells.toList n]
   simp [Builtin.zeroCells]
  refine ⟨μ',.slice (some ⟨w.heap.size,0,none⟩) n (grownCap w n 0 e),_,?_,m1,m0,m2,by simpa using m3⟩
  have hnew:((List.replicate n z.cells.toList).flatten++(Builtin.zeroCells z.cells (grownCap w n 0 e - n)).toList).toArray=Builtin.zeroCells z.cells n++Builtin.zeroCells z.cells (grownCap w n 0 e - n):=by
   apply Array.ext'
   rw [<-YO];simp
  rw [hnew]
  by_cases hs0:n * i.size=0
  ·have e0:Builtin.zeroCells z.cells n=#[]:=by
    apply Array.eq_empty_of_size_eq_zero
    rw [size_zeroCells,hzs];exact hs0
   simp [Builtin.append_,run_underlying ht,run_underlying hu,sizeOf,typeInfo,zeroValue,hi,hz,asInt,asIntOf,hw,hn0,Tm,Fb,h63,h48,Question.forced,hf,newRow,grownCap,hs0,e0]
  ·simp [Builtin.append_,run_underlying ht,run_underlying hu,sizeOf,typeInfo,zeroValue,hi,hz,asInt,asIntOf,hw,hn0,Tm,Fb,h63,h48,Question.forced,hf,newRow,grownCap,hs0]
theorem ua (h : Inv P Y ι μ H w) {aF : Nat} (hn : μ aF = none) {env : List (Nat × V)} {a : Act} (he : fG ι μ env a.tmps) {o : Oper} {i : I} (hI : E4 P o.op = some i) {ob : List Bool} {v : V} {u : cU}
  (ah:cg (aZ c1 c2 c3 c4 c5 c6 c7) i env H.bl aF=some (ob,v,u)) (cE:lW ob):FL P Y ι μ H w aF (execOp a.eval o) v u i.dU:=by
 obtain ⟨dst,op,ty,pos,after,guard⟩:=o
 simp only at hI
 cases op<;>simp only [E4] at hI<;>try (cases hI;done)
 case panic x=>cases hI;simp [cg,iO] at ah
 case range t x=>cases hI;simp [cg,iO] at ah
 case next t x=>cases hI;simp [cg,iO] at ah
 case entry t=>cases hI;simp [cg,iO] at ah
 case move x =>
  cases hx:cZ x<;>simp [hx] at hI
  subst hI;cases ah
  exact .pure h rfl (aD he hx)
 case assign x =>
  cases hx:cZ x<;>simp [hx] at hI
  subst hI;cases ah
  exact .pure h rfl (aD he hx)
 case pick c x y =>
  split at hI<;>try (cases hI;done)
  rename_i c' x' y' hc hx hy
  cases hI
  have rc:=aD he hc
  have rx:=aD he hx
  have ry:=aD he hy
  simp only [cg] at ah
  split at ah<;>try (cases ah;done)
  ·rename_i hce; rw [hce] at rc; cases ah
   generalize hg:a.eval c=cv at rc
   cases rc
   exact .pure h (by simp [execOp,hg,asBool]) rx
  ·rename_i hce; rw [hce] at rc; cases ah
   generalize hg:a.eval c=cv at rc
   cases rc
   exact .pure h (by simp [execOp,hg,asBool]) ry
  ·rename_i b hce; rw [hce] at rc
   split at ah<;>try (cases ah;done)
   rename_i p q hp hq
   cases ah
   generalize hg:a.eval c=cv at rc
   cases rc
   have ex:=ic hp rx
   have ey:=ic hq ry
   exact .pure h (x:=.bool (if b then p else q)) (by cases b<;>simp [execOp,hg,asBool,ex,ey]) (.bool _)
 case alloc e =>
  split at hI<;>try (cases hI;done)
  rename_i inf xV
  split at hI<;>try (cases hI;done)
  rename_i z hz
  split at hI
  ·rename_i ty m jw
   split at hI<;>try (cases hI;done)
   rename_i YO
   cases hI
   obtain ⟨us,e1,dI⟩:=tZ (ι:=ι) YO
   rw [List.append_nil] at e1
   simp only [cg,iO,List.map_nil] at ah
   cases ah
   obtain ⟨μ',m1,m0,m2,m3⟩:=FU h hn dI e (n:=m) (by simp)
   rw [<-e1] at m2
   exact ⟨ι,μ',_,_,.inl (by simp [execOp,Instr.alloc,zeroValue,typeInfo,xV,hz,newVar,newRow];rfl),aA.le_refl _,m1,m0,by simpa [bD,I.dU,w8.dU,ej] using m2,m3⟩
  cases hcs:th z.cells.toList<;>simp [hcs] at hI
  subst hI;cases ah
  obtain ⟨μ',m1,m0,m2,m3⟩:=tR h hn (j7 hcs) (j8 hcs) e
  exact ⟨ι,μ',_,_,.inl (by simp [execOp,Instr.alloc,zeroValue,typeInfo,xV,hz,newVar,newRow];rfl),aA.le_refl _,m1,m0,by simpa [bD,I.dU,ej] using m2,m3⟩
 case box e x =>
  split at hI
  ·rename_i ty m jw
   cases hx:cZ x<;>simp [hx] at hI
   subst hI
   simp only [cg,iO,List.map_cons,List.map_nil] at ah
   split at ah<;>try (cases ah;done)
   rename_i cs heq
   simp only [List.cons.injEq,and_true] at heq
   split at ah<;>try (cases ah;done)
   rename_i ys u0 hvn
   cases ah
   have rx:=aD he hx
   rw [heq] at rx
   obtain ⟨r1,r2⟩:=rx.cells rfl
   obtain ⟨z1,z2,z3,z4⟩:=qK hvn r1
   obtain ⟨ι',hle,Jy,hF⟩:=gy z1 h
   obtain ⟨μ',m1,m0,m2,m3⟩:=FU Jy hn (z4 ι' hle hF) e z2
   refine ⟨ι',μ',_,_,.inl (by simp [execOp,Instr.box,newVar,newRow];rfl),hle,m1,m0,?_,m3⟩
   rw [de];simpa [bD,I.dU,w8.dU,ej] using m2
  cases hx:cZ x<;>simp [hx] at hI
  subst hI
  simp only [cg] at ah
  split at ah<;>try (cases ah;done)
  rename_i cs hcs
  cases ah
  obtain ⟨r1,r2⟩:=(aD he hx).cells hcs
  obtain ⟨μ',m1,m0,m2,m3⟩:=tR h hn r1 r2 e
  exact ⟨ι,μ',_,_,.inl (by simp [execOp,Instr.box,newVar,newRow];rfl),aA.le_refl _,m1,m0,by simpa [bD,I.dU,ej] using m2,m3⟩
 case build t parts =>
  split at hI<;>try (cases hI;done)
  ·rename_i it fields hit hu
   split at hI<;>try (cases hI;done)
   rename_i z places hz hp
   split at hI<;>try (cases hI;done)
   rename_i zs ps hzs hps
   cases hI
   simp only [cg] at ah
   split at ah<;>try (cases ah;done)
   rename_i cs hcs
   cases ah
   obtain ⟨out,f1,f2,f3⟩:=kf he hps hcs (j7 hzs) (j8 hzs)
   have hb:P.built t (parts.map fun (i,x)=>(i,a.eval x)).toList=some out:=by
    simp only [Program.built,hit,hu,hz,hp]
    rw [Array.toList_map];exact f1
   have hr:=run_build (P:=P) w t (parts.map fun (i,x)=>(i,a.eval x)) out hb
   refine .pure h (x:=.agg out) ?_ (.agg _ _ (by simpa using f2.1) (fun i v x hv hx=>f2.2 i v x hv (by simpa using hx)) f3)
   simp only [execOp,Sem.run_bind,hr];rfl
  ·rename_i it n e hit hu
   split at hI<;>try (cases hI;done)
   rename_i z places hz hp
   split at hI<;>try (cases hI;done)
   rename_i zs ps hzs hps
   cases hI
   simp only [cg] at ah
   split at ah<;>try (cases ah;done)
   rename_i cs hcs
   cases ah
   obtain ⟨out,f1,f2,f3⟩:=kf he hps hcs (j7 hzs) (j8 hzs)
   have hb:P.built t (parts.map fun (i,x)=>(i,a.eval x)).toList=some out:=by
    simp only [Program.built,hit,hu,hz,hp]
    rw [Array.toList_map];exact f1
   have hr:=run_build (P:=P) w t (parts.map fun (i,x)=>(i,a.eval x)) out hb
   refine .pure h (x:=.agg out) ?_ (.agg _ _ (by simpa using f2.1) (fun i v x hv hx=>f2.2 i v x hv (by simpa using hx)) f3)
   simp only [execOp,Sem.run_bind,hr];rfl
 case buildSlice t n parts =>
  split at hI<;>try (cases hI;done)
  rename_i e hu
  split at hI<;>try (cases hI;done)
  rename_i XX k xs E9 ND hin
  split at hI<;>try (cases hI;done)
  rename_i gk
  obtain ⟨hsz,hlen,lY⟩:=gk
  cases hI
  simp only [cg] at ah
  split at ah<;>try (cases ah;done)
  rename_i ys u0 hvl
  cases ah
  obtain ⟨q1,q2⟩:=ku he hin
  obtain ⟨z1,z2,z3,z4⟩:=qL hvl q1
  obtain ⟨ι',hle,Jy,hF⟩:=gy z1 h
  have dI:=z4 ι' hle hF
  obtain ⟨inf,zv,hi,hz,_,hzs,jy⟩:=dJ ND
  have OV:(parts.toList.map fun p=>a.eval p.2).length=n:=by have:=q1.1;simp at this;simp;omega
  obtain ⟨out, f1, f2⟩ := lX (k := k) (parts.toList.map fun p => a.eval p.2) 0
   ((Array.range (n * k)).map fun j=>(if n * k=0 then #[] else zv.cells)[j % (if n * k=0 then #[] else zv.cells).size]!) (fun v hv=>by rw [z3 v hv,hsz]) (by simp [<-OV])
  obtain ⟨μ',m1,m0,m2,m3⟩:=ql (rest:=[]) Jy hn dI e ys.length (Nat.le_refl _) (by rw [dI.length (fun _ _=>af.length)];simp)
  have hn:ys.length=xs.length:=by simpa using z2
  refine ⟨ι',μ',.slice (some ⟨w.heap.size,0,none⟩) n n,(w.alloc (.cells ((List.flatMap (fun (x:Value)=>x.cells.toList) (List.map (fun (p:Nat×Operand)=>a.eval p.2) parts.toList))++[]).toArray e)),.inl ?_,hle,m1,m0,?_,?_⟩
  rotate_left
  ·rw [de];simpa [bD,I.dU,ej] using m2
  ·simpa [hn,hlen] using m3
  ·have hout:((List.flatMap (fun (x:Value)=>x.cells.toList) (List.map (fun (p:Nat×Operand)=>a.eval p.2) parts.toList))++[]).toArray=out:=by
    apply Array.ext';simp [f2]
   rw [hout]
   rw [<-q2,<-jy] at f1
   have hif:(if n * inf.size=0 then #[] else zv.cells)=(if n * k=0 then #[] else zv.cells):=by rw [jy]
   have hmap:(parts.map fun (i,x)=>(i,a.eval x)).toList=parts.toList.map fun (i,x)=>(i,a.eval x):=by simp
   simp only [execOp,Instr.buildSlice,Sem.run_bind,run_underlying hu,Result.andThen_ok,sizeOf,typeInfo,run_program,hi,Sem.run_pure]
   rw [if_neg (by rw [jy];omega)]
   by_cases h0:n * inf.size=0
   ·have FY : n * k = 0 := by rw [← jy]; exact h0
    rw [jy] at f1
    simp [FY] at f1
    simp [FY,jy,f1,newRow]
   ·have FY : ¬ n * k = 0 := by rw [← jy]; exact h0
    rw [jy] at f1
    simp [FY] at f1
    simp [FY,jy,zeroValue,typeInfo,hi,hz,f1,newRow]
 case load t x =>
  split at hI<;>try (cases hI;done)
  rename_i k g x' hk hg hx
  cases hI
  obtain ⟨rfl,y,hy,hr⟩:=qM h hk hg (aD he hx) ah cE
  exact .pure h (by simp only [execOp,Sem.run_bind,hy];rfl) hr
 case store t pa x =>
  split at hI<;>try (cases hI;done)
  rename_i k a' x' hk ha hx
  cases hI
  obtain ⟨ι',w',hy,hle,hinv,rfl⟩:=xJ h hk (aD he hx) (aD he ha) ah cE
  exact ⟨ι',μ,undef,w',.inr ⟨by simp only [execOp,Sem.run_bind,hy];rfl,rfl⟩,hle,Mu.le_refl _,fun _ _=>rfl,hinv,.any _⟩
 case binOp op t x y yt =>
  unfold BA at hI
  split at hI
  ·split at hI <;> try (cases hI; done)
   rename_i e x' ng hu hx hop
   cases hI
   simp only [cg,List.map_cons,List.map_nil] at ah
   obtain ⟨rfl,z,hz,hr⟩:=xQ (w:=w) hu hop (xo:=x) (yo:=.const (.slice none 0 0)) (aD he hx) ah
   exact .pure h (by simp only [execOp,Act.eval,Sem.run_bind] at hz ⊢;rw [hz];rfl) hr
  ·split at hI <;> try (cases hI; done)
   rename_i k e x' ng hu hx hop
   cases hI
   simp only [cg,List.map_cons,List.map_nil] at ah
   obtain ⟨rfl,z,hz,hr⟩:=vp (w:=w) hu hop (xo:=x) (yo:=.const (.map none)) (aD he hx) ah
   exact .pure h (by simp only [execOp,Act.eval,Sem.run_bind] at hz ⊢;rw [hz];rfl) hr
  ·split at hI <;> try (cases hI; done)
   rename_i e x' ng hu hx hop
   cases hI
   simp only [cg,List.map_cons,List.map_nil] at ah
   obtain ⟨rfl,z,hz,hr⟩:=vq (w:=w) hu hop (xo:=x) (yo:=.const (.pointer none)) (aD he hx) ah
   exact .pure h (by simp only [execOp,Act.eval,Sem.run_bind] at hz ⊢;rw [hz];rfl) hr
  split at hI<;>try (cases hI;done)
  rename_i x' y' hx hy
  have rx:=aD he hx
  have ry:=aD he hy
  split at hI
  ·rename_i ks hks
   split at hI<;>try (cases hI;done)
   rename_i ng hng
   cases hI
   simp only [cg] at ah
   split at ah<;>try (cases ah;done)
   rename_i as bs cT YP
   rw [cT] at rx
   rw [YP] at ry
   split at ah<;>try (cases ah;done)
   rename_i c hc
   cases ah
   generalize iG:a.eval x=xv at rx
   generalize XY:a.eval y=yv at ry
   cases rx with
   |agg _ xa p1 p2 p3 =>
   cases ry with
   |agg _ ya q1 q2 q3 =>
   have hrun:P.eqGuardType P.depth t=false/\(Op.equal t (.agg xa) (.agg ya)).run P w = .ok c w:=by
    unfold structEq at hks
    split at hks<;>try (cases hks;done)
    ·rename_i fs hu
     split at hks<;>try (cases hks;done)
     rename_i gk
     have hfo:P.fieldsOf t=fs:=by simp [Program.fieldsOf,hu]
     refine ⟨gk.1,?_⟩
     have e1:=run_equalIn_struct (P:=P) w 9999 t xa ya (by rw [hfo];exact hu) gk.2
     rw [hfo] at e1
     have e2 := dW (d := 9997) (w := w) (P := P) (ι := ι) (μ := μ) hks (xs := xa) (ys := ya) ⟨by simpa using p1, fun i v x hv hx => p2 i v x hv (by simpa using hx)⟩
      ⟨by simpa using q1,fun i v x hv hx=>q2 i v x hv (by simpa using hx)⟩ hc
     exact e1.trans e2
    ·split at hks <;> try (cases hks; done)
     rename_i gk
     exact ⟨gk, (Nz (d := 9998) (w := w) (P := P) (ι := ι) (μ := μ) hks (xs := xa) (ys := ya) ⟨by simpa using p1, fun i v x hv hx => p2 i v x hv (by simpa using hx)⟩
      ⟨by simpa using q1,fun i v x hv hx=>q2 i v x hv (by simpa using hx)⟩ hc).1⟩
   obtain ⟨hg0,hrun⟩:=hrun
   have FZ:∀op',(eqGuard op' t x y (.agg xa) (.agg ya)).run P w = .ok () w:=fun op'=>by
    cases op'<;>first|rfl|simp [eqGuard,hg0]
   cases op<;>simp [gZ] at hng<;>subst hng
   ·exact .pure h (x:=.bool c) (by simp only [execOp,Sem.run_bind,iG,XY,FZ,Result.andThen_ok,binOp,hrun];rfl) (.bool _)
   ·exact .pure h (x:=.bool (!c)) (by simp only [execOp,Sem.run_bind,iG,XY,FZ,Result.andThen_ok,binOp,hrun];rfl) (.bool _)
  ·split at hI <;> try (cases hI; done)
   ·rename_i hu
    cases hb:gZ op<;>simp [hb] at hI
    subst hI
    simp only [cg] at ah
    split at ah<;>try (cases ah;done)
    rename_i p q hp hq
    cases ah
    have ex:=ic hp rx
    have ey:=ic hq ry
    have hg:=bY (P:=P) (w:=w) op t x y (a:=.bool p) (b:=.bool q) (by simp) (by simp)
    have heq:(Op.equal t (.bool p) (.bool q)).run P w = .ok (p==q) w:=run_equalIn_bool' w 9999 t p q hu
    cases op<;>simp [gZ] at hb<;>subst hb
    ·exact .pure h (x:=.bool (p==q)) (by simp only [execOp,Sem.run_bind,ex,ey,hg,Result.andThen_ok,binOp,heq];rfl) (.bool _)
    ·exact .pure h (x:=.bool (!(p==q))) (by simp only [execOp,Sem.run_bind,ex,ey,hg,Result.andThen_ok,binOp,heq];rfl) (.bool _)
   ·cases hb : qE op <;> simp [hb] at hI
    subst hI
    obtain ⟨rfl,z,hz,hr⟩:=tT (w:=w) hb (t:=t) (xo:=x) (yo:=y) rx ry rfl rfl ah cE
    exact .pure h (by simp only [execOp,Sem.run_bind] at hz ⊢;rw [hz];rfl) hr
   ·cases hb : qE op <;> simp [hb] at hI
    subst hI
    obtain ⟨rfl,z,hz,hr⟩:=tT (w:=w) hb (t:=t) (xo:=x) (yo:=y) rx ry rfl rfl ah cE
    exact .pure h (by simp only [execOp,Sem.run_bind] at hz ⊢;rw [hz];rfl) hr
 case unOp op t x =>
  cases op<;>simp only [E4] at hI<;>try (cases hI;done)
  all_goals
   cases hx:cZ x<;>simp [hx] at hI
   subst hI
   have rx:=aD he hx
   simp only [cg] at ah
   generalize hg:a.eval x=xv at rx
  ·split at ah <;> try (cases ah; done)
   rename_i k n cT
   rw [cT] at rx
   split at ah
   ·cases ah
    cases rx
    have hw:=gG (cE _ (List.mem_singleton.2 rfl))
    simp only [Int.zero_sub] at hw
    exact .pure h (x:=.int k (0 - n)) (by simp [execOp,hg,Op.unary,Op.intArith,hw]) (.int _ _)
   ·cases ah
    cases rx
    exact .pure h (x:=.int k (k.wrap (0 - n))) (by simp [execOp,hg,Op.unary,Op.intArith]) (.int _ _)
  ·split at ah <;> try (cases ah; done)
   ·rename_i b cT
    rw [cT] at rx
    cases ah
    cases rx
    exact .pure h (x:=.bool (!b)) (by simp [execOp,hg,Op.unary]) (.tf _)
   ·rename_i b cT
    rw [cT] at rx
    cases ah
    cases rx
    exact .pure h (x:=.bool (!b)) (by simp [execOp,hg,Op.unary]) (.bool _)
 case convert s d x =>
  split at hI<;>try (cases hI;done)
  rotate_left
  rotate_left
  ·rename_i e hs hd
   split at hI<;>try (cases hI;done)
   rename_i XZ
   cases hx:cZ x<;>simp [hx] at hI
   subst hI
   have rx:=aD he hx
   simp only [cg,iO,List.map_cons,List.map_nil] at ah
   split at ah<;>try (cases ah;done)
   rename_i ys hys
   cases ah
   exact .pure h (x:=.string (xk ys)) (by simp only [execOp,Sem.run_bind,Ah h hs hd XZ hys rx];rfl) (.str _)
  rotate_left
  ·rename_i e hs hd
   split at hI<;>try (cases hI;done)
   rename_i XZ
   cases hx:cZ x<;>simp [hx] at hI
   subst hI
   have rx:=aD he hx
   simp only [cg,iO,List.map_cons,List.map_nil] at ah
   split at ah<;>try (cases ah;done)
   rename_i s0 heq
   simp only [List.cons.injEq,and_true] at heq
   rw [heq] at rx
   cases ah
   generalize hg:a.eval x=xv at rx
   cases rx
   obtain ⟨ι',y,w',r1,r2,r3,r4⟩:=xS h hs hd XZ (s:=s0)
   exact ⟨ι',μ,y,w',.inl (by simp only [execOp,hg,Sem.run_bind,r1];rfl),r2,Mu.le_refl _,fun _ _=>rfl,r3,r4⟩
  rename_i k0 k hs hd
  cases hx:cZ x<;>simp [hx] at hI
  subst hI
  have rx:=aD he hx
  simp only [cg] at ah
  generalize hg:a.eval x=xv at rx
  split at ah<;>try (cases ah;done)
  rename_i k1 n cT
  rw [cT] at rx
  cases ah
  cases rx
  have hw:=gG (cE _ (List.mem_singleton.2 rfl))
  exact .pure h (x:=.int k n) (by simp [execOp,hg,convert,run_underlying hs,run_underlying hd,Conv.intToInt,hw]) (.int _ _)
 case makeFunc f fs cs =>
  cases f<;>simp only [E4] at hI<;>try (cases hI;done)
  rename_i fid
  split at hI<;>try (cases hI;done)
  rename_i fs' cs' h1 h2
  cases hI;cases ah
  have r1:=fQ he h1
  have r2:=fQ he h2
  refine .pure h (x:=.func (.func fid) (fs.map a.eval) (cs.map a.eval)) (by simp [execOp,Instr.makeFunc]) ?_
  exact .fn _ _ _ _ _ (by simpa using r1.1) (fun i v x hv hx=>r1.2 i v x hv (by simpa using hx)) (by simpa using r2.1) (fun i v x hv hx=>r2.2 i v x hv (by simpa using hx))
 case makeSlice t n m =>
  split at hI<;>try (cases hI;done)
  rename_i xn J3
  obtain ⟨hxn,hmn⟩:=J2 (a:=a) J3
  split at hI<;>try (cases hI;done)
  rename_i e hu
  split at hI<;>try (cases hI;done)
  rename_i XX k inf E9 ND xV
  split at hI<;>try (cases hI;done)
  rename_i z hz
  split at hI<;>try (cases hI;done)
  rename_i Fb
  split at hI<;>try (cases hI;done)
  rename_i gk
  cases hI
  simp only [cg] at ah
  split at ah<;>try (cases ah;done)
  rename_i kk mm cT
  cases ah
  have rx:=aD he hxn
  rw [cT] at rx
  have hb:=cE _ (List.mem_singleton.2 rfl)
  simp only [decide_eq_true_eq] at hb
  generalize hg:a.eval n=xv at rx
  cases rx
  obtain ⟨μ',x,w',r1,r2,r0,r3,r4⟩:=tr h hn hu ND xV hz Fb gk.1 (kk:=kk) hb.1 hb.2
  refine ⟨ι,μ',x,w',.inl ?_,aA.le_refl _,r2,r0,by simpa [bD,I.dU,ej] using r3,r4⟩
  simp only [execOp,hmn,hg,Sem.run_bind,r1];rfl
 case slice t x lo hi mx =>
  split at hI<;>try (cases hI;done)
  ·rename_i e hu
   split at hI<;>try (cases hI;done)
   rename_i k x' lo' hi' JZ hk hx h1 h2 h3
   cases hI
   obtain ⟨rfl,y,hy,hr⟩:=xM (w:=w) he hu hk (aD he hx) h1 h2 h3 ah cE
   exact .pure h (by simp only [execOp,Sem.run_bind,hy];rfl) hr
  ·rename_i n e hu
   split at hI<;>try (cases hI;done)
   rename_i k hk
   cases hx:cZ x with
   |none=>simp [hx] at hI
   |some x' =>
    simp [hx] at hI;subst hI
    simp only [cg,List.map_cons,List.map_nil] at ah
    obtain ⟨rfl,y,hy,hr⟩:=Af (w:=w) h hu hk (aD he hx) ah
    exact .pure h (by simp only [execOp,Sem.run_bind,Option.map_none,hy];rfl) hr
 case fieldAddr s x f =>
  split at hI<;>try (cases hI;done)
  rename_i fd n YQ
  split at hI<;>try (cases hI;done)
  rename_i k x' hk hx
  cases hI
  obtain ⟨fs,hu,hf⟩:=lF YQ
  obtain ⟨rfl,b,o,hp,hr⟩:=tU (aD he hx) ah cE
  obtain ⟨_,_,_,hsz⟩:=gA hk
  refine .pure h ?_ hr
  simp [execOp,Instr.fieldAt,run_underlying hu,hf,hp,Instr.sureAddr,fieldPlace,hsz,Addr.add_mid]
 case field s x f =>
  split at hI<;>try (cases hI;done)
  rename_i fd n YQ
  split at hI<;>try (cases hI;done)
  rename_i k g x' hk hg hx
  cases hI
  obtain ⟨fs,hu,hf⟩:=lF YQ
  have rx:=aD he hx
  simp only [cg] at ah
  split at ah<;>try (cases ah;done)
  rename_i cs cT
  rw [cT] at rx
  split at ah<;>try (cases ah;done)
  rename_i vs qN
  split at ah<;>try (cases ah;done)
  rename_i v' Db
  cases ah
  generalize iG:a.eval x=xv at rx
  cases rx with
  |agg _ xa p1 p2 p3 =>
   have hR:aG ι μ cs xa.toList:=⟨by simpa using p1,fun i v x hv hx=>p2 i v x hv (by simpa using hx)⟩
   obtain ⟨r1,r2,r3⟩:=hR.mQ qN
   obtain ⟨y,hy,hv⟩:=n5 Db r1 (fun u hu=>p3 u (List.mem_of_mem_drop (List.mem_of_mem_take hu)))
   obtain ⟨_,_,_,hsz⟩:=gA hk
   have gH:=FX hg
   refine .pure h (x:=y) ?_ hv
   cases g with
   |true =>
    cases hy
    have:(List.take k (List.drop fd.offset xa.toList)).toArray=xa.extract fd.offset (fd.offset+k):=by
     apply Array.ext';simp [List.extract_eq_take_drop]
    simp [execOp,iG,Instr.field,run_underlying hu,hf,asAgg,part,gH,hsz,this]
   |false =>
    have hl:=xU hy
    have hc:xa[fd.offset]?=some y:=by
     have h0:(List.take k (List.drop fd.offset xa.toList))[0]?=some y:=by rw [hl];rfl
     rw [List.getElem?_take] at h0
     split at h0
     ·simpa using h0
     ·cases h0
    simp [execOp,iG,Instr.field,run_underlying hu,hf,asAgg,part,gH,hc]
 case indexAddr t x i =>
  split at hI<;>try (cases hI;done)
  ·rename_i e x' i' hu hx hi
   cases hk:cm P e<;>simp [hk] at hI
   subst hI
   rename_i k
   obtain ⟨rfl,kk,m,b,o,len,cap,e1,e2,h0,h1,hr⟩:=De (aD he hx) (aD he hi) ah cE
   obtain ⟨_,_,_,hsz⟩:=gA hk
   refine .pure h ?_ hr
   simp [execOp,Instr.indexAt,e1,e2,asIntOf,run_underlying hu,h0,h1,hsz,Addr.add_mid]
  ·rename_i n e x' kk m hu hx hi
   split at hI<;>try (cases hI;done)
   rename_i k hk
   split at hI<;>try (cases hI;done)
   rename_i hmn
   cases hI
   obtain ⟨rfl,b,o,hp,hr⟩:=tU (aD he hx) ah cE
   obtain ⟨_,_,_,hsz⟩:=gA hk
   have ri:=aD he hi
   simp only [O.ev] at ri
   generalize Di:a.eval i=iv at ri
   cases ri
   have hm':(m:Int)<n:=by omega
   refine .pure h ?_ hr
   simp [execOp,Instr.indexAt,Di,hp,asIntOf,run_underlying hu,hsz,Addr.add_mid,Instr.sureAddr,hmn]
  ·rename_i n e x' i' _ hu hx hi
   cases hk:cm P e<;>simp [hk] at hI
   subst hI
   rename_i k
   obtain ⟨_,_,_,hsz⟩:=gA hk
   have rx:=aD he hx
   have ri:=aD he hi
   simp only [cg] at ah
   split at ah<;>try (cases ah;done)
   ·rename_i id t m cT
    rw [cT] at rx
    split at ah<;>try (cases ah;done)
    rename_i kk j Df
    rw [Df] at ri
    split at ah<;>try (cases ah;done)
    rename_i hc
    obtain ⟨Dc,Sw⟩:=hc
    cases ah
    have hb:=cE _ (List.mem_singleton.2 rfl)
    simp only [decide_eq_true_eq] at hb
    generalize Di:a.eval i=iv at ri
    cases ri
    generalize iG:a.eval x=xv at rx
    cases rx with
    |pa _ _ _ L hL hm =>
     have h1:j<(n:Int):=hb.2
     have hr:=Rel.ep (ι:=ι) id t j.toNat [] L hL
     have h0:t.bx []=0:=by cases t<;>rfl
     rw [h0,Nat.add_zero,Dc] at hr
     refine .pure h (x:=.pointer (some ⟨L.b,L.ba+j.toNat * k,none⟩)) ?_ hr
     simp [execOp,Instr.indexAt,Di,iG,asIntOf,run_underlying hu,hsz,Addr.add_mid,Instr.sureAddr,hb.1,h1]
   ·rename_i t xs cT
    rw [cT] at rx
    split at ah<;>try (cases ah;done)
    rename_i kk j Df
    rw [Df] at ri
    split at ah<;>try (cases ah;done)
    rename_i Dc
    cases ah
    have hb:=cE _ (List.mem_cons_self)
    have iF:=cE _ (List.mem_cons_of_mem _ (List.mem_cons_self))
    simp only [decide_eq_true_eq] at hb iF
    generalize Di:a.eval i=iv at ri
    cases ri
    generalize iG:a.eval x=xv at rx
    cases rx with
    |iN _ _ b o us h1 h2 =>
     have h3:j<(n:Int):=hb.2
     have h4:j<(xs.length:Int):=iF.2
     have zZ:xs[j.toNat]?=some (xs.getD j.toNat t.zero):=by simp [List.getD,show j.toNat<xs.length by omega]
     have hcell:=h2.at (fun _ _=>af.length) zZ
     refine .pure h (x:=.pointer (some ⟨b,o+j.toNat * k,none⟩)) ?_ (by rw [<-Dc];exact .ip t _ b _ _ (h1.sub (j.toNat * t.sz) t.sz) hcell)
     simp [execOp,Instr.indexAt,Di,iG,asIntOf,run_underlying hu,hsz,Addr.add_mid,Instr.sureAddr,hb.1,h3]
   ·rename_i id off cT
    rw [cT] at rx
    split at ah<;>try (cases ah;done)
    rename_i kk j Df
    rw [Df] at ri
    cases ah
    have hb:=cE _ (List.mem_singleton.2 rfl)
    simp only [decide_eq_true_eq] at hb
    have jv:j<(n:Int):=hb.2
    generalize Di:a.eval i=iv at ri
    cases ri
    generalize iG:a.eval x=xv at rx
    cases rx with
    |ptr _ _ L hL =>
     have hr:=Rel.sp (ι:=ι) id off [(k,n,j)] L hL (fun x hx=>by
      rcases List.mem_singleton.1 hx with rfl
      exact ⟨hb.1,jv⟩)
     simp only [iR,Nat.add_zero,<-Nat.add_assoc] at hr
     refine .pure h (x:=.pointer (some ⟨L.b,L.ba+off+j.toNat * k,none⟩)) ?_ hr
     simp [execOp,Instr.indexAt,Di,iG,asIntOf,run_underlying hu,hsz,Addr.add_mid,Instr.sureAddr,hb.1,jv]
   ·rename_i id off l cT
    rw [cT] at rx
    split at ah<;>try (cases ah;done)
    rename_i kk j Df
    rw [Df] at ri
    cases ah
    have hb:=cE _ (List.mem_singleton.2 rfl)
    simp only [decide_eq_true_eq] at hb
    have jv:j<(n:Int):=hb.2
    generalize Di:a.eval i=iv at ri
    cases ri
    generalize iG:a.eval x=xv at rx
    cases rx with
    |sp _ _ _ L hL Tf =>
     have hr:=Rel.sp (ι:=ι) id off ((k,n,j)::l) L hL (fun x hx=>by
      rcases List.mem_cons.1 hx with rfl|hx
      ·exact ⟨hb.1,jv⟩
      ·exact Tf x hx)
     have e:L.ba+(off+iR ((k,n,j)::l))=L.ba+(off+iR l)+j.toNat * k:=by simp only [iR];omega
     rw [e] at hr
     refine .pure h (x:=.pointer (some ⟨L.b,L.ba+(off+iR l)+j.toNat * k,none⟩)) ?_ hr
     simp [execOp,Instr.indexAt,Di,iG,asIntOf,run_underlying hu,hsz,Addr.add_mid,Instr.sureAddr,hb.1,jv]
   ·rename_i cs cT
    rw [cT] at rx
    split at ah<;>try (cases ah;done)
    rename_i kk m Df
    rw [Df] at ri
    split at ah<;>try (cases ah;done)
    rename_i hmn
    generalize Di:a.eval i=iv at ri
    cases ri
    have hm':(m:Int)<n:=by omega
    split at ah<;>try (cases ah;done)
    rename_i hle
    cases ah
    generalize iG:a.eval x=xv at rx
    cases rx with
    |bR _ b o g h1 h2 h3 =>
     refine .pure h (x:=.pointer (some ⟨b,o+m * k,none⟩)) ?_ (.bR _ b (o+m * k) (fun i=>g (m * k+i)) (fun i hi=>?_) (fun i v hv=>?_) (fun i=>h3 _))
     ·simp [execOp,Instr.indexAt,Di,iG,asIntOf,run_underlying hu,hsz,Addr.add_mid,Instr.sureAddr,hmn]
     ·rw [Nat.add_assoc];exact h1 _ (by simp at hi;omega)
     ·exact h2 _ v (by simpa using hv)
  ·unfold vf at hI
   split at hI<;>try (cases hI;done)
   rename_i g _ _ _
   split at hI<;>try (cases hI;done)
   rename_i n e jL i' hu hg hi
   split at hI<;>try (cases hI;done)
   rename_i XZ hk
   split at hI<;>try (cases hI;done)
   rename_i hlen
   cases hI
   obtain ⟨_,_,_,hsz⟩:=gA hk
   have rx:=h.jL.rel μ hg
   have ri:=aD he hi
   simp only [cg,O.ev] at ah
   split at ah<;>try (cases ah;done)
   rename_i kk j Df
   have YR:i'.ev env=V.int kk j:=Df
   rw [YR] at ri
   split at ah<;>try (cases ah;done)
   cases ah
   have hb:=cE _ (List.mem_cons_self)
   have iF:=cE _ (List.mem_cons_of_mem _ (List.mem_cons_self))
   simp only [decide_eq_true_eq] at hb iF
   generalize Di:a.eval i=iv at ri
   cases ri
   cases rx with
   |iN _ _ b o us h1 h2 =>
    have h3:j<(n:Int):=hb.2
    have zZ:jL[j.toNat]?=some (jL.getD j.toNat (Ty.zero (.int .u8))):=by simp [List.getD,show j.toNat<jL.length by omega]
    have hcell:=h2.at (fun _ _=>af.length) zZ
    refine .pure h (x:=.pointer (some ⟨g,0+j.toNat * 1,none⟩)) ?_ (.ip (.int .u8) _ g _ _ (h1.sub (j.toNat * 1) 1) hcell)
    have iG:a.eval (.global g) = .pointer (some ⟨g,0,none⟩):=rfl
    simp [execOp,Instr.indexAt,Di,iG,asIntOf,run_underlying hu,hsz,Addr.add_mid,Instr.sureAddr,hb.1,h3]
 case index t x i =>
  split at hI<;>try (cases hI;done)
  ·rename_i n e x' i' hu hx hi
   split at hI<;>try (cases hI;done)
   rename_i k g hk hg
   cases hI
   simp only [cg,List.map_cons,List.map_nil] at ah
   obtain ⟨rfl,y,hy,hr⟩:=xN (w:=w) hu hk hg (aD he hx) (aD he hi) ah cE
   exact .pure h (by simp only [execOp,Sem.run_bind,hy];rfl) hr
  ·rename_i x' i' hu hx hi
   cases hI
   simp only [cg,List.map_cons,List.map_nil] at ah
   obtain ⟨rfl,y,hy,hr⟩:=xP (w:=w) hu (aD he hx) (aD he hi) ah cE
   exact .pure h (by simp only [execOp,Sem.run_bind,hy];rfl) hr
 case makeMap t r =>
  cases r<;>simp only [E4] at hI<;>try (cases hI;done)
  split at hI<;>try (cases hI;done)
  rename_i kt kg vt vg hm
  cases hI
  simp only [cg,iO,List.map_nil] at ah
  cases ah
  obtain ⟨μ',x,w',r1,r2,r0,r3,r4⟩:=xR h hn t kt vt kg vg
  exact ⟨ι,μ',x,w',.inl (by simp only [execOp,Option.map_none,Sem.run_bind,r1];rfl),aA.le_refl _,r2,r0,by simpa [bD,I.dU,w8.dU,ej] using r3,r4⟩
 case lookup t x i ok =>
  split at hI<;>try (cases hI;done)
  rename_i kt kg vt vg x' i' hm hx hi
  cases hI
  simp only [cg,List.map_cons,List.map_nil] at ah
  obtain ⟨rfl,y,hy,hr⟩:=Ad h hm (aD he hx) (aD he hi) ah
  exact .pure h (by simp only [execOp,Sem.run_bind,hy];rfl) hr
 case mapUpdate t m k x =>
  split at hI<;>try (cases hI;done)
  rename_i kt kg vt vg m' k' x' hm hm' hk hx
  cases hI
  simp only [cg,List.map_cons,List.map_nil] at ah
  obtain ⟨w',hy,hinv,rfl⟩:=Ae h hm (aD he hm') (aD he hk) (aD he hx) ah
  exact ⟨ι,μ,undef,w',.inr ⟨by simp only [execOp,Sem.run_bind,hy];rfl,rfl⟩,aA.le_refl _,Mu.le_refl _,fun _ _=>rfl,hinv,.any _⟩
 case nilCheck x =>
  cases hx:cZ x<;>simp [hx] at hI
  subst hI
  have rx:=aD he hx
  simp only [cg,iO,List.map_cons,List.map_nil] at ah
  split at ah<;>try (cases ah;done)
  ·rename_i t v heq
   cases ah
   simp only [List.cons.injEq,and_true] at heq
   rw [heq] at rx
   generalize iG:a.eval x=xv at rx
   cases rx with
   |cn _ _ y hr=>exact .pure h (x:=.iface t y) (by simp [execOp,iG]) (.cn t _ _ hr)
  ·rename_i id o heq
   cases ah
   simp only [List.cons.injEq,and_true] at heq
   rw [heq] at rx
   generalize iG:a.eval x=xv at rx
   cases rx with
   |ptr _ _ L hL=>exact .pure h (by simp [execOp,iG]) (.ptr id o L hL)
  ·rename_i cs heq
   cases ah
   simp only [List.cons.injEq,and_true] at heq
   rw [heq] at rx
   generalize iG:a.eval x=xv at rx
   cases rx with
   |bR _ b o g h1 h2 h3=>exact .pure h (by simp [execOp,iG]) (.bR _ b o g h1 h2 h3)
 case makeInterface t x =>
  split at hI<;>try (cases hI;done)
  rename_i d hni hu
  cases hx:cZ x<;>simp [hx] at hI
  subst hI
  simp only [cg,iO,List.map_cons,List.map_nil] at ah
  cases ah
  refine .pure h (x:=.iface t (a.eval x)) ?_ (.cn t _ _ (aD he hx))
  have:(Instr.makeInterface t (a.eval x)).run P w = .ok (.iface t (a.eval x)) w:=by
   unfold Instr.makeInterface
   rw [Sem.run_bind,run_underlying hu w]
   cases d<;>first|rfl|exact absurd rfl (hni _)
  simp only [execOp,Sem.run_bind,this];rfl
 case extract x k =>
  cases hx:cZ x<;>simp [hx] at hI
  subst hI
  have rx:=aD he hx
  simp only [cg] at ah
  split at ah<;>try (cases ah;done)
  rename_i vs cT
  rw [cT] at rx
  split at ah<;>try (cases ah;done)
  rename_i v' hv
  cases ah
  generalize iG:a.eval x=xv at rx
  cases rx with
  |cq _ xa p1 p2 =>
   have hk:=(List.getElem?_eq_some_iff.1 hv).1
   have hxk:xa[k]?=some (xa[k]'(by omega)):=by simp
   exact .pure h (x:=xa[k]'(by omega)) (by simp only [execOp,iG,Instr.extract,hxk];rfl) (p2 k _ _ hv hxk)
 case call c =>
  obtain ⟨callee,args,argTypes⟩:=c
  cases callee<;>simp only [E4] at hI<;>try (cases hI;done)
  rename_i b
  obtain ⟨args,rfl⟩:∃l:List Operand,l.toArray=args:=⟨args.toList,by simp⟩
  obtain ⟨argTypes,rfl⟩:∃l:List TypeId,l.toArray=argTypes:=⟨argTypes.toList,by simp⟩
  simp only at hI
  unfold XR at hI
  split at hI<;>try (cases hI;done)
  ·-- len
   rename_i t x
   split at hI<;>try (cases hI;done)
   ·rename_i hu
    cases hx:cZ x<;>simp [hx] at hI
    subst hI
    have rx:=aD he hx
    simp only [cg] at ah
    generalize iG:a.eval x=xv at rx
    split at ah<;>try (cases ah;done)
    rename_i s cT
    rw [cT] at rx
    cases ah
    cases rx
    exact .pure h (x:=.int .i64 s.size) (by simp [execOp,resolve,invoke,builtin,Builtin.len_,iG,run_underlying hu,goInt]) (.int _ _)
   ·rename_i e hu
    cases hx:cZ x<;>simp [hx] at hI
    subst hI
    have rx:=aD he hx
    simp only [cg] at ah
    generalize iG:a.eval x=xv at rx
    split at ah<;>try (cases ah;done)
    ·rename_i _ _ _ m cT
     rw [cT] at rx
     cases ah
     cases rx with
     |sl=>exact .pure h (x:=.int .i64 m) (by simp [execOp,resolve,invoke,builtin,Builtin.len_,iG,run_underlying hu,goInt]) (.int _ _)
     |bO=>exact .pure h (x:=.int .i64 (0:Nat)) (by simp [execOp,resolve,invoke,builtin,Builtin.len_,iG,run_underlying hu,goInt]) (.int _ _)
    ·rename_i t' xs cT
     rw [cT] at rx
     cases ah
     cases rx with
     |dS _ _ _ hd =>
      obtain ⟨b,cap,e',_⟩:=hd
      cases e'
      exact .pure h (x:=.int .i64 xs.length) (by simp [execOp,resolve,invoke,builtin,Builtin.len_,iG,run_underlying hu,goInt]) (.int _ _)
    ·rename_i cT
     rw [cT] at rx
     cases ah
     cases rx
     exact .pure h (x:=.int .i64 0) (by simp [execOp,resolve,invoke,builtin,Builtin.len_,iG,run_underlying hu,goInt]) (.int _ _)
   ·rename_i n e hu
    cases hI;cases ah
    exact .pure h (x:=.int .i64 n) (by simp [execOp,resolve,invoke,builtin,Builtin.len_,run_underlying hu,goInt]) (.int _ _)
   ·rename_i k0 e0 hu
    cases hx:cZ x<;>simp [hx] at hI
    subst hI
    simp only [cg,List.map_cons,List.map_nil] at ah
    obtain ⟨rfl,y,hy,hr⟩:=Ag (ty:=ty) h hu (aD he hx) ah
    exact .pure h (by simp [execOp,resolve,invoke,builtin,hy]) hr
   ·rename_i arr hu
    split at hI<;>try (cases hI;done)
    rename_i n e YJ
    cases hI;cases ah
    exact .pure h (x:=.int .i64 n) (by simp [execOp,resolve,invoke,builtin,Builtin.len_,run_underlying hu,run_underlying YJ,goInt]) (.int _ _)
  ·-- append
   rename_i t u' x y
   split at hI<;>try (cases hI;done)
   ·rename_i e e' hu YS
    split at hI<;>try (cases hI;done)
    rename_i k x' y' hk hx hy
    cases hI
    obtain ⟨μ',z,w',r1,r2,r0,r3,r4⟩:=vo (ty:=ty) h hn hu YS hk (aD he hx) (aD he hy) ah cE
    exact ⟨ι,μ',z,w',.inl (by simp [execOp,resolve,invoke,builtin,r1]),aA.le_refl _,r2,r0,by simpa [I.dU,ej] using r3,r4⟩
   ·rename_i e ik hu YS
    split at hI<;>try (cases hI;done)
    rename_i XX k inf E9 ND xV
    split at hI<;>try (cases hI;done)
    rename_i z hz
    split at hI<;>try (cases hI;done)
    rename_i Fb
    split at hI<;>try (cases hI;done)
    rename_i x' y' hx hy
    split at hI<;>try (cases hI;done)
    rename_i gk
    cases hI
    simp only [cg,iO,List.map_cons,List.map_nil] at ah
    split at ah<;>try (cases ah;done)
    rename_i kk m heq
    simp only [List.cons.injEq,and_true] at heq
    obtain ⟨cT,YP⟩:=heq
    cases ah
    have rx:=aD he hx
    have ry:=aD he hy
    rw [cT] at rx
    rw [YP] at ry
    have hb:=cE _ (List.mem_singleton.2 rfl)
    simp only [decide_eq_true_eq] at hb
    generalize iG:a.eval x=xv at rx
    generalize XY:a.eval y=yv at ry
    cases rx with
    |bK ad =>
     cases ry
     obtain ⟨μ',v,w',r1,r2,r0,r3,r4⟩:=Ai (tt:=ty) h hn hu YS ND xV hz Fb gk.1 (kk:=kk) hb.1 hb.2 ad
     exact ⟨ι,μ',v,w',.inl (by simp [execOp,resolve,invoke,builtin,iG,XY,r1]),aA.le_refl _,r2,r0,by simpa [bD,I.dU,w8.dU,ej] using r3,r4⟩
  ·-- cap
   rename_i t x
   split at hI<;>try (cases hI;done)
   rename_i e hu
   cases hx:cZ x<;>simp [hx] at hI
   subst hI
   simp only [cg,iO,List.map_cons,List.map_nil] at ah
   split at ah<;>try (cases ah;done)
   rename_i cT
   simp only [List.cons.injEq,and_true] at cT
   cases ah
   have rx:=aD he hx
   rw [cT] at rx
   generalize iG:a.eval x=xv at rx
   cases rx with
   |bK ad=>exact .pure h (x:=.int .i64 0) (by simp [execOp,resolve,invoke,builtin,Builtin.cap_,iG,run_underlying hu,goInt]) (.int _ _)
  ·-- clear
   rename_i t x
   split at hI<;>try (cases hI;done)
   rename_i e hu
   split at hI<;>try (cases hI;done)
   rename_i XX k inf E9 ND xV
   split at hI<;>try (cases hI;done)
   rename_i z hz
   split at hI<;>try (cases hI;done)
   rename_i Fb
   split at hI<;>try (cases hI;done)
   rename_i gk
   cases hx:cZ x<;>simp [hx] at hI
   subst hI
   simp only [cg,List.map_cons,List.map_nil] at ah
   obtain ⟨w',r1,r2,r3⟩:=xT (k:=k) h hu xV hz Fb (tt:=ty) (aD he hx) ah
   exact ⟨ι,μ,_,w',.inl (by simp [execOp,resolve,invoke,builtin,r1]),aA.le_refl _,Mu.le_refl _,fun _ _=>rfl,r2,r3⟩
  ·-- max
   rename_i x r
   split at hI<;>try (cases hI;done)
   rename_i x' ys hx hys
   cases hI
   have rx:=aD he hx
   have YT:=fQ he hys
   simp only [cg] at ah
   split at ah<;>try (cases ah;done)
   rename_i k m cT
   rw [cT] at rx
   split at ah<;>try (cases ah;done)
   rename_i z hz
   cases ah
   generalize iG:a.eval x=xv at rx
   cases rx
   have:=qS (w:=w) (P:=P) hz YT
   exact .pure h (x:=.int k z) (by simp [execOp,resolve,invoke,builtin,Builtin.max_,iG,this]) (.int _ _)
  ·-- min
   rename_i x r
   split at hI<;>try (cases hI;done)
   rename_i x' ys hx hys
   cases hI
   have rx:=aD he hx
   have YT:=fQ he hys
   simp only [cg] at ah
   split at ah<;>try (cases ah;done)
   rename_i k m cT
   rw [cT] at rx
   split at ah<;>try (cases ah;done)
   rename_i z hz
   cases ah
   generalize iG:a.eval x=xv at rx
   cases rx
   have:=qT (w:=w) (P:=P) hz YT
   exact .pure h (x:=.int k z) (by simp [execOp,resolve,invoke,builtin,Builtin.min_,iG,this]) (.int _ _)
theorem uc (h : Inv P Y ι μ H w) {aF : Nat} (hn : μ aF = none) {env : List (Nat × V)} {a : Act} (he : fG ι μ env a.tmps) {o : Oper} {i : I} (hI : E4 P o.op = some i) {ob : List Bool} {v : V} {u : cU}
  (ah:tg (aZ c1 c2 c3 c4 c5 c6 c7) i env H.bl aF=some (ob,v,u)) (cE:lW ob):FL P Y ι μ H w aF (execOp a.eval o) v u i.dU:=by
 cases i
 case store k ao xo =>
  obtain ⟨dst,op,ty,pos,after,guard⟩:=o
  simp only at hI
  cases op<;>simp only [E4] at hI<;>try (cases hI;done)
  case store t pa x =>
   split at hI<;>try (cases hI;done)
   rename_i k' a' x' hk ha hx
   cases hI
   obtain ⟨w',hy,hinv,rfl⟩:=vm h hk (aD he hx) (aD he ha) ah cE
   exact ⟨ι,μ,undef,w',.inr ⟨by simp only [execOp,Sem.run_bind,hy];rfl,rfl⟩,aA.le_refl _,Mu.le_refl _,fun _ _=>rfl,hinv,.any _⟩
  all_goals
   exfalso
   repeat' (first|(cases hI;done)|(rename _=Op.store _ _ _=>e;cases e;done)|(simp only [Option.map_eq_some_iff] at hI;obtain ⟨_,_,hI⟩:=hI;cases hI;done)|split at hI|(unfold BA at hI)|(unfold XR at hI)|(unfold vf at hI))
 case dy tt xx =>
  obtain ⟨dst,op,ty,pos,after,guard⟩:=o
  simp only at hI
  cases op<;>simp only [E4] at hI<;>try (cases hI;done)
  case buildSlice t n parts =>
   split at hI<;>try (cases hI;done)
   rename_i e hu
   split at hI<;>try (cases hI;done)
   rename_i XX k xs E9 ND hin
   split at hI<;>try (cases hI;done)
   rename_i gk
   obtain ⟨hsz,hlen,lY⟩:=gk
   cases hI
   simp only [tg] at ah
   split at ah<;>try (cases ah;done)
   rename_i x1
   split at ah<;>try (cases ah;done)
   rename_i vs hvs
   split at ah<;>try (cases ah;done)
   rename_i p hp
   split at ah<;>try (cases ah;done)
   rename_i y hvl
   cases ah
   obtain ⟨q1,q2⟩:=ku he hin
   have hof:nY (aZ c1 c2 c3 c4 c5 c6 c7) H.bl tt ([x1].map (·.ev env))=some ([y],[]):=by simp [nY,hvs,hvl]
   obtain ⟨z1,z2,z3,z4⟩:=qL hof q1
   have dI:=z4 ι (aA.le_refl _) (fun id t xs h=>by cases h)
   obtain ⟨inf,zv,hi,hz,_,hzs,jy⟩:=dJ ND
   have OV:(parts.toList.map fun p=>a.eval p.2).length=n:=by have:=q1.1;simp at this;simp;simp at hlen;omega
   obtain ⟨out, f1, f2⟩ := lX (k := k) (parts.toList.map fun p => a.eval p.2) 0
    ((Array.range (n * k)).map fun j=>(if n * k=0 then #[] else zv.cells)[j % (if n * k=0 then #[] else zv.cells).size]!) (fun v hv=>by rw [z3 v hv,hsz]) (by simp [<-OV])
   obtain ⟨xv,rv,exv,hxv,vw⟩:=q1.bF
   have YU:=vw.of_nil;subst YU
   obtain ⟨c,Dc,Sw⟩:=qP hp (hxv.cells hvs).1
   have Sz:(List.map (fun (p:Nat×Operand)=>a.eval p.2) parts.toList).flatMap (fun (x:Value)=>x.cells.toList)=xv.cells.toList:=by rw [exv];simp
   obtain ⟨μ',m1,m0,m2,m3⟩:=JV h hn dI e (p:=p) (c:=c) (by rw [Sz];exact Dc) Sw
   have NA:n=1:=by simpa using hlen.symm
   refine ⟨ι,μ',.slice (some ⟨w.heap.size,0,none⟩) n n,(w.alloc (.cells ((List.flatMap (fun (x:Value)=>x.cells.toList) (List.map (fun (p:Nat×Operand)=>a.eval p.2) parts.toList))++[]).toArray e)),.inl ?_,aA.le_refl _,m1,m0,?_,?_⟩
   rotate_left
   ·simpa [bD,I.dU,ej] using m2
   ·simpa [NA] using m3
   ·have hout:((List.flatMap (fun (x:Value)=>x.cells.toList) (List.map (fun (p:Nat×Operand)=>a.eval p.2) parts.toList))++[]).toArray=out:=by
     apply Array.ext';simp [f2]
    rw [hout]
    rw [<-q2,<-jy] at f1
    have hif:(if n * inf.size=0 then #[] else zv.cells)=(if n * k=0 then #[] else zv.cells):=by rw [jy]
    have hmap:(parts.map fun (i,x)=>(i,a.eval x)).toList=parts.toList.map fun (i,x)=>(i,a.eval x):=by simp
    simp only [execOp,Instr.buildSlice,Sem.run_bind,run_underlying hu,Result.andThen_ok,sizeOf,typeInfo,run_program,hi,Sem.run_pure]
    rw [if_neg (by rw [jy];omega)]
    by_cases h0:n * inf.size=0
    ·have FY : n * k = 0 := by rw [← jy]; exact h0
     rw [jy] at f1
     simp [FY] at f1
     simp [FY,jy,f1,newRow]
    ·have FY : ¬ n * k = 0 := by rw [← jy]; exact h0
     rw [jy] at f1
     simp [FY] at f1
     simp [FY,jy,zeroValue,typeInfo,hi,hz,f1,newRow]
  all_goals
   exfalso
   repeat' (first|(cases hI;done)|(rename _=Op.buildSlice _ _ _=>e;cases e;done)|(simp only [Option.map_eq_some_iff] at hI;obtain ⟨_,_,hI⟩:=hI;cases hI;done)|split at hI|(unfold BA at hI)|(unfold XR at hI)|(unfold vf at hI))
 all_goals (simp [tg] at ah)
end
end Go.AM
end
section
namespace Go.AM
def Ctx.F (Y:Ctx):Fence:={ Fence.wide with round:=Y.ro }
def coll (b:Nat):Deferred:={ target:=.collected b,args:=#[] }
def jz (hid : List Nat) (μ : Mu) : List Nat → List Deferred → Prop
 |[],ds=>ds=hid.map coll
 |id::r,ds=>∃L d ds',ds=d::ds'/\μ id=some L/\d={ target:=.collected L.b,args:=#[] }/\jz hid μ r ds'
structure iH (P:Program) (N:Nat) (Y:Ctx) (ι:aA) (μ:Mu) (S:St) (a:Act) (w:World):Prop where
 env:fG ι μ S.env a.tmps
 sz:a.tmps.size=N
 inv:Inv P Y ι μ S.H w
 ms:jz Y.hid μ S.ms a.defers
def YV : Ex → Exit → Prop
 | .normal,e=>e = .normal
 | .exit id,e=>e = .exit id
 | .ret,e=>e = .ret
def Ctx.base (Y:Ctx) (b:Nat):Prop:=∀id,b<=id->Y.m0 id=none
def Ctx.Dj (Y:Ctx) (w:World) (ι:aA) (r:Nat):Ctx:=⟨w,ι,Y.m0,Y.ro,fun b=>Y.own b/\b≠r,r::Y.hid⟩
inductive Ext (P : Program) : Ctx → Ctx → Prop
 |refl (Y:Ctx):Ext P Y Y
 |step {Y Y1:Ctx} {ι:aA} {μ:Mu} {H:aK} {w:World} {r:Nat} (h:Ext P Y Y1) (ro:Y1.ro=none) (hI:Inv P Y1 ι μ H w) (hr:w.heap[r]?=some (.deferred (some []))) (own:Y1.own r):Ext P Y (Y1.Dj w ι r)
def Post (P:Program) (N:Nat) (Y:Ctx) (Q:Ex->St->Prop):Exit->Act->World->Prop:=fun e a w=>∃Y1,Ext P Y Y1/\∃ι μ S e',iH P N Y1 ι μ S a w/\YV e' e/\Q e' S
def xW (Y : Ctx) : Option Nat → Prop
 |none=>Y.ro=none
 |some id=>∃L,Y.m0 id=some L/\Y.ro=some L.b
def Ga (P:Program) (N:Nat) (out:Option Nat) (base:Nat) (c:Code) (S:St) (Q:Ex->St->Prop):Prop :=
 ∀Y ι μ a w,xW Y out->Y.base base->iH P N Y ι μ S a w->c.wpIn Y.F 0 P (Post P N Y Q) a w
def fI (P:Program) (f:Nat):Prop:=∀args w,(callFunc f args).run P w = .ok (.enter f args) w
def Gb (P:Program) (Y:Ctx) (ι:aA) (μ:Mu) (Q:V->aK->Prop):Ending->World->Prop:=fun e w' =>
 ∃v ι' μ' r H',e = .returned v/\ι.le ι'/\μ.le μ'/\Inv P Y ι' μ' H' w'/\Rel ι' μ' r v/\Q r H'
def eI (P:Program) (f:Nat) (vs:List V) (H:aK) (Q:V->aK->Prop):Prop :=
 fI P f/\∀Y ι μ w (args:Array Value),Inv P Y ι μ H w->aG ι μ vs args.toList->CallsIn Fence.wide 0 P f args w (Gb P Y ι μ Q)
def around (P:Program) (id:Nat) (vs:List V) (H:aK) (Q:V->aK->Prop):Prop :=
 ∀Y ι μ w (args:Array Value) L,Inv P Y ι μ H w->aG ι μ vs args.toList->μ id=some L ->
  ∃f tmps as bd w1,(Instr.yield L.b args).run P w = .ok (.round L.b f tmps as bd) w1/\RoundIn Fence.wide 0 P L.b f tmps as bd w1 (Gb P Y ι μ Q)
def eZ (ι:aA) (w:World):Prop:=∀b o x,ι b o=some x->w.cell? ⟨b,o,none⟩=some x
def gY (P:Program) (f:Nat) (vs:List V) (r:V):Prop :=
 fI P f/\∀ι w (args:Array Value),gb P ι->eZ ι w->aG ι (fun _=>none) vs args.toList->CallsIn Fence.wide 0 P f args w fun e w' =>
  ∃v ι',e = .returned v/\ι.le ι'/\(∀b o,b<w.heap.size->ι' b o=ι b o)/\eZ ι' w'/\Dw w w'/\Rel ι' (fun _=>none) r v
def Gc (P:Program):GC:=fun f vs bl n v u=>fI P f/\∀Y ι μ nx w (args:Array Value),n<nx->μ n=none->Inv P Y ι μ ⟨nx,bl⟩ w->aG ι μ vs args.toList->CallsIn Fence.wide 0 P f args w fun e w' =>
 ∃x ι' μ',e = .returned x/\ι.le ι'/\μ.le μ'/\(∀id,id≠n->μ' id=μ id)/\Inv P Y ι' μ' ⟨nx,bD u bl⟩ w'/\Rel ι' μ' v x
def fY (P : Program) (N : Nat) (out : Option Nat) (base : Nat) : Ar := aZ (eI P) (gY P)
 (fun c S K=>∀body,pT P N body=some c->Ga P N out base (.loop body) S K)
 (around P)
 (fun f ps a b S K=>∀fo zE ao bo,cZ fo=some f->zE.toList=ps->pT P N ao=some a->pT P N bo=some b->Ga P N out base (.rangeFunc fo zE ao bo) S K)
 (fun c S K=>∀a b,pT P N (.seq a b)=some c->(Nx P N a b).isSome=true->Ga P N out base (.seq a b) S K)
 (Gc P)
section
variable {P:Program} {N:Nat} {Y:Ctx} {ι ι':aA} {μ μ':Mu} {H:aK} {w w':World} {out:Option Nat} {base:Nat}
theorem Ext.trans {Y Y1 Y2:Ctx} (h:Ext P Y Y1) (h2:Ext P Y1 Y2):Ext P Y Y2:=by
 induction h2 with
 |refl=>exact h
 |step _ ro hI hr own ih=>exact .step ih ro hI hr own
theorem Ext.ro {Y Y1:Ctx} (h:Ext P Y Y1):Y1.ro=Y.ro:=by
 induction h with
 |refl=>rfl
 |step _ _ _ _ _ ih=>exact ih
theorem Ext.m0 {Y Y1:Ctx} (h:Ext P Y Y1):Y1.m0=Y.m0:=by
 induction h with
 |refl=>rfl
 |step _ _ _ _ _ ih=>exact ih
theorem Ext.F {Y Y1:Ctx} (h:Ext P Y Y1):Y1.F=Y.F:=by unfold Ctx.F;rw [h.ro]
theorem Ext.same {Y Y1:Ctx} (h:Ext P Y Y1) (hro:Y.ro≠none):Y1=Y:=by
 cases h with
 |refl=>rfl
 |step h ro _ _ _=>exact absurd (h.ro▸ro) hro
theorem Ext.YW {Y Y1:Ctx} (h:Ext P Y Y1) (ho:xW Y out):xW Y1 out:=by
 cases out with
 |none=>exact h.ro.trans ho
 |some id=>obtain ⟨L,h1,h2⟩:=ho;exact ⟨L,by rw [h.m0];exact h1,by rw [h.ro];exact h2⟩
theorem Ext.BO {Y Y1:Ctx} (h:Ext P Y Y1) {b:Nat} (hb:Y.base b):Y1.base b:=fun id hid=>by rw [h.m0];exact hb id hid
theorem eu.owns {B B':Nat->Prop} {id:Nat} {b:js} (h:eu P B ι μ id w b) (hB:∀L,μ id=some L->B L.b->B' L.b):eu P B' ι μ id w b:=by
 have mem:∀{fz:Bool} {L:Loc} {vs:List Value},Mem B ι μ id fz w L vs->Mem B' ι μ id fz w L vs:=fun hM=>⟨hM.mu,hB _ hM.mu hM.old,hM.row,hM.fits,hM.one,hM.zW,hM.n4⟩
 cases b with
 |cells cs fz=>obtain ⟨L',vs,hM,h⟩:=h;exact ⟨L',vs,mem hM,h⟩
 |arr t xs fz =>
  rcases h with h|⟨L',vs,hM,h⟩
  ·exact .inl h
  ·exact .inr ⟨L',vs,mem hM,h⟩
 |loop st j d env ps as bd N =>
  obtain ⟨L',r,Ld,h1,h2,h3⟩:=h
  exact ⟨L',r,Ld,h1,hB _ h1 h2,h3⟩
 |gi =>
  obtain ⟨L',h1,h2,h3⟩:=h
  exact ⟨L',h1,hB _ h1 h2,h3⟩
 |map kt kg vt vg es =>
  obtain ⟨L',ms,clock,qJ,h1,h2,h3⟩:=h
  exact ⟨L',ms,clock,qJ,h1,hB _ h1 h2,h3⟩
 |jo t xs i p v =>
  obtain ⟨L',us,vs,c,hM,h⟩:=h
  exact ⟨L',us,vs,c,mem hM,h⟩
theorem Inv.OW (h:Inv P Y ι μ H w) {r:Nat} {H':aK} (h2:Inv P (Y.Dj w ι r) ι' μ' H' w'):Inv P Y ι' μ' H' w':=by
 have hs:=h.below.size
 have XW:∀k,k<Y.w0.heap.size->¬Y.x k->¬(Y.Dj w ι r).x k:=fun k hk hx hX=>by
  rcases hX.1 with h|h
  ·omega
  ·exact hx h
 have b2:=h2.below
 refine ⟨⟨b2.os.trans h.below.os,b2.tape.trans h.below.tape,b2.output.trans h.below.output,Nat.le_trans hs b2.size,fun k hk hx=>?_,Nat.le_trans h.below.dr b2.dr,fun k hk=>(h.below.maps k hk).trans (b2.maps k (Nat.lt_of_lt_of_le hk hs))⟩,
  aA.le_trans h.i0 h2.i0,fun b o hb hx=>?_,h2.rd,h2.m0,h2.nx,fun id B hB=>(h2.live id B hB).owns fun L _ ho=>?_,h2.inj,h2.lt,h.gl⟩
 ·exact (b2.block k (Nat.lt_of_lt_of_le hk hs) (XW k hk hx)).trans (h.below.block k hk hx)
 ·exact (h2.iB b o (Nat.lt_of_lt_of_le hb hs) (XW b hb hx)).trans (h.iB b o hb hx)
 ·rcases ho with ho | ho
  ·exact .inl (Nat.le_trans hs ho)
  ·exact ho.1
theorem Post.ext {Y Y1:Ctx} (hY:Ext P Y Y1) {Q:Ex->St->Prop} {e:Exit} {a:Act} (h:Post P N Y1 Q e a w):Post P N Y Q e a w :=
 let ⟨Y2,h2,h⟩:=h;⟨Y2,hY.trans h2,h⟩
theorem Post.of {Q:Ex->St->Prop} {S:St} {a:Act} {e:Exit} {e':Ex} (hR:iH P N Y ι μ S a w) (h:YV e' e) (hQ:Q e' S):Post P N Y Q e a w:=⟨Y,.refl Y,ι,μ,S,e',hR,h,hQ⟩
theorem Post.YX {Y Y1:Ctx} (hY:Ext P Y Y1) {Q:Ex->St->Prop} {S:St} {a:Act} {e:Exit} {e':Ex} (hR:iH P N Y1 ι μ S a w) (h:YV e' e) (hQ:Q e' S):Post P N Y Q e a w:=⟨Y1,hY,ι,μ,S,e',hR,h,hQ⟩
theorem Aj {c:Code} {S:St} {Q:Ex->St->Prop} (h:Ga P N out base c S Q) {Y Y1:Ctx} (hY:Ext P Y Y1) (ho:xW Y out) (hb:Y.base base) {a:Act} (hR:iH P N Y1 ι μ S a w):c.wpIn Y.F 0 P (Post P N Y Q) a w:=by
 have:=h Y1 ι μ a w (hY.YW ho) (hY.BO hb) hR
 rw [hY.F] at this
 exact wpIn_mono this fun e a w hp=>hp.ext hY
theorem iH.Dj {S:St} {a:Act} (hR:iH P N Y ι μ S a w) {id:Nat} (X0:S.ms=[id]) (hb:aq id S.H.bl=some .gi) (hro:Y.ro=none):∃Y1,Ext P Y Y1/\iH P N Y1 ι μ ⟨S.env,⟨S.H.next,bH id S.H.bl⟩,[]⟩ a w:=by
 obtain ⟨L,h1,h2,h3⟩:=hR.inv.live id _ hb
 have hm:=hR.ms
 rw [X0] at hm
 obtain ⟨L',d,ds,e1,e2,e3,e4⟩:=hm
 rw [h1] at e2;cases e2
 refine ⟨Y.Dj w ι L.b,.step (.refl Y) hro hR.inv h3 h2,hR.env,hR.sz,?_,?_⟩
 ·have h := hR.inv
  refine ⟨E5.refl _ _,aA.le_refl _,fun _ _ _ _=>rfl,h.rd,h.m0,h.nx,fun i B hB=>?_,fun i i' B B' L1 L2 jv iF=>?_,fun i B hB=>?_,h.jL⟩
  ·simp only [bf] at hB
   split at hB
   ·cases hB
   ·rename_i hne
    exact (h.live i B hB).owns fun L1 OQ ho=>.inr ⟨ho,fun e=>hne (h.inj i id B _ L1 L hB hb OQ h1 e)⟩
  ·simp only [bf] at jv iF
   split at jv
   ·cases jv
   split at iF
   ·cases iF
   exact h.inj i i' B B' L1 L2 jv iF
  ·simp only [bf] at hB
   split at hB
   ·cases hB
   exact h.lt i B hB
 ·show a.defers = _
  rw [e1,e3,e4];rfl
theorem jz.mono {hid : List Nat} (hm : μ.le μ') : ∀ {ids : List Nat} {ds : List Deferred}, jz hid μ ids ds → jz hid μ' ids ds
 |[],_,h=>h
 |_::_,_,⟨L,d,ds',h1,h2,h3,h4⟩=>⟨L,d,ds',h1,hm _ _ h2,h3,h4.mono hm⟩
theorem fG.put {env:List (Nat×V)} {a:Act} (he:fG ι μ env a.tmps) (hsz:a.tmps.size=N) {d:Option Nat} (hd:tO N d=true) {v:V} {x:Value} (hv:Rel ι μ v x) :
  fG ι μ (put d v env) (a.put d x).tmps/\(a.put d x).tmps.size=N/\(a.put d x).defers=a.defers:=by
 cases d with
 |none=>exact ⟨he,hsz,rfl⟩
 |some d =>
  have hd':d<N:=by simpa [tO] using hd
  refine ⟨fun t=>?_,by simp [Act.put,hsz],rfl⟩
  simp only [AM.put,iU,Act.put]
  by_cases h:d=t
  ·subst h
   rw [if_pos rfl]
   have:(a.tmps.setIfInBounds d x).getD d undef=x:=by simp [Array.getD,hsz,hd']
   rw [this];exact hv
  ·rw [if_neg h]
   have:(a.tmps.setIfInBounds d x).getD t undef=a.tmps.getD t undef:=by
    simp only [Array.getD_eq_getD_getElem?]
    rw [Array.getElem?_setIfInBounds_ne h]
   rw [this];exact he t
theorem iH.put {S : St} {a : Act} (h : iH P N Y ι μ S a w) {d : Option Nat} (hd : tO N d = true) {ι' : aA} {μ' : Mu} (hi : ι.le ι') (hm : μ.le μ') {H' : aK} {w' : World} (hinv : Inv P Y ι' μ' H' w')
  {v:V} {x:Value} (hv:Rel ι' μ' v x):iH P N Y ι' μ' ⟨AM.put d v S.env,H',S.ms⟩ (a.put d x) w':=by
 obtain ⟨h1,h2,h3⟩:=(h.env.mono hi hm).put h.sz hd hv
 exact ⟨h1,h2,hinv,by rw [h3];exact h.ms.mono hm⟩
theorem qY {env : List (Nat × V)} {a : Act} (he : fG ι μ env a.tmps) {ops : Array Oper} {j d : Nat} {o : Oper} (ho : ops[j]? = some o) (hd : o.dst = some d) {b : Bool}
  (hv:get d env = .tf b\/get d env = .bool b):yielded ops a.tmps j=some b:=by
 have hr:=he d
 have:a.tmps.getD d undef = .bool b:=by
  generalize a.tmps.getD d undef=x at hr
  rcases hv with hv|hv<;>rw [hv] at hr<;>cases hr<;>rfl
 rw [Array.getD_eq_getD_getElem?] at this
 unfold yielded
 simp only [ho,Option.bind_some,hd]
 cases hq:a.tmps[d]? with
 |none=>rw [hq] at this;cases this
 |some x=>rw [hq] at this;simp at this;subst this;rfl
theorem o8 {env : List (Nat × V)} {a : Act} (he : fG ι μ env a.tmps) {ops : Array Oper} {j d : Nat} {o : Oper} (ho : ops[j]? = some o) (hd : o.dst = some d) {vs : List V}
  (hv:get d env = .cq vs):yielded ops a.tmps j=none:=by
 have hr:=he d
 have:∃xs,a.tmps.getD d undef = .tuple xs:=by
  generalize a.tmps.getD d undef=x at hr
  rw [hv] at hr;cases hr;exact ⟨_,rfl⟩
 obtain ⟨xs,this⟩:=this
 rw [Array.getD_eq_getD_getElem?] at this
 unfold yielded
 simp only [ho,Option.bind_some,hd]
 cases hq:a.tmps[d]? with
 |none=>rfl
 |some x=>rw [hq] at this;simp at this;subst this;rfl
theorem Rel.und:Rel ι μ (.cq []) undef:=.cq [] _ rfl (fun i v x hv=>by simp at hv)
theorem qZ : ∀ {ob : List Bool}, pR ob → lW ob
 |[],_=>fun b h=>by cases h
 |[b],h=>fun b' h'=>by cases List.mem_singleton.1 h';exact h
 |b::c::r,h=>fun b' h'=>by
  rcases List.mem_cons.1 h' with rfl|h'
  ·exact h.1
  ·exact qZ h.2 b' h'
theorem ud {o:Out} {l:Bool} {dst:Option Nat} {S:St} {K:St->Prop} (h:mP o l dst S K):∃ob v u,o=some (ob,v,u)/\lW ob /\
  K ⟨put dst v S.env,⟨ej l S.H.next S.H.next,bD u S.H.bl⟩,S.ms⟩:=by
 have hn:E3 l S.H.next=ej l S.H.next S.H.next:=by
  unfold ej E3;cases l<;>simp
 unfold mP at h
 split at h
 ·rename_i v u
  rw [hn] at h
  exact ⟨[],v,u,rfl,(fun b hb=>by cases hb),h⟩
 ·rename_i ob v u _
  rw [hn] at h
  exact ⟨ob,v,u,rfl,qZ h.1,h.2⟩
 ·exact h.elim
theorem iH.cl {c1 : Nat → List V → aK → (V → aK → Prop) → Prop} {c2 : Nat → List V → V → Prop} {c3 : C → St → (Ex → St → Prop) → Prop}
  {c4:Nat->List V->aK->(V->aK->Prop)->Prop} {c5:O->List Nat->C->C->St->(Ex->St->Prop)->Prop} {c6:C->St->(Ex->St->Prop)->Prop} {c7:GC} {S:St} {a:Act} (h:iH P N Y ι μ S a w) {ids:List Nat} {u:cU} (hu:E2 (aZ c1 c2 c3 c4 c5 c6 c7) ids S.H.bl=some u) :
  ∃ι',iH P N Y ι' μ ⟨S.env,⟨S.H.next,bD u S.H.bl⟩,S.ms⟩ a w:=by
 obtain ⟨ι',hle,hI⟩:=BH hu h.inv
 exact ⟨ι',h.env.mono hle (Mu.le_refl _),h.sz,hI,h.ms⟩
def Next (P:Program) (N:Nat) (Y:Ctx) (K:St->Prop) (next:Act->World->Prop):Prop:=∀ι μ S a w,iH P N Y ι μ S a w->K S->next a w
theorem xX {a : Act} {f : Operand} {args : Array Operand} {tys : Array TypeId} {o : Oper} (ho : o.op = .call { callee := .value f, args := args, argTypes := tys }) {fid : Nat} {xs ys : Array Value}
  (hf:a.eval f = .func (.func fid) xs ys) (fc:fI P fid) (w:World):(execOp a.eval o).run P w = .ok (.enter fid (xs++args.map a.eval++ys)) w:=by
 have:=fc (xs++args.map a.eval++ys) w
 simp only [Array.append_assoc] at this
 simp [execOp,ho,resolve,hf,Deferred.ofValue,invoke,this]
theorem rj {t f : Nat} : ∀ {l : List (Nat × Nat)}, l.lookup t = some f → (t, f) ∈ l
 |[],h=>by cases h
 |(a,b)::r,h=>by
  rw [List.lookup_cons] at h
  split at h
  ·rename_i e;cases h;rw [beq_iff_eq] at e;subst e;exact List.mem_cons_self ..
  ·exact List.mem_cons_of_mem _ (rj h)
theorem Dk {name:String} {t f:Nat} (h:(JN P name).lookup t=some f):∃i m pr,P.info? t=some i/\i.methods.find? (·.name==name)=some m/\m.path=#[]/\m.func=some (f,pr) /\
  ((pr=true/\∃e,P.underlying t=some (.pointer e))\/(pr=false/\∃d,P.underlying t=some d/\∀e,d ≠ .pointer e)):=by
 have hm:=rj h
 unfold JN at hm
 obtain ⟨t',_,ht⟩:=List.mem_filterMap.1 hm
 split at ht<;>try (cases ht;done)
 rename_i i hi
 split at ht<;>try (cases ht;done)
 rename_i m hf
 split at ht<;>try (cases ht;done)
 rename_i hp
 have Tn:m.path=#[]:=by simpa using hp
 split at ht<;>try (cases ht;done)
 ·rename_i f' e YY hu
  cases ht
  exact ⟨i,m,true,hi,hf,Tn,YY,.inl ⟨rfl,e,hu⟩⟩
 ·rename_i f' d hnp YY hu
  cases ht
  exact ⟨i,m,false,hi,hf,Tn,YY,.inr ⟨rfl,d,hu,fun e he=>by subst he;exact hnp _ rfl⟩⟩
theorem rm {name:String} {t f:Nat} (h:(JN P name).lookup t=some f) (fc:fI P f) (v:Value) (args:Array Value) (w:World):(callMethod (.iface t v) name args).run P w = .ok (.enter f (#[v]++args)) w:=by
 obtain ⟨i,m,pr,h1,h2,h3,h4,h5⟩:=Dk h
 have hti:∀w:World,(typeInfo t).run P w = .ok i w:=fun w=>by simp [typeInfo,h1]
 have To:∀n,(method (n+1) t v name).run P w = .ok (f,v) w:=fun n=>by
  unfold method
  simp only [Sem.run_bind,hti,Result.andThen_ok,h2,h3]
  have YZ:(follow (#[]:Array FieldStep).toList t (.val v)).run P w = .ok (t,.val v) w:=rfl
  simp only [YZ,Result.andThen_ok,h4]
  have Tp:(receiverAt t (.val v) pr (if m.path.isEmpty then some ((name.splitOn ".").getLastD name) else none)).run P w = .ok v w:=by
   unfold receiverAt
   rcases h5 with ⟨rfl,e,hu⟩|⟨rfl,d,hu,hd⟩
   ·rw [Sem.run_bind,run_underlying hu w];rfl
   ·rw [Sem.run_bind, run_underlying hu w]
    cases d<;>first|rfl|exact absurd rfl (hd _)
  rw [h3] at Tp
  simp only [Sem.run_bind,Tp,Result.andThen_ok];rfl
 have hsz:∀w:World,(program).run P w = .ok P w:=fun w=>rfl
 show ((do let p <-program;let (f,receiver) <-method (p.types.size+Made.depth) t v name;callFunc f (#[receiver]++args):Sem Go.Next)).run P w=_
 simp only [Sem.run_bind,hsz,Result.andThen_ok]
 rw [show P.types.size+Made.depth=(P.types.size+99)+1 from rfl,To]
 simp only [Result.andThen_ok]
 exact fc _ _
theorem rq {a : Act} {c : Callee} {args : Array Operand} {tys : Array TypeId} {o : Oper} (hop : o.op = .call { callee := c, args := args, argTypes := tys }) {fo : O} (hc : hN P c = some fo) {env : List (Nat × V)} (he : fG ι μ env a.tmps)
  {fid:Nat} {fs cs:List V} (kY:fo.ev env = .fn fid fs cs) (fc:fI P fid):∃xs ys:Array Value,aG ι μ fs xs.toList/\aG ι μ cs ys.toList/\∀w,(execOp a.eval o).run P w = .ok (.enter fid (xs++args.map a.eval++ys)) w:=by
 unfold hN at hc
 split at hc<;>try (cases hc;done)
 ·rename_i f
  have rf:=aD he hc
  rw [kY] at rf
  generalize hg:a.eval f=fv at rf
  cases rf with
  |fn _ _ _ xs ys h1 h2 h3 h4 =>
   exact ⟨xs,ys,⟨by simpa using h1,fun i v x hv hx=>h2 i v x hv (by simpa using hx)⟩,⟨by simpa using h3,fun i v x hv hx=>h4 i v x hv (by simpa using hx)⟩,fun w=>xX hop hg fc w⟩
 ·rename_i t name
  cases hc
  have hr:=he t
  simp only [O.ev] at kY
  generalize hv:get t env=tv at kY hr
  cases tv<;>simp only [Fi] at kY<;>try (cases kY;done)
  rename_i ty v0
  split at kY<;>try (cases kY;done)
  rename_i f hf
  cases kY
  have ah:a.eval (.tmp t)=a.tmps.getD t undef:=rfl
  generalize hg:a.tmps.getD t undef=fv at hr ah
  cases hr with
  |cn _ _ x hx =>
   refine ⟨#[x],#[],.cons hx .nil,.nil,fun w=>?_⟩
   have hm:=rm hf fc x (args.map a.eval) w
   simp only [execOp,hop,resolve,ah,Sem.run_bind,Sem.run_pure,Result.andThen_ok,invoke]
   have h0:(#[Value.iface ty x]++Array.map a.eval args)[0]?=some (.iface ty x):=by rw [Array.getElem?_append_left (by simp)];rfl
   have h1:(#[Value.iface ty x]++Array.map a.eval args).extract 1 (#[Value.iface ty x]++Array.map a.eval args).size=Array.map a.eval args:=by
    apply Array.ext'
    have:List.take args.size (List.map a.eval args.toList)=List.map a.eval args.toList:=List.take_of_length_le (by simp)
    simp [List.extract_eq_take_drop,this]
   rw [h0,h1]
   simpa using hm
theorem J4 {c:Callee} {fo:O} (hc:hN P c=some fo) {env:List (Nat×V)} {id:Nat} (kY:fo.ev env = .yl id):∃f,c = .value f/\cZ f=some fo:=by
 unfold hN at hc
 split at hc<;>try (cases hc;done)
 ·exact ⟨_,rfl,hc⟩
 ·cases hc
  simp only [O.ev] at kY
  generalize get _ env=tv at kY
  cases tv<;>simp only [Fi] at kY<;>try (cases kY;done)
  split at kY<;>cases kY
theorem NF {F : Fence} (hF : ∀ f, F.fn f) (hdep : F.depth = none) {ops : Array Oper} {i : Nat} {rest : List Nat} {o : Oper} (ho : ops[i]? = some o) {a : Act} {w : World} {Q : Exit → Act → World → Prop}
  (hw:Region.wanted o (yielded ops a.tmps)=true) (Y4:∀c,o.op ≠ .defer c) {x:Value} {w':World}
  (hrun:(execOp a.eval o).run P w = .ok (.value x) w'\/((execOp a.eval o).run P w = .ok .skip w'/\x=undef)) (hk:wpOpsIn F 0 P ops Q rest (a.put o.dst x) w') :
  wpOpsIn F 0 P ops Q (i::rest) a w:=by
 simp only [wpOpsIn,ho,hw,if_true,Oper.wpIn]
 refine ⟨fun f _=>hF f,?_⟩
 rw [Oper.semAt_eq _ _ _ Y4]
 rcases hrun with h|⟨h,rfl⟩<;>rw [h]<;>exact hk
theorem J5 {F : Fence} (hF : ∀ f, F.fn f) {ops : Array Oper} {i : Nat} {rest : List Nat} {o : Oper} (ho : ops[i]? = some o) {a : Act} {w : World} {Q : Exit → Act → World → Prop}
  (hw:Region.wanted o (yielded ops a.tmps)=false) (hk:wpOpsIn F 0 P ops Q rest (a.put o.dst undef) w) :
  wpOpsIn F 0 P ops Q (i::rest) a w:=by
 simp only [wpOpsIn,ho,hw,Bool.false_eq_true,if_false]
 exact ⟨fun f _=>hF f,hk⟩
theorem od {op:Op} {i:I} (h:E4 P op=some i):∀c,op ≠ .defer c:=fun c e=>by subst e;simp [E4] at h
theorem BQ {ops : Array Oper} {i : Nat} {rest : List Nat} {o : Oper} (ho : ops[i]? = some o) {a : Act} {w : World} {Q : Exit → Act → World → Prop} {S : St} (hR : iH P N Y ι μ S a w)
  (hw:Region.wanted o (yielded ops a.tmps)=true) {c:Callee} {args:Array Operand} {tys:Array TypeId} (hop:o.op = .call { callee:=c,args:=args,argTypes:=tys })
  {fo:O} {as:List O} (hf:hN P c=some fo) (ha:pS args.toList=some as) (hd:tO N o.dst=true) {ts:List (Option Ty)} {K:St->Prop} (hK:zS (fY P N out base) o.dst fo as ts S K)
  (hn:Next P N Y K (wpOpsIn Y.F 0 P ops Q rest)):wpOpsIn Y.F 0 P ops Q (i::rest) a w:=by
 simp only [wpOpsIn,ho,hw,if_true,Oper.wpIn]
 refine ⟨fun f _=>trivial,?_⟩
 rw [Oper.semAt_eq _ _ _ (by rw [hop];simp)]
 have tS:∃ι S',iH P N Y ι μ S' a w/\qi (fY P N out base) o.dst fo as ts S' K:=by
  rcases hK with hK|⟨ids,u,hu,hK⟩
  ·exact ⟨ι,S,hR,hK⟩
  ·obtain ⟨ι', fy⟩ := hR.cl hu
   exact ⟨ι',_,fy,hK⟩
 clear hK hR
 obtain ⟨ι,S,hR,hK⟩:=tS
 have ra:=fQ hR.env ha
 unfold qi at hK
 split at hK
 ·rename_i fid fs cs kY
  obtain ⟨fc,eH⟩:=hK
  obtain ⟨xs,ys,r1,r2,hrun⟩:=rq hop hf hR.env kY fc
  rw [hrun]
  have rl:aG ι μ (fs++bX ts (as.map (·.ev S.env))++cs) (xs++args.map a.eval++ys).toList:=by
   have:=(r1.append (gw (ts:=ts) ra)).append r2
   simpa using this
  refine ⟨fun h=>by simp [Ctx.F,Fence.wide] at h,?_⟩
  refine CallsIn.mono (F:=Y.F) (eH Y ι μ w _ hR.inv rl) ?_
  rintro e w' ⟨v,ι',μ',r,H',rfl,hi,hm,hinv,hv,hq⟩
  exact hn _ _ _ _ _ (hR.put hd hi hm hinv hv) hq
 ·rename_i id kY
  obtain ⟨f,rfl,hf⟩:=J4 hf kY
  have rf:=aD hR.env hf
  rw [kY] at rf
  generalize hg:a.eval f=fv at rf
  cases rf with
  |yl _ L hL =>
   obtain ⟨f',tmps,as',bd,w1,hy,OX⟩:=hK Y ι μ w (args.map a.eval) L hR.inv (by simpa using gw (ts:=ts) ra) hL
   have:(execOp a.eval o).run P w = .ok (.round L.b f' tmps as' bd) w1:=by
    simp [execOp,hop,resolve,hg,Deferred.ofValue,invoke,hy]
   rw [this]
   refine ⟨fun h=>by simp [Ctx.F,Fence.wide] at h,?_⟩
   refine RoundIn.mono (F:=Y.F) OX ?_
   rintro e w' ⟨v,ι',μ',r,H',rfl,hi,hm,hinv,hv,hq⟩
   exact hn _ _ _ _ _ (hR.put hd hi hm hinv hv) hq
 ·exact hK.elim
theorem ru {ops : Array Oper} {i : Nat} {rest : List Nat} {o : Oper} (ho : ops[i]? = some o) {a : Act} {w : World} {Q : Exit → Act → World → Prop} {S : St} (hR : iH P N Y ι μ S a w)
  {g:Option (Nat×Bool)} (hg:S7 ops o.guard=some g) (hd:tO N o.dst=true) {K:St->Prop} {run:St->Prop} (h:kR g o.dst S K run)
  (hn:Next P N Y K (wpOpsIn Y.F 0 P ops Q rest))
  (hrun:∀S',iH P N Y ι μ S' a w->run S'->Region.wanted o (yielded ops a.tmps)=true->wpOpsIn Y.F 0 P ops Q (i::rest) a w):wpOpsIn Y.F 0 P ops Q (i::rest) a w:=by
 cases Gd:o.guard with
 |none =>
  rw [Gd] at hg;cases hg
  exact hrun S hR h (by simp [Region.wanted,Gd])
 |some jb =>
  obtain ⟨j,b⟩:=jb
  rw [Gd] at hg
  simp only [S7] at hg
  split at hg<;>try (cases hg;done)
  rename_i oj Tq
  split at hg<;>try (cases hg;done)
  rename_i d Ts
  cases hg
  have want:∀c,(get d S.env = .tf c\/get d S.env = .bool c)->Region.wanted o (yielded ops a.tmps)=(c==b):=fun c hc=>by
   simp only [Region.wanted,Gd,qY hR.env Tq Ts hc]
   cases c<;>cases b<;>rfl
  have skip:∀S',iH P N Y ι μ S' a w->Region.wanted o (yielded ops a.tmps)=false->K ⟨put o.dst (.cq []) S'.env,S'.H,S'.ms⟩->wpOpsIn Y.F 0 P ops Q (i::rest) a w:=fun S' fy hw hk =>
   J5 (fun _=>trivial) ho hw (hn _ _ _ _ _ (fy.put hd (aA.le_refl _) (Mu.le_refl _) fy.inv Rel.und) hk)
  have Tt:∀c,get d S.env = .bool c->iH P N Y ι μ (JM d c S) a w:=fun c hc =>
   ⟨fun t=>by
    simp only [JM,iU]
    by_cases ht:d=t
    ·subst ht; rw [if_pos rfl]
     have:=hR.env d;rw [hc] at this
     generalize hx:a.tmps.getD d undef=x at this
     cases this;exact .tf _
    ·rw [if_neg ht];exact hR.env t,hR.sz,hR.inv,hR.ms⟩
  simp only [kR] at h
  split at h
  ·rename_i c hc
   have hw:=want c (.inl hc)
   cases c<;>cases b<;>simp only at h
   ·exact hrun S hR h (by rw [hw];rfl)
   ·exact skip S hR (by rw [hw];rfl) h
   ·exact skip S hR (by rw [hw];rfl) h
   ·exact hrun S hR h (by rw [hw];rfl)
  ·rename_i c hc
   have hw:=want c (.inr hc)
   have FJ:=Tt c hc
   obtain ⟨h1,h2⟩:=h
   cases c with
   |true =>
    have h1:=h1 rfl
    cases b
    ·exact skip _ FJ (by rw [hw];rfl) h1
    ·exact hrun _ FJ h1 (by rw [hw];rfl)
   |false =>
    have h2:=h2 rfl
    cases b
    ·exact hrun _ FJ h2 (by rw [hw];rfl)
    ·exact skip _ FJ (by rw [hw];rfl) h2
  ·rename_i vs hc
   exact skip S hR (by simp only [Region.wanted,Gd,o8 hR.env Tq Ts hc];rfl) h
  ·exact h.elim
theorem ue {ops:Array Oper} {Q:Exit->Act->World->Prop} {K:St->Prop} {rest:List Nat} (hend:Next P N Y K (wpOpsIn Y.F 0 P ops Q rest)):∀{os:List Oper} {is:List dB} {k:Nat},eA P N ops os=some is ->
  (∀j,j<os.length->os[j]?=ops[k+j]?)->∀{S:St} {a:Act} {w:World} {ι:aA} {μ:Mu},iH P N Y ι μ S a w->ef (fY P N out base) is S K->wpOpsIn Y.F 0 P ops Q (List.range' k os.length++rest) a w
 |[],is,k,h,_,S,a,w,ι,μ,hR,hK=>by cases h;exact hend _ _ _ _ _ hR hK
 |o::os,is,k,h,hk,S,a,w,ι,μ,hR,hK=>by
  unfold eA at h
  split at h<;>try (cases h;done)
  rename_i it X1 hit Ge
  cases h
  have ho:ops[k]?=some o:=by have:=hk 0 (by simp);simpa using this.symm
  have hk':∀j,j<os.length->os[j]?=ops[k+1+j]?:=fun j hj=>by have:=hk (j+1) (by simp only [List.length_cons];omega);rw [show k+(j+1)=k+1+j by omega] at this;simpa using this
  have hn:Next P N Y (fun S=>ef (fY P N out base) X1 S K) (wpOpsIn Y.F 0 P ops Q (List.range' (k+1) os.length++rest)):=fun ι μ S a w hR hK=>ue hend Ge hk' hR hK
  simp only [List.length_cons,List.range'_succ,List.cons_append]
  unfold xz at hit
  split at hit<;>try (cases hit;done)
  rename_i hd
  split at hit<;>try (cases hit;done)
  rename_i g hg
  split at hit
  ·rename_i f args tys hop
   split at hit<;>try (cases hit;done)
   rename_i fo as hf ha
   cases hit
   refine ru ho hR hg hd hK hn fun S' fy hrun hw=>?_
   exact BQ (c:=.value f) ho fy hw hop hf ha hd hrun hn
  ·rename_i r name args tys hop
   split at hit<;>try (cases hit;done)
   rename_i fo as hf ha
   cases hit
   refine ru ho hR hg hd hK hn fun S' fy hrun hw=>?_
   exact BQ (c:=.invoke r name) ho fy hw hop hf ha hd hrun hn
  ·rename_i op _
   split at hit<;>try (cases hit;done)
   rename_i i hi
   cases hit
   refine ru ho hR hg hd hK hn fun S' fy hrun hw=>?_
   have key:∀{ι:aA} {S':St},iH P N Y ι μ S' a w->mP (cg (fY P N out base) i S'.env S'.H.bl S'.H.next) i.dU o.dst S' (fun S=>ef (fY P N out base) X1 S K)->wpOpsIn Y.F 0 P ops Q (k::(List.range' (k+1) os.length++rest)) a w:=by
    intro ι S' fy hrun
    obtain ⟨ob,v,u,ah,cE,hk⟩:=ud hrun
    have hnone:=fy.inv.nx S'.H.next (Nat.le_refl _)
    obtain ⟨ι',μ',x,w',hx,hi',hm,_,hinv,hv⟩:=ua fy.inv hnone fy.env hi ah cE
    exact NF (fun _=>trivial) rfl ho hw (od hi) hx (hn _ _ _ _ _ (fy.put hd hi' hm hinv hv) hk)
   rcases hrun with hrun|hrun|⟨ids,u,hu,hrun⟩
   ·exact key fy hrun
   ·obtain ⟨ob, v, u, ah, cE, hk⟩ := ud hrun
    obtain ⟨ι',μ',x,w',hx,hi',hm,_,hinv,hv⟩:=uc (aF:=S'.H.next) fy.inv (fy.inv.nx S'.H.next (Nat.le_refl _)) fy.env hi ah cE
    exact NF (fun _=>trivial) rfl ho hw (od hi) hx (hn _ _ _ _ _ (fy.put hd hi' hm hinv hv) hk)
   ·obtain ⟨ι', Y5⟩ := fy.cl hu
    exact key Y5 hrun
theorem xY {ops : Array Oper} {Q : Exit → Act → World → Prop} {K : St → Prop} (hend : Next P N Y K (Q .normal)) {os : List Oper} {is : List dB} {k : Nat} (hi : eA P N ops os = some is)
  (hk:∀j,os[j]?=ops[k+j]?) {S:St} {a:Act} {w:World} {ι:aA} {μ:Mu} (hR:iH P N Y ι μ S a w) (hK:ef (fY P N out base) is S K):wpOpsIn Y.F 0 P ops Q (List.range' k os.length) a w:=by
 have:=ue (Q:=Q) (rest:=[]) (fun ι μ S a w hR hK=>hend ι μ S a w hR hK) hi (fun j _=>hk j) hR hK
 rwa [List.append_nil] at this
end
end Go.AM
end
section
namespace Go.AM
section
variable {P:Program} {N:Nat} {Y:Ctx} {ι ι':aA} {μ μ':Mu} {H:aK} {w w':World} {out:Option Nat} {base:Nat}
theorem pW {α : Type} {F : Fence} {n : Nat} {c : Code} {Q : Exit → Act → World → Prop} (I : α → Act → World → Prop) (m : α → Nat) {x : α} {a : Act} {w : World} (h₀ : I x a w)
  (round:∀x a w,I x a w->c.wpIn F n P (Exit.then (fun a' w'=>∃y,I y a' w'/\m y<m x) Q) a w):(Code.loop c).wpIn F n P Q a w:=by
 intro b k cs hro hb hr
 have key:∀j x a w,m x=j->I x a w ->
   ∃e a' w',Q e a' w'/\ArrivesIn (Machine.fenced P F) P (lone (b.atR a (.code c :: .inLoop c::k)) cs w) b k cs e a' w':=by
  intro j
  induction j using Nat.strongRecOn with
  |_ j ih =>
   intro x a w hn hI
   obtain ⟨e,a₁,w₁,hq,jw⟩:=round x a w hI b (.inLoop c::k) cs hro hb hr
   cases e with
   |normal =>
    obtain ⟨y,hI₁,hlt⟩:=hq
    obtain ⟨e₂,a₂,w₂,hq₂,Tu⟩:=ih (m y) (hn▸hlt) y a₁ w₁ rfl hI₁
    have h0:(lone (b.atR a₁ (.inLoop c::k)) cs w₁).fenced P F:=fenced_calm hb hr rfl
    exact ⟨e₂,a₂,w₂,hq₂,.of_steps (StepsIn.trans jw (.one h0 stepR_inLoop)) Tu⟩
   |exit id=>exact ⟨_,a₁,w₁,hq,.pass (x:=.inLoop c) rfl (fun _ _=>.inl (by simp)) jw⟩
   |goto l=>exact ⟨_,a₁,w₁,hq,.pass (x:=.inLoop c) rfl (fun _ _=>.inl (by simp)) jw⟩
   |ret=>exact ⟨_,a₁,w₁,hq,.pass (x:=.inLoop c) rfl (fun _ _=>.inl (by simp)) jw⟩
   |panic ch=>exact ⟨_,a₁,w₁,hq,.pass (x:=.inLoop c) rfl (fun _ _=>.inl (by simp)) jw⟩
   |outgrown=>exact ⟨_,a₁,w₁,hq,.pass (x:=.inLoop c) rfl (fun _ _=>.inl (by simp)) jw⟩
 obtain ⟨e,a',w',hq,jw⟩:=key _ x a w rfl h₀
 exact ⟨e,a',w',hq,.of_steps (.one (fenced_calm hb hr rfl) stepR_loop) jw⟩
theorem eJ {b:Frame} {a:Act} {k:List Item} {cs:List Frame} {c:Code}:step P (lone (b.atR a (.code (.scope c)::k)) cs w) = .next (lone (b.atR a (.code c :: .inScope c::k)) cs w) :=
 step_lone_go (by simp [stepG,stepG.exec,Frame.atR])
theorem tw {b:Frame} {a:Act} {k:List Item} {cs:List Frame} {c:Code}:step P (lone (b.atR a (.inScope c::k)) cs w) = .next (lone (b.atR a k) cs w) :=
 step_lone_go (by simp [stepG,stepG.exec,Frame.atR])
theorem Ak {F:Fence} {n:Nat} {c:Code} {Q:Exit->Act->World->Prop} {a:Act} {w:World} (h:c.wpIn F n P Q a w) (hg:∀l a w,¬Q (.goto l) a w):(Code.scope c).wpIn F n P Q a w:=by
 intro b k cs hro hb hr
 obtain ⟨e,a₁,w₁,hq,jw⟩:=h b (.inScope c::k) cs hro hb hr
 have h0:∀a w k,(lone (b.atR a (.code (.scope c)::k)) cs w).fenced P F:=fun a w k=>fenced_calm hb hr rfl
 have h1:∀a w k,(lone (b.atR a (.inScope c::k)) cs w).fenced P F:=fun a w k=>fenced_calm hb hr rfl
 cases e with
 |normal=>exact ⟨.normal,a₁,w₁,hq,.head (h0 _ _ _) eJ (StepsIn.trans jw (.one (h1 _ _ _) tw))⟩
 |exit id=>exact ⟨.exit id,a₁,w₁,hq,fun k' hk=>.head (h0 _ _ _) eJ (jw.1 k' (by simp [exitTo,hk])),fun Y6 hk =>
   let ⟨k₁,e1,e2⟩:=jw.2 Y6 (by simp [exitTo,hk]);⟨k₁,e1,.head (h0 _ _ _) eJ e2⟩⟩
 |goto l=>exact absurd hq (hg _ _ _)
 |ret=>exact ⟨_,a₁,w₁,hq,.of_steps (.one (h0 _ _ _) eJ) jw⟩
 |panic ch=>exact ⟨_,a₁,w₁,hq,.of_steps (.one (h0 _ _ _) eJ) jw⟩
 |outgrown=>exact ⟨_,a₁,w₁,hq,.of_steps (b:=b) (k:=k) (cs:=cs) (e:=.outgrown) (.one (h0 _ _ _) eJ) jw⟩
def BR (P:Program) (N:Nat) (out:Option Nat) (base:Nat):Prop:=∀(id:Nat) (ops:Array Oper) (xd J6:List dB),eA P N ops ops.toList=some (xd++J6)->kT (bQ ops) (xd++J6)=true->gq ops=true ->
 (∀i,xd.length<=i->i<xd.length+J6.length->∀j,j<i->j∈(bQ ops).getD i []) ->
 ∀S K,zV (fY P N out base) (bQ ops) xd S (fun S=>ef (fY P N out base) J6 S K)->Ga P N out base (.region id ops true) S fun e S=>match e with | .normal=>K S|_=>False
def BS (P:Program) (N:Nat) (out:Option Nat) (base:Nat):Prop:=∀(id:Nat) (ops:Array Oper) (is:List dB) (c e:Nat),eA P N ops ops.toList=some is->kT (bQ ops) is=true->gq ops=true ->
 S8 (bQ ops) is=some (c,e) ->
 ∀S K,zV (fY P N out base) [] (Fz is c e) S (fun S=>ef (fY P N out base) (FA is c e) S K)->Ga P N out base (.region id ops true) S fun e S=>match e with | .normal=>K S|_=>False
def lZ (P:Program) (N:Nat) (out:Option Nat) (base:Nat):Prop:=BR P N out base/\BS P N out base
theorem iY (gL:lZ P N out base):∀(code:Code) {c:C},pT P N code=some c->∀{S:St} {K:Ex->St->Prop},pU (fY P N out base) c S K->Ga P N out base code S K:=by
 intro code
 induction code with
 |skip => 
  intro c h S K hK Y ι μ a w ho hb hR
  cases h;exact wpIn_skip (Post.of (e':=.normal) hR rfl hK)
 |label l =>
  intro c h S K hK Y ι μ a w ho hb hR
  cases h;exact wpIn_label (Post.of (e':=.normal) hR rfl hK)
 |ret =>
  intro c h S K hK Y ι μ a w ho hb hR
  cases h;exact wpIn_ret (Post.of (e':=.ret) hR rfl hK)
 |exit id =>
  intro c h S K hK Y ι μ a w ho hb hR
  cases h;exact wpIn_exit (Post.of (e':=.exit id) hR rfl hK)
 |goto l=>intro c h;cases h
 |refuse why=>intro c h;cases h
 |scope b ih =>
  intro c h S K hK Y ι μ a w ho hb hR
  refine Ak (ih h hK Y ι μ a w ho hb hR) fun l a w hq=>?_
  obtain ⟨_,_,_,_,_,e',_,he,_⟩:=hq
  cases e'<;>cases he
 |region id ops draw =>
  intro c h S K hK Y ι μ a w ho hb hR
  simp only [pT] at h
  split at h<;>try (cases h;done)
  rename_i is Dl
  cases draw with
  |true =>
   simp only at h
   split at h<;>try (cases h;done)
   rename_i Dm
   cases h
   split at hK
   ·rename_i c e hl
    simp only [pU] at hK
    refine wpIn_mono (gL.2 id ops is c e Dl Dm.1 Dm.2 hl S _ hK Y ι μ a w ho hb hR) fun e a w hp=>?_
    obtain ⟨Y1,hY,ι',μ',S',e',h1,h2,h3⟩:=hp
    cases e'<;>simp at h3
    exact ⟨Y1,hY,ι',μ',S',.normal,h1,h2,h3⟩
   split at hK
   ·rename_i c hl
    simp only [pU] at hK
    unfold Nw at hl
    split at hl<;>try (cases hl;done)
    split at hl<;>try (cases hl;done)
    rename_i hq
    cases hl
    rw [Bool.and_eq_true,decide_eq_true_eq] at hq
    have Gf:(is.take c).length=c:=by simp [hq.2]
    have e:is.take c++is.drop c=is:=List.take_append_drop ..
    refine wpIn_mono (gL.1 id ops (is.take c) (is.drop c) (by rw [e];exact Dl) (by rw [e];exact Dm.1) Dm.2 (fun i hi hi2 j hj=>?_) S _ hK Y ι μ a w ho hb hR) fun e a w hp=>?_
    ·rw [Gf] at hi
     rw [<-List.length_append,e] at hi2
     have:=List.all_eq_true.1 hq.1 i (List.mem_range.2 hi2)
     rw [Bool.or_eq_true,decide_eq_true_eq] at this
     rcases this with h|h
     ·omega
     ·simpa using List.all_eq_true.1 h j (List.mem_range.2 hj)
    ·obtain ⟨Y1, hY, ι', μ', S', e', h1, h2, h3⟩ := hp
     cases e'<;>simp at h3
     exact ⟨Y1,hY,ι',μ',S',.normal,h1,h2,h3⟩
   ·simp only [pU] at hK
    refine wpIn_mono (gL.1 id ops is [] (by rw [List.append_nil];exact Dl) (by rw [List.append_nil];exact Dm.1) Dm.2 (fun i hi hi2=>by simp at hi2;omega) S _ hK Y ι μ a w ho hb hR) fun e a w hp=>?_
    obtain ⟨Y1,hY,ι',μ',S',e',h1,h2,h3⟩:=hp
    cases e'<;>simp at h3
    exact ⟨Y1,hY,ι',μ',S',.normal,h1,h2,h3⟩
  |false =>
   cases h
   simp only [pU] at hK
   refine wpIn_region ?_
   have:=xY (Y:=Y) (Q:=Post P N Y K) (K:=fun S=>K .normal S) (out:=out) (base:=base) (fun ι μ S a w hR hK=>(Post.of (e':=.normal) hR rfl hK)) (k:=0) Dl (fun j=>by simp) hR hK
   rwa [Array.length_toList,<-List.range_eq_range'] at this
 |seq x y SA SC =>
  intro c h S K hK Y ι μ a w ho hb hR
  have h0:=h
  simp only [pT] at h
  split at h<;>try (cases h;done)
  rename_i cx cy hx hy
  split at h
  rotate_left
  next hd hmh =>
   split at h<;>try (cases h;done)
   rename_i bd hbd
   cases h
   rcases hK with hK|⟨ids,u,hu,hK⟩
   ·exact hK x y h0 (by rw [hmh];rfl) Y ι μ a w ho hb hR
   ·obtain ⟨ι', fy⟩ := hR.cl hu
    exact hK x y h0 (by rw [hmh];rfl) Y ι' μ a w ho hb fy
  cases h
  simp only [pU] at hK
  refine wpIn_seq (wpIn_mono (SA hx hK Y ι μ a w ho hb hR) fun e a' w' hp=>?_)
  obtain ⟨Y1,hY,ι',μ',S',e',h1,h2,h3⟩:=hp
  cases e' with
  |normal=>cases h2;exact Aj (SC hy h3) hY ho hb h1
  |exit id=>cases h2;exact ⟨Y1,hY,ι',μ',S',.exit id,h1,rfl,h3⟩
  |ret=>cases h2;exact ⟨Y1,hY,ι',μ',S',.ret,h1,rfl,h3⟩
 |cond c0 x y SA SC =>
  intro c h S K hK Y ι μ a w ho hb hR
  simp only [pT] at h
  split at h<;>try (cases h;done)
  rename_i co cx cy hc hx hy
  cases h
  simp only [pU] at hK
  have rc:=aD hR.env hc
  generalize hg:a.eval c0=cv at rc
  split at hK
  ·rename_i hce; rw [hce] at rc; cases rc
   exact wpIn_cond hg (SA hx hK Y ι μ a w ho hb hR)
  ·rename_i hce; rw [hce] at rc; cases rc
   exact wpIn_cond hg (SC hy hK Y ι μ a w ho hb hR)
  ·rename_i t hce; rw [hce] at rc; cases rc
   obtain ⟨k1,k2⟩:=hK
   have hrw:iH P N Y ι μ (JQ co t S) a w:=by
    cases co with
    |c v=>exact hR
    |m d jL=>exact hR
    |t d =>
     refine ⟨fun i=>?_,hR.sz,hR.inv,hR.ms⟩
     simp only [JQ,JM,iU]
     by_cases hi:d=i
     ·subst hi; rw [if_pos rfl]
      have:=hR.env d
      have e1:get d S.env = .bool t:=hce
      rw [e1] at this
      generalize a.tmps.getD d undef=x at this
      cases this;exact .tf _
     ·rw [if_neg hi];exact hR.env i
   cases t with
   |true=>exact wpIn_cond hg (SA hx (k1 rfl) Y ι μ a w ho hb hrw)
   |false=>exact wpIn_cond hg (SC hy (k2 rfl) Y ι μ a w ho hb hrw)
  ·rename_i t hce; rw [hce] at rc
   cases rc with
   |cb _ b hbt =>
   obtain ⟨k1,k2⟩:=hK
   have hrw:iH P N Y ι μ (JQ co b S) a w:=by
    cases co with
    |c v=>exact hR
    |m d jL=>exact hR
    |t d =>
     refine ⟨fun i=>?_,hR.sz,hR.inv,hR.ms⟩
     simp only [JQ,JM,iU]
     by_cases hi:d=i
     ·subst hi; rw [if_pos rfl]
      have e2:a.tmps.getD d undef = .bool b:=by
       unfold cZ at hc
       split at hc<;>try (cases hc;done)
       ·cases hc;exact hg
       ·split at hc<;>cases hc
      rw [e2];exact .tf _
     ·rw [if_neg hi];exact hR.env i
   cases b with
   |true=>exact wpIn_cond hg (SA hx (k1 (hbt rfl)) Y ι μ a w ho hb hrw)
   |false=>exact wpIn_cond hg (SC hy k2 Y ι μ a w ho hb hrw)
  ·exact hK.elim
 |block id b ih =>
  intro c h S K hK Y ι μ a w ho hb hR
  simp only [pT] at h
  cases hx:pT P N b<;>simp [hx] at h
  subst h
  simp only [pU] at hK
  refine wpIn_block (wpIn_mono (ih hx hK Y ι μ a w ho hb hR) fun e a' w' hp=>?_)
  obtain ⟨Y1,hY,ι',μ',S',e',h1,h2,h3⟩:=hp
  cases e' with
  |normal=>cases h2;exact ⟨Y1,hY,ι',μ',S',.normal,h1,rfl,h3⟩
  |exit id' =>
   cases h2
   simp only [Exit.inBlock]
   simp only at h3
   split at h3
   ·rename_i J7
    rw [if_pos (Nat.eq_of_beq_eq_true J7)]
    exact ⟨Y1,hY,ι',μ',S',.normal,h1,rfl,h3⟩
   ·rename_i J7
    rw [if_neg (fun e=>by subst e;rw [Nat.beq_refl] at J7;cases J7)]
    exact ⟨Y1,hY,ι',μ',S',.exit id',h1,rfl,h3⟩
  |ret=>cases h2;exact ⟨Y1,hY,ι',μ',S',.ret,h1,rfl,h3⟩
 |loop b ih =>
  intro c h S K hK
  simp only [pT] at h
  cases hx:pT P N b<;>simp [hx] at h
  subst h
  rcases hK with hK|⟨ids,u,hu,hK⟩
  ·exact hK b hx
  ·intro Y ι μ a w ho hb hR
   obtain ⟨ι',fy⟩:=hR.cl hu
   exact hK b hx Y ι' μ a w ho hb fy
 |rangeFunc f ps x y SA SC =>
  intro c h S K hK
  simp only [pT] at h
  split at h<;>try (cases h;done)
  rename_i fo cx cy hf hx hy
  cases h
  rcases hK with hK|⟨ids,u,hu,hK⟩
  ·exact hK f ps x y hf rfl hx hy
  ·intro Y ι μ a w ho hb hR
   obtain ⟨ι',fy⟩:=hR.cl hu
   exact hK f ps x y hf rfl hx hy Y ι' μ a w ho hb fy
end
end Go.AM
end
section
namespace Go.AM
def bL:Ar:=aZ (fun _ _ _ _=>False) (fun _ _ _=>False) (fun _ _ _=>False) (fun _ _ _ _=>False) (fun _ _ _ _ _ _=>False) (fun _ _ _=>False) (fun _ _ _ _ _ _=>False)
def BT (ar : Ar) (bl : aj) (g : Bool) (k : Nat) : V → Option V
 | .ptr id off=>match aq id bl with
  |some (.cells cs _)=>match cut off k cs with
   |some vs=>dG g vs
   |none=>none
  |_=>none
 | .bR cs=>match cut 0 k cs with
  |some vs=>dG g vs
  |none=>none
 | .pa id t m=>match aq id bl with
  |some (.arr t' xs _)=>if t=t' then (match xq ar t' xs m 0 with
   |vs=>if vs.length=k then dG g vs else none) else none
  |_=>none
 |_=>none
def pX (ar : Ar) (S : St) : List RV → Option (List V)
 |[]=>some []
 | .t n::r=>match pX ar S r with
  |some vs=>some (get n S.env::vs)
  |none=>none
 | .cell n g k::r=>match BT ar S.H.bl g k (get n S.env) with
  |some v=>match pX ar S r with
   |some vs=>some (v::vs)
   |none=>none
  |none=>none
def o9 : List V → V
 |[v]=>v
 |vs=>.cq vs
def dz : List Nat → aj → Option aj
 |[],bl=>some bl
 |id::r,bl=>match aq id bl with
  |some .gi=>dz r (bH id bl)
  |_=>none
def Dn (ar:Ar) (res:List RV) (tys:List (Option Ty)) (K:V->Prop):Ex->St->Prop:=fun e S=>match e with
 | .exit _=>False
 | .normal=>mb ar res tys K S
 | .ret=>mb ar res tys K S
where mb (ar:Ar) (res:List RV) (tys:List (Option Ty)) (K:V->Prop) (S:St):Prop:=match dz S.ms S.H.bl with
 |some bl=>match pX bL ⟨S.env,⟨S.H.next,bl⟩,[]⟩ res with
  |some vs=>match fin ar bl 8 (o9 (bX tys vs)) with
   |some r=>K r
   |none=>False
  |none=>False
 |none=>False
def vz (res:List RV) (tys:List (Option Ty)) (K:V->aK->Prop):Ex->St->Prop:=fun e S=>match e with
 | .exit _=>False
 | .normal=>mb res tys K S
 | .ret=>mb res tys K S
where mb (res:List RV) (tys:List (Option Ty)) (K:V->aK->Prop) (S:St):Prop:=match dz S.ms S.H.bl with
 |some bl=>match pX bL ⟨S.env,⟨S.H.next,bl⟩,[]⟩ res with
  |some vs=>K (o9 (bX (XQ tys) vs)) ⟨S.H.next,bl⟩
  |none=>False
 |none=>False
section
variable {P : Program} {N : Nat} {Y : Ctx} {ι ι' : aA} {μ μ' : Mu} {H : aK} {w w' : World} {out : Option Nat} {base : Nat}
 {c1:Nat->List V->aK->(V->aK->Prop)->Prop} {c2:Nat->List V->V->Prop} {c3:C->St->(Ex->St->Prop)->Prop}
theorem cN : ∀ {n : Nat} {v : V} {x : Value}, cV n v = true → Rel ι μ v x → Rel ι μ' v x
 |0,v,x,h,_=>by cases h
 |n+1,v,x,h,hr=>by
  have all:∀{cs:List V} {i:Nat} {v:V},cs.all (cV n)=true->cs[i]?=some v->cV n v=true:=fun h hv=>List.all_eq_true.1 h _ (List.mem_of_getElem? hv)
  cases hr<;>simp only [cV] at h<;>try (cases h;done)
  case any=>exact .any _
  case tf=>exact .tf _
  case bool=>exact .bool _
  case int=>exact .int _ _
  case str=>exact .str _
  case ee=>exact .ee
  case cw=>exact .cw
  case ek=>exact .ek
  case dS t xs hd=>exact .dS t xs _ hd
  case bK=>exact .bK _
  case bR cs b o g h1 h2 h3=>exact .bR cs b o g h1 (fun i v hv=>cN (all h hv) (h2 i v hv)) h3
  case ip t x b o us h1 h2=>exact .ip t x b o us h1 h2
  case fn f fs cs xs ys h1 h2 h3 h4 =>
   simp only [Bool.and_eq_true] at h
   exact .fn f fs cs xs ys h1 (fun i v x hv hx=>cN (all h.1 hv) (h2 i v x hv hx)) h3 (fun i v x hv hx=>cN (all h.2 hv) (h4 i v x hv hx))
  case agg cs xs h1 h2 h3=>exact .agg cs xs h1 (fun i v x hv hx=>cN (all h hv) (h2 i v x hv hx)) h3
  case cq cs xs h1 h2=>exact .cq cs xs h1 (fun i v x hv hx=>cN (all h hv) (h2 i v x hv hx))
  case cn t v x hv=>exact .cn t v x (cN h hv)
  case cb c b hc=>exact .cb c b hc
  case dA=>exact .dA
  case iN t xs b o us h1 h2=>exact .iN t xs b o us h1 h2
noncomputable def aA.all (ι:aA) (B:Nat->Prop) (w:World):aA:=by
 classical exact fun b o=>if B b then w.cell? ⟨b,o,none⟩ else ι b o
theorem aA.J8 {ι:aA} {B:Nat->Prop} {w:World} {b o:Nat} (h:B b):ι.all B w b o=w.cell? ⟨b,o,none⟩:=by unfold aA.all;rw [if_pos h]
theorem aA.J9 {ι:aA} {B:Nat->Prop} {w:World} {b o:Nat} (h:¬B b):ι.all B w b o=ι b o:=by unfold aA.all;rw [if_neg h]
theorem aA.Al {ι:aA} {B:Nat->Prop} {w:World} (hr:∀b o x,ι b o=some x->w.cell? ⟨b,o,none⟩=some x) {b o:Nat} {x:Value} (h:ι.all B w b o=some x):w.cell? ⟨b,o,none⟩=some x:=by
 unfold aA.all at h;split at h
 ·exact h
 ·exact hr _ _ _ h
theorem aA.vA (h:∀b o x,ι b o=some x->w.cell? ⟨b,o,none⟩=some x) {B:Nat->Prop}:ι.le (ι.all B w):=fun b o x hx=>by
 unfold aA.all;split
 ·exact h _ _ _ hx
 ·exact hx
theorem fT {g : V → Option V} (hg : ∀ v r x, g v = some r → Rel ι μ v x → Rel ι' μ' r x) : ∀ {cs ds : List V} {xs : List Value}, cM g cs = some ds → aG ι μ cs xs → aG ι' μ' ds xs
 |[],ds,xs,h,hr=>by cases h;rw [hr.of_nil];exact .nil
 |v::r,ds,xs,h,hr=>by
  unfold cM at h
  obtain ⟨x,xs',rfl,h1,h2⟩:=hr.bF
  split at h<;>try (cases h;done)
  rename_i y hy
  split at h<;>try (cases h;done)
  rename_i ys hys
  cases h
  exact .cons (hg _ _ _ hy h1) (fT hg hys h2)
theorem qm {ar:Ar} (hsub:∀{α:Type} (xs:List α) lo n,ar.sub' xs lo n=(xs.drop lo).take n) {bl:aj} {nx:Nat} (hI:Inv P Y ι μ ⟨nx,bl⟩ w) :
  ∀{n:Nat} {v r:V} {x:Value},fin ar bl n v=some r->Rel ι μ v x->Rel (ι.all Y.own w) (fun _=>none) r x
 |0,v,r,x,h,_=>by cases h
 |n+1,v,r,x,h,hr=>by
  have hle:=aA.vA (B:=Y.own) hI.rd
  have Am:∀{L:Loc} {vs:List Value} {fz:Bool} {id:Nat},Mem Y.own ι μ id fz w L vs->Reads (ι.all Y.own w) L.b L.ba vs:=fun hM j v hv=>by
   rw [aA.J8 hM.old]
   exact hM.rangeAt j v hv
  have g:∀v r x,fin ar bl n v=some r->Rel ι μ v x->Rel (ι.all Y.own w) (fun _=>none) r x:=fun v r x h hr=>qm hsub hI h hr
  have conv:∀{cs ds:List V} {xs:Array Value},cM (fin ar bl n) cs=some ds->cs.length=xs.size->(∀(i:Nat) v x,cs[i]?=some v->xs[i]?=some x->Rel ι μ v x)->aG (ι.all Y.own w) (fun _=>none) ds xs.toList :=
   fun hm h1 h2=>fT g hm ⟨by simpa using h1,fun i v x hv hx=>h2 i v x hv (by simpa using hx)⟩
  cases hr<;>simp only [fin] at h<;>try (cases h;done)
  case any=>cases h;exact .any _
  case tf=>cases h;exact .tf _
  case bool=>cases h;exact .bool _
  case int=>cases h;exact .int _ _
  case str=>cases h;exact .str _
  case ee=>cases h;exact .ee
  case cw=>cases h;exact .cw
  case ek=>cases h;exact .ek
  case dS t xs hd=>cases h;exact .dS t xs _ (af.mono (t:=.list t) hle hd)
  case bK=>cases h;exact .bK _
  case sl id t lo m cap L hL h1 h2 h3 =>
   split at h<;>try (cases h;done)
   rename_i t' xs fz hb
   split at h<;>try (cases h;done)
   rename_i e;subst e
   cases h
   rw [hsub]
   have hF:ga (ι.all Y.own w) μ id t xs:=by
    rcases hI.live _ _ hb with ⟨e,hn⟩|⟨L',vs,hM,hR,hl⟩
    ·exact .inl ⟨e,hn⟩
    ·exact .inr ⟨L',vs,hM.mu,Am hM,bu.mono (fun _ _=>af.mono hle) hR,hl⟩
   exact .dS _ _ _ (hF.slice (.sl (ι:=ι) id t lo m cap L hL h1 h2 h3))
  case bO id t lo a =>
   split at h<;>try (cases h;done)
   rename_i t' xs fz hb
   split at h<;>try (cases h;done)
   rename_i e;subst e
   cases h
   rw [hsub]
   exact .dS _ _ _ ⟨a,0,by simp,by simp,.inl (by simp)⟩
  case ptr id off L hL =>
   split at h<;>try (cases h;done)
   rename_i cs fz hb
   split at h<;>try (cases h;done)
   rename_i ds hds
   split at h<;>try (cases h;done)
   rename_i hoff
   cases h
   obtain ⟨L',vs,hM,hR⟩:=hI.live _ _ hb
   rw [hM.mu] at hL;cases hL
   have fy:=fT g hds hR
   have hrd:=Am hM
   refine .bR _ L.b (L.ba+off) (fun i=>vs.getD (off+i) .nilIface) (fun i hi=>?_) (fun i v hv=>?_) (fun i=>?_)
   ·have hlt : off + i < vs.length := by have := fy.1; simp at hi; omega
    have:vs[off+i]?=some (vs.getD (off+i) .nilIface):=by simp [List.getD,hlt]
    rw [Nat.add_assoc];exact hrd _ _ this
   ·have Gg : ds[off + i]? = some v := by simpa using hv
    obtain ⟨y,hy,Tv⟩:=fy.at Gg
    simp only [List.getD,hy,Option.getD_some];exact Tv
   ·by_cases hlt : off + i < vs.length
    ·have : vs.getD (off + i) .nilIface = vs[off + i] := by simp [List.getD, hlt]
     rw [this];exact hM.one _ (List.getElem_mem hlt)
    ·have : vs.getD (off + i) .nilIface = .nilIface := by simp [List.getD, List.getElem?_eq_none (show vs.length ≤ off + i by omega)]
     rw [this];rfl
  case bR cs b o gf h1 h2 h3 =>
   split at h<;>try (cases h;done)
   rename_i hall
   cases h
   exact .bR cs b o gf (fun i hi=>hle _ _ _ (h1 i hi)) (fun i v hv=>(cN (List.all_eq_true.1 hall _ (List.mem_of_getElem? hv)) (h2 i v hv)).mono hle (Mu.le_refl _)) h3
  case ip t y b o us h1 h2=>cases h;exact .ip t y b o us (h1.mono hle) (af.mono hle h2)
  case fn f fs cs xs ys h1 h2 h3 h4 =>
   split at h<;>try (cases h;done)
   rename_i as bs ha hb
   cases h
   have r1:=conv ha h1 h2
   have r2:=conv hb h3 h4
   exact .fn f as bs xs ys (by simpa using r1.1) (fun i v x hv hx=>r1.2 i v x hv (by simpa using hx)) (by simpa using r2.1) (fun i v x hv hx=>r2.2 i v x hv (by simpa using hx))
  case agg cs xs h1 h2 h3 =>
   split at h<;>try (cases h;done)
   rename_i ds hds
   cases h
   have r1:=conv hds h1 h2
   exact .agg ds xs (by simpa using r1.1) (fun i v x hv hx=>r1.2 i v x hv (by simpa using hx)) h3
  case cq cs xs h1 h2 =>
   split at h<;>try (cases h;done)
   rename_i ds hds
   cases h
   have r1:=conv hds h1 h2
   exact .cq ds xs (by simpa using r1.1) (fun i v x hv hx=>r1.2 i v x hv (by simpa using hx))
  case cn t v x hv =>
   split at h<;>try (cases h;done)
   rename_i r' hr'
   cases h
   exact .cn t r' x (g _ _ _ hr' hv)
  case cb c b hc=>cases h;exact .cb c b hc
  case dA=>cases h;exact .dA
  case iN t xs b o us h1 h2=>cases h;exact .iN t xs b o us (h1.mono hle) (bu.mono (fun _ _=>af.mono hle) h2)
  case pa id t m L hL hm =>
   split at h<;>try (cases h;done)
   rename_i t' xs fz hb
   split at h<;>try (cases h;done)
   rename_i e;subst e
   cases h
   rcases hI.live _ _ hb with ⟨e,hn⟩|⟨L',vs,hM,hR,hl⟩
   ·rw [hn] at hL;cases hL
   ·rw [hM.mu] at hL; cases hL
    exact .iN _ _ _ _ vs (Am hM) (bu.mono (fun _ _=>af.mono hle) hR)
end
end Go.AM
end
section
namespace Go.AM
section
variable {P:Program} {N:Nat} {Y:Ctx} {ι ι':aA} {μ μ':Mu} {H:aK} {w w':World} {out:Option Nat} {base:Nat}
theorem Inv.shut {bl:aj} {n id:Nat} {L:Loc} (h:Inv P Y ι μ ⟨n,bl⟩ w) (hb:aq id bl=some .gi) (hL:μ id=some L):Inv P Y ι μ ⟨n,bH id bl⟩ (w.putObj L.b (.deferred none)):=by
 obtain ⟨L',h1,h2,h3⟩:=h.live id _ hb
 rw [hL] at h1;cases h1
 have hlt:L.b<w.heap.size:=(Array.getElem?_eq_some_iff.1 h3).1
 have dj:∀k,k≠L.b->(w.putObj L.b (.deferred none)).heap[k]?=w.heap[k]?:=fun k hk=>World.putObj_heap_other hk
 have hsub:=h.del id
 refine ⟨⟨h.below.os, h.below.tape, h.below.output, by rw [World.putObj_size]; exact h.below.size, fun k hk hx => ?_, h.below.dr, fun k hk => (h.below.maps k hk).trans (by
   by_cases e:k=L.b
   ·subst e;exact .no (fun ms c e=>by rw [h3] at e;cases e)
   ·exact .eq (dj k e))⟩,h.i0,h.iB,fun b o x hx=>?_,h.m0,h.nx,fun i B hB=>?_,hsub.inj,hsub.lt,h.gl⟩
 ·rw [dj k (Ctx.jZ h2 hk hx)];exact h.below.block k hk hx
 ·have := h.rd b o x hx
  have hne:b≠L.b:=fun e=>by subst e;simp [World.cell?,h3] at this
  unfold World.cell? at this ⊢
  simp only at this ⊢
  rw [dj b hne];exact this
 ·simp only at hB
  rw [bf] at hB
  split at hB
  ·cases hB
  ·rename_i e
   refine (h.live i B hB).mono (aA.le_refl _) (Mu.le_refl _) (fun h=>h) (fun L' hL'=>dj _ (fun e'=>e (h.inj i id B _ L' L hB hb hL' hL e'))) (fun _ _ h=>h)
theorem Gh {ar:Ar} {bl:aj} {g:Bool} {k:Nat} {v y:V} (h:BT ar bl g k v=some y):cg ar (.load g k (.c v)) [] bl 0=some ([],y,[]):=by
 unfold BT at h
 simp only [cg,O.ev]
 split at h<;>try (cases h;done)
 ·split at h <;> try (cases h; done)
  rename_i hb
  split at h<;>try (cases h;done)
  rename_i hc
  simp only [hb,hc,h]
 ·split at h <;> try (cases h; done)
  rename_i hc
  simp only [hc,h]
 ·split at h <;> try (cases h; done)
  rename_i hb
  split at h<;>try (cases h;done)
  rename_i e
  subst e
  dsimp only at h
  split at h<;>try (cases h;done)
  rename_i hk
  simp only [hb,if_true,if_pos hk,h]
def rz (tmps : Array Value) : ResultVar → Sem Value
 | .tmp t=>pure (tmps.getD t undef)
 | .cell a t=>do loadVar t (<-asAddr (tmps.getD a undef))
theorem An (fn : Func) (tmps : Array Value) : results fn tmps = (do
  let vs <-fn.results.mapM (rz tmps)
  pure (if h:vs.size=1 then vs[0] else .tuple vs)):=rfl
theorem rA (hI:Inv P Y ι μ H w) {env:List (Nat×V)} {ms:List Nat} {tmps:Array Value} (he:fG ι μ env tmps):∀{rs:List ResultVar} {res:List RV} {vs:List V},FB P rs=some res->pX bL ⟨env,H,ms⟩ res=some vs ->
  ∃xs,(rs.mapM (rz tmps)).run P w = .ok xs w/\aG ι μ vs xs
 |[],res,vs,h,hv=>by cases h;cases hv;exact ⟨[],rfl,.nil⟩
 | .tmp t::rs,res,vs,h,hv=>by
  simp only [FB] at h
  cases hr:FB P rs<;>simp [hr] at h
  subst h
  simp only [pX] at hv
  split at hv<;>try (cases hv;done)
  rename_i vs' hvs
  cases hv
  obtain ⟨xs,h1,h2⟩:=rA hI he hr hvs
  exact ⟨tmps.getD t undef::xs,by simp only [List.mapM_cons,rz,Sem.run_bind,Sem.run_pure,Result.andThen_ok,h1],.cons (he t) h2⟩
 | .cell a t::rs,res,vs,h,hv=>by
  simp only [FB] at h
  split at h<;>try (cases h;done)
  rename_i k g rs' hk hg hr
  cases h
  simp only [pX] at hv
  split at hv<;>try (cases hv;done)
  rename_i v hl
  split at hv<;>try (cases hv;done)
  rename_i vs' hvs
  cases hv
  obtain ⟨xs,h1,h2⟩:=rA hI he hr hvs
  have ah:=Gh (ar:=bL) hl
  obtain ⟨_,y,hy,Tv⟩:=qM (env:=[]) (x:=.c (get a env)) hI hk hg (he a) ah (fun b hb=>by cases hb)
  have hp:∃ad,tmps.getD a undef = .pointer (some ad):=by
   have:=he a
   unfold BT at hl
   split at hl<;>try (cases hl;done)
   ·rename_i hge;rw [hge] at this;generalize tmps.getD a undef=x at this;cases this;exact ⟨_,rfl⟩
   ·rename_i hge;rw [hge] at this;generalize tmps.getD a undef=x at this;cases this;exact ⟨_,rfl⟩
   ·rename_i hge;rw [hge] at this;generalize tmps.getD a undef=x at this;cases this;exact ⟨_,rfl⟩
  obtain ⟨ad,hp⟩:=hp
  rw [hp] at hy
  have hy':(loadVar t ad).run P w = .ok y w:=by simpa [Instr.loadAt,Instr.sureAddr] using hy
  exact ⟨y::xs,by simp only [List.mapM_cons,rz,Sem.run_bind,hp,asAddr,Sem.run_pure,Result.andThen_ok,hy',h1],.cons Tv h2⟩
theorem xZ (hI : Inv P Y ι μ H w) {env : List (Nat × V)} {ms : List Nat} {tmps : Array Value} (he : fG ι μ env tmps) {func : Func} {res : List RV} {vs : List V} (h : FB P func.results.toList = some res)
  (hv:pX bL ⟨env,H,ms⟩ res=some vs):∃x,(results func tmps).run P w = .ok x w/\∀tys,Rel ι μ (o9 (bX tys vs)) x:=by
 obtain ⟨xs,h1,h2⟩:=rA hI he h hv
 have hm:(func.results.mapM (rz tmps)).run P w = .ok xs.toArray w:=by
  rw [Array.mapM_eq_mapM_toList]
  simp [h1]
 refine ⟨if h:xs.toArray.size=1 then xs.toArray[0] else .tuple xs.toArray,?_,?_⟩
 ·rw [An, Sem.run_bind, hm]
  rfl
 ·intro tys
  replace h2:=gw (ts:=tys) h2
  generalize bX tys vs=vs at h2
  match xs,vs,h2 with
  |[],vs,h2 => 
   have:vs=[]:=List.length_eq_zero_iff.1 h2.1
   subst this
   exact .cq _ _ rfl (fun i v x hv=>by simp at hv)
  |[x],[v],h2 => 
   obtain ⟨x',r,e,h3,_⟩:=h2.bF
   cases e;exact h3
  |x::y::r,v::v'::r',h2 =>
   rw [dif_neg (by simp)]
   exact .cq _ _ (by simpa using h2.1) (fun i v x hv hx=>h2.2 i v x hv (by simpa using hx))
  |[x],[],h2=>exact absurd h2.1 (by simp)
  |[x],v::v'::r',h2=>exact absurd h2.1 (by simp)
  |x::y::r,[],h2=>exact absurd h2.1 (by simp)
  |x::y::r,[v],h2=>exact absurd h2.1 (by simp)
theorem Inv.taken (h:Inv P Y ι μ H w) {r:Nat} (hr:w.heap[r]?=some (.deferred (some []))) (hown:Y.own r) (hne:∀id B L,aq id H.bl=some B->μ id=some L->L.b≠r) (o:Obj):Inv P Y ι μ H (w.putObj r o):=by
 have dj:∀k,k≠r->(w.putObj r o).heap[k]?=w.heap[k]?:=fun k hk=>World.putObj_heap_other hk
 refine ⟨⟨h.below.os,h.below.tape,h.below.output,by rw [World.putObj_size];exact h.below.size,fun k hk hx=>?_,h.below.dr,fun k hk=>(h.below.maps k hk).trans ?_⟩,h.i0,h.iB,fun b o2 x hx=>?_,h.m0,h.nx,fun i B hB=>?_,h.inj,h.lt,h.gl⟩
 ·rw [dj k (Ctx.jZ hown hk hx)];exact h.below.block k hk hx
 ·by_cases e : k = r
  ·subst e;rw [hr];exact .no fun _ _ e=>by cases e
  ·exact .eq (dj k e)
 ·have := h.rd b o2 x hx
  have hne:b≠r:=fun e=>by subst e;simp [World.cell?,hr] at this
  unfold World.cell? at this ⊢
  simp only at this ⊢
  rw [dj b hne];exact this
 ·exact (h.live i B hB).mono (aA.le_refl _) (Mu.le_refl _) (fun h=>h) (fun L' hL'=>dj _ (hne i B L' hB hL')) (fun _ _ h=>h)
theorem Ao {func:Func} {R:Ending->World->Prop} {tmps:Array Value} {Y Y1:Ctx} (hY:Ext P Y Y1) (hid:Y.hid=[]):∀{H:aK} {w:World},Inv P Y1 ι μ H w ->
  (∀w',Inv P Y ι μ H w'->LeavesInM Fence.wide 0 P func tmps R [] .returning w')->LeavesInM Fence.wide 0 P func tmps R (Y1.hid.map coll) .returning w:=by
 induction hY with
 |refl=>intro H w hI h;rw [hid];exact h w hI
 |step hY ro hI0 hr own ih =>
  rename_i Y1 ι0 μ0 H0 w0 r
  intro H w hI h
  have hlt:=(Array.getElem?_eq_some_iff.1 hr).1
  have FJ:w.heap[r]?=some (.deferred (some [])):=(hI.below.block r hlt fun h=>h.2 rfl).trans hr
  have hne:∀id B L,aq id H.bl=some B->μ id=some L->L.b≠r:=fun id B L hB hL e=>by
   rcases ((hI.live id B hB).loc hL).1 with h|h
   ·have : w0.heap.size ≤ L.b := h
    omega
   ·exact h.2 e
  have lV:=(hI0.OW hI).taken FJ own hne (.deferred none)
  exact ⟨by simp [coll],.inl ⟨r,_,rfl,run_takeDeferred FJ,ih lV h⟩⟩
theorem oe {func:Func} {res:List RV} (hres:FB P func.results.toList=some res) {R:Ending->World->Prop} {tmps:Array Value} {env:List (Nat×V)} {n:Nat} {vs:List V} {Y Y1:Ctx} (hY:Ext P Y Y1) (hid:Y.hid=[]) :
  ∀{ms:List Nat} {bl bG:aj} {ds:List Deferred} {w:World},Inv P Y1 ι μ ⟨n,bl⟩ w->fG ι μ env tmps->jz Y1.hid μ ms ds->dz ms bl=some bG->pX bL ⟨env,⟨n,bG⟩,[]⟩ res=some vs ->
   (∀x w',Inv P Y ι μ ⟨n,bG⟩ w'->(∀tys,Rel ι μ (o9 (bX tys vs)) x)->R (.returned x) w')->LeavesInM Fence.wide 0 P func tmps R ds .returning w
 |[],bl,bG,ds,w,hI,he,hm,hs,hv,hR=>by
  cases hs
  rw [show ds=Y1.hid.map coll from hm]
  refine Ao hY hid hI fun w' Jy=>?_
  obtain ⟨x,h1,h2⟩:=xZ Jy he hres hv
  exact ⟨x,h1,hR x w' Jy h2⟩
 |id::ms,bl,bG,ds,w,hI,he,⟨L,d,ds',e1,hL,e2,hm⟩,hs,hv,hR=>by
  subst e1;subst e2
  unfold dz at hs
  split at hs<;>try (cases hs;done)
  rename_i hb
  obtain ⟨L',h1,h2,h3⟩:=hI.live id _ hb
  rw [hL] at h1;cases h1
  exact ⟨by simp,.inl ⟨L.b,_,rfl,run_takeDeferred h3,oe hres hY hid (hI.shut hb hL) he hm hs hv hR⟩⟩
theorem rB : ∀ {vs : List V} {n t : Nat}, get t (args n vs) = if n ≤ t then vs.getD (t - n) .any else .any
 |[],n,t=>by simp [args,get]
 |v::r,n,t=>by
  rw [args,iT]
  by_cases h:n=t
  ·subst h;simp
  ·rw [if_neg h, rB]
   by_cases h2:n<=t
   ·rw [if_pos (by omega),if_pos h2,show t - n=(t - (n+1))+1 by omega];rfl
   ·rw [if_neg (by omega),if_neg h2]
theorem ai {f:Nat} {func:Func} (hf:P.funcs[f]?=some func) (hb:func.body.isSome=true) (hn:(func.name == "runtime.NumGoroutine")=false):fI P f:=fun args w=>by
 have h1:¬func.body=none:=by cases h:func.body<;>simp_all
 have h2:¬func.name = "runtime.NumGoroutine" := by simpa using hn
 simp [callFunc,hf,h1,h2]
theorem BU {f : Nat} {func : Func} {fn : Fn} (hf : P.funcs[f]? = some func) (jA : cD P func = some fn) (gL : lZ P fn.N none base) {vs : List V} {H : aK} (hlen : vs.length ≤ fn.np) {Q : Ex → St → Prop}
  (h:pU (fY P fn.N none base) fn.body ⟨args 0 vs,H,[]⟩ Q) {Y:Ctx} {ι:aA} {μ:Mu} {w:World} {as:Array Value} (hro:Y.ro=none) (Y7:Y.hid=[]) (hbase:Y.base base) (hI:Inv P Y ι μ H w) (hr:aG ι μ vs as.toList)
  {R:Ending->World->Prop} (hR:∀Y1 ι' μ' S' a' w' e',Ext P Y Y1->iH P fn.N Y1 ι' μ' S' a' w'->Q e' S'->(e' = .normal\/e' = .ret)/\LeavesInM Fence.wide 0 P func a'.tmps R a'.defers .returning w') :
  CallsIn Fence.wide 0 P f as w R:=by
 unfold cD at jA
 split at jA<;>try (cases jA;done)
 rename_i c hb
 split at jA<;>try (cases jA;done)
 rename_i b rs hc X2
 split at jA<;>try (cases jA;done)
 rename_i hnp
 cases jA
 simp only at *
 have hF:Y.F=Fence.wide:=by simp [Ctx.F,hro,Fence.wide]
 have hsize:as.size=vs.length:=by have:=hr.1;simp at this;omega
 have pV:iH P func.ntmps Y ι μ ⟨args 0 vs,H,[]⟩ { tmps:=as++Array.replicate (func.ntmps - as.size) undef,defers:=[] } w:=by
  refine ⟨fun t=>?_,by simp;omega,hI,by rw [Y7];rfl⟩
  simp only [rB,Nat.zero_le,if_true,Nat.sub_zero]
  by_cases ht:t<vs.length
  ·have hv : vs[t]? = some (vs.getD t .any) := by simp [List.getD, ht]
   obtain ⟨x,hx,hrx⟩:=hr.at hv
   have:(as++Array.replicate (func.ntmps - as.size) undef).getD t undef=x:=by
    rw [Array.getD_eq_getD_getElem?,Array.getElem?_append_left (by omega)]
    simp at hx;simp [hx]
   rw [this];exact hrx
  ·have : vs.getD t .any = .any := by simp [List.getD, List.getElem?_eq_none (show vs.length ≤ t by omega)]
   rw [this];exact .any _
 refine callsIn_of_wp_marks hf hb trivial ?_
 have hwp:=iY gL c hc h Y ι μ _ w hro hbase pV
 rw [hF] at hwp
 refine wpIn_mono hwp fun e a' w' hp=>?_
 obtain ⟨Y1,hY,ι',μ',S',e',h1,h2,h3⟩:=hp
 obtain ⟨h4,h5⟩:=hR Y1 ι' μ' S' a' w' e' hY h1 h3
 rcases h4 with rfl|rfl<;>cases h2<;>exact h5
end
end Go.AM
end
section
namespace Go.AM
def iZ (π : List Nat) : Nat → V → Option V
 |0,_=>none
 |n+1,v=>match v with
  | .sl id t lo m=>match π[id]? with
   |some i=>some (.sl i t lo m)
   |none=>none
  | .ptr id o=>match π[id]? with
   |some i=>some (.ptr i o)
   |none=>none
  | .ep id t j p=>match π[id]? with
   |some i=>some (.ep i t j p)
   |none=>none
  | .yl id=>match π[id]? with
   |some i=>some (.yl i)
   |none=>none
  | .mp id=>match π[id]? with
   |some i=>some (.mp i)
   |none=>none
  | .pa id t m=>match π[id]? with
   |some i=>some (.pa i t m)
   |none=>none
  | .sp _ _ _=>none
  | .bR cs=>match cM (iZ π n) cs with
   |some cs=>some (.bR cs)
   |none=>none
  | .fn f a b=>match cM (iZ π n) a with
   |some a=>match cM (iZ π n) b with
    |some b=>some (.fn f a b)
    |none=>none
   |none=>none
  | .agg cs=>match cM (iZ π n) cs with
   |some cs=>some (.agg cs)
   |none=>none
  | .cq cs=>match cM (iZ π n) cs with
   |some cs=>some (.cq cs)
   |none=>none
  | .cn t v=>match iZ π n v with
   |some v=>some (.cn t v)
   |none=>none
  |v=>some v
def Dp (π : List Nat) : js → Option js
 | .cells cs fz=>match cM (iZ π 8) cs with
  |some cs=>some (.cells cs fz)
  |none=>none
 | .arr t xs fz=>some (.arr t xs fz)
 | .gi=>some .gi
 | .map kt kg vt vg es=>some (.map kt kg vt vg es)
 | .loop _ _ _ _ _ _ _ _=>none
 | .jo _ _ _ _ _=>none
section
variable {P:Program} {N:Nat} {Y:Ctx} {ι ι':aA} {μ μ':Mu} {H:aK} {w w':World} {out:Option Nat} {base:Nat} {π:List Nat}
def Mu.jq (μ:Mu) (π:List Nat):Mu:=fun id=>(π[id]?).bind μ
theorem Ap {f:Nat} {vs:List V} {r:V} (h:gY P f vs r) (hd:vs.all (cV 8)=true) {K:V->aK->Prop} (hK:K r H):eI P f vs H K:=by
 refine ⟨h.1,fun Y ι μ w as hI hr=>?_⟩
 have hr':aG ι (fun _=>none) vs as.toList:=⟨hr.1,fun i v x hv hx=>cN (List.all_eq_true.1 hd _ (List.mem_of_getElem? hv)) (hr.2 i v x hv hx)⟩
 refine (h.2 ι w as hI.jL hI.rd hr').mono ?_
 rintro e w' ⟨v,ι',rfl,hi,Gi,hrd,gr,vw⟩
 refine ⟨v,ι',μ,r,H,rfl,hi,Mu.le_refl _,?_,vw.mono (aA.le_refl _) (fun _ _ h=>by cases h),hK⟩
 have hsz:=hI.below.size
 refine ⟨hI.below.then gr,aA.le_trans hI.i0 hi,fun b o hb hx=>by rw [Gi b o (by omega)];exact hI.iB b o hb hx,hrd,hI.m0,hI.nx,fun id B hB=>?_,hI.inj,hI.lt,hI.gl⟩
 have iq:=hI.live id B hB
 refine iq.mono hi (Mu.le_refl _) (fun h=>h) (fun L hL=>gr.b.block _ (iq.loc hL).2) (fun L hL ho o=>?_)
 rw [Gi _ _ (iq.loc hL).2];exact ho o
end
end Go.AM
end
section
namespace Go.AM
def Fc (e e':List (Nat×V)):Prop:=∀t,get t e=get t e'
def OY (b b':aj):Prop:=∀id,aq id b=aq id b'
theorem Gj {x:O} {env env':List (Nat×V)} (h:∀t∈BB x,get t env=get t env'):x.ev env=x.ev env':=by
  cases x with
  |t n=>exact h n (by simp [BB])
  |c v=>rfl
  |m n jL=>simp only [O.ev,h n (by simp [BB])]
section
variable {ar:Ar} {bl bG:aj}
theorem eD : ∀ {t : Ty} {vs : List V}, (∀ v ∈ vs, ∀ id ∈ o6 v, aq id bl = aq id bG) → bk ar bl t vs = bk ar bG t vs ∧ ∀ x u r, bk ar bl t vs = some (x, u, r) → ∀ v ∈ r, v ∈ vs
  | .unit,vs,h=>⟨by simp [bk],fun x u r e v hv=>by simp [bk] at e;obtain ⟨_,_,rfl⟩:=e;exact hv⟩
  | .prod a b,vs,h=>by
    obtain ⟨h1,h2⟩:=eD (t:=a) h
    constructor
    · simp only [bk]
      rw [<-h1]
      split
      · rename_i x u r hr
        obtain ⟨h3,_⟩:=eD (t:=b) (vs:=r) (fun v hv=>h v (h2 _ _ _ hr v hv))
        rw [h3]
      · rfl
    · intro x u r e v hv
      simp only [bk] at e
      split at e<;>try (cases e;done)
      rename_i x' u' r' hr
      split at e<;>try (cases e;done)
      rename_i y u'' r'' hr'
      cases e
      obtain ⟨_,h4⟩:=eD (t:=b) (vs:=r') (fun v hv=>h v (h2 _ _ _ hr v hv))
      exact h2 _ _ _ hr v (h4 _ _ _ hr' v hv)
  | .bool,[],h=>⟨rfl,fun x u r e=>by cases e⟩
  | .str,[],h=>⟨rfl,fun x u r e=>by cases e⟩
  | .int _,[],h=>⟨rfl,fun x u r e=>by cases e⟩
  | .list _,[],h=>⟨rfl,fun x u r e=>by cases e⟩
  | .cn _ _ _,[],h=>⟨rfl,fun x u r e=>by cases e⟩
  | .cn d g t,c::cs,h=>by
    cases c
    case cn d' v =>
      refine ⟨by simp only [bk],fun x u r e=>?_⟩
      simp only [bk] at e
      repeat' split at e
      all_goals first|(cases e;done)|(cases e;exact fun v hv=>List.mem_cons_of_mem _ hv)
    all_goals
      refine ⟨rfl,fun x u r e=>?_⟩
      cases e
  | .bool,c::cs,h=>by
    cases c<;>(refine ⟨rfl,fun x u r e=>?_⟩;first|(cases e;done)|(cases e;exact fun v hv=>List.mem_cons_of_mem _ hv))
  | .str,c::cs,h=>by
    cases c<;>(refine ⟨rfl,fun x u r e=>?_⟩;first|(cases e;done)|(cases e;exact fun v hv=>List.mem_cons_of_mem _ hv))
  | .int k,c::cs,h=>by
    cases c<;>(refine ⟨rfl,fun x u r e=>?_⟩;first|(cases e;done)|(simp only [bk] at e;split at e<;>first|(cases e;done)|(cases e;exact fun v hv=>List.mem_cons_of_mem _ hv)))
  | .list t,c::cs,h=>by
    cases c
    case sl id t' lo n =>
      have hb:=h _ (List.mem_cons_self ..) id (by simp [o6])
      refine ⟨by simp only [bk,hb],fun x u r e=>?_⟩
      simp only [bk] at e
      repeat' split at e
      all_goals first|(cases e;done)|(cases e;exact fun v hv=>List.mem_cons_of_mem _ hv)
    all_goals
      refine ⟨rfl,fun x u r e=>?_⟩
      first
        |(cases e;done)
        | (simp only [bk] at e; repeat' split at e
           all_goals first|(cases e;done)|(cases e;exact fun v hv=>List.mem_cons_of_mem _ hv))
theorem gM {v:V} {cs:List V} (h:v.cells?=some cs):∀c∈cs,∀id∈o6 c,id∈lT v:=by
  intro c hc id hid
  cases v<;>simp only [V.cells?] at h<;>cases h
  case agg=>simp only [lT,List.mem_flatMap];exact ⟨c,hc,hid⟩
  all_goals (simp at hc;subst hc;exact hid)
theorem rC {t : Ty} : ∀ {vs : List V}, (∀ id ∈ vs.flatMap lT, aq id bl = aq id bG) → nY ar bl t vs = nY ar bG t vs
  |[],_=>rfl
  |v::r,h=>by
    have ih:=rC (t:=t) (vs:=r) (fun id hid=>h id (by simp only [List.flatMap_cons,List.mem_append];exact .inr hid))
    simp only [nY]
    cases hc:v.cells? with
    |none=>rfl
    |some cs =>
      have:=(eD (ar:=ar) (t:=t) (vs:=cs) (fun c Tc id hid=>h id (by simp only [List.flatMap_cons,List.mem_append];exact .inl (gM hc c Tc id hid)))).1
      simp only [this,ih]
theorem jB : ∀ {t : Ty} {x : t.den} {p : List Bool} {vs : List V}, (∀ v ∈ vs, ∀ id ∈ o6 v, aq id bl = aq id bG) → ck ar bl t x p vs = ck ar bG t x p vs
  |t,x,[],vs,h=>by
    have:=(eD (ar:=ar) (t:=t) h).1
    cases t<;>simp only [ck,this]
  | .prod a b,x,false::p,vs,h=>by simp only [ck,jB (t:=a) h]
  | .prod a b,x,true::p,vs,h=>by simp only [ck,jB (t:=b) h]
  | .unit,_,_::_,_,h=>by simp [ck]
  | .bool,_,_::_,_,h=>by simp [ck]
  | .str,_,_::_,_,h=>by simp [ck]
  | .int _,_,_::_,_,h=>by simp [ck]
  | .list _,_,_::_,_,h=>by simp [ck]
  | .cn _ _ _,_,_::_,_,h=>by simp [ck]
theorem mc {t : Ty} : ∀ {n : Nat} {vs : List V}, (∀ v ∈ vs, ∀ id ∈ o6 v, aq id bl = aq id bG) → iQ ar bl t n vs = iQ ar bG t n vs
  |0,vs,h=>by cases vs<;>rfl
  |n+1,vs,h=>by
    obtain ⟨h1,h2⟩:=eD (ar:=ar) (t:=t) h
    simp only [iQ]
    rw [<-h1]
    split
    · rename_i x u r hr
      rw [mc (n:=n) (vs:=r) (fun v hv=>h v (h2 _ _ _ hr v hv))]
    · rfl
theorem pe {t:Ty} {v:V} (h:∀id∈o6 v,aq id bl=aq id bG):elems ar bl t v=elems ar bG t v:=by
  cases v<;>try rfl
  rename_i id t' lo n
  simp only [elems,h id (by simp [o6])]
theorem Dq {e:w8} {vs:List V} {aF:Nat} (h:∀id∈vs.flatMap lT,aq id bl=aq id bG):iO ar e vs bl aF=iO ar e vs bG aF:=by
  have one:∀{v:V} {r:List V},vs=v::r->∀id∈lT v,aq id bl=aq id bG:=fun hv id hid=>h id (by subst hv;simp [hid])
  cases e<;>simp only [iO]
  case text =>
    split
    · rename_i v;rw [pe (fun id hid=>one rfl id (by cases v<;>simp_all [lT,o6]))]
    · rfl
  case clear t =>
    split
    · rename_i id t' lo n;rw [one rfl id (by simp [lT,o6])]
    · rfl
  case zN kt kg vt vg ok =>
    split
    · rename_i m k
      split
      · rename_i x _
        cases m<;>try rfl
        rename_i id
        simp only [tJ,one rfl id (by simp [lT,o6])]
      · rfl
    · rfl
  case ta kt kg vt vg =>
    split
    · rename_i id k v
      simp only [tJ,one rfl id (by simp [lT,o6])]
    · rfl
  case JG =>
    split
    · rename_i id;rw [one rfl id (by simp [lT,o6])]
    · rfl
    · rfl
  case JH n =>
    split
    · rename_i id _ _;rw [one rfl id (by simp [lT,o6])]
    · rfl
  case JI t n =>
    split
    · rename_i cs
      rw [mc (fun v hv id hid=>one rfl id (by simp only [lT,List.mem_flatMap];exact ⟨v,hv,hid⟩))]
    · rfl
theorem pg {env env' : List (Nat × V)} : ∀ {ps : List (Nat × Nat × O)} {cs : List V}, (∀ x ∈ ps.map (·.2.2), x.ev env = x.ev env') → oY ps env cs = oY ps env' cs
  |[],_,_=>rfl
  |(off,k,x)::r,cs,h=>by
    simp only [oY,h x (by simp)]
    cases (x.ev env').cells? with
    |none=>rfl
    |some vs =>
      simp only
      split
      · cases mN off vs cs with
        |none=>rfl
        |some cs'=>exact pg (fun y hy=>h y (by simp at hy ⊢;exact .inr hy))
      · rfl
theorem dm {env env':List (Nat×V)} {xs:List O} (h:∀x∈xs,x.ev env=x.ev env'):xs.map (·.ev env)=xs.map (·.ev env'):=List.map_congr_left h
theorem mY {env env':List (Nat×V)} {d:Int} {x:Option O} (h:∀y,x=some y->y.ev env=y.ev env'):bT env d x=bT env' d x:=by
  cases x with
  |none=>rfl
  |some y=>simp only [bT,h y rfl]
theorem Dr {i:I} {env env':List (Nat×V)} {aF:Nat} (he:∀x∈i.os,x.ev env=x.ev env') (hb:∀id∈jT i env,aq id bl=aq id bG) :
    cg ar i env bl aF=cg ar i env' bG aF/\jT i env=jT i env':=by
  cases i
  case load g k x =>
    have hx:=he x (by simp [I.os])
    simp only [jT,hx] at hb ⊢
    refine ⟨?_,trivial⟩
    simp only [cg,hx]
    generalize x.ev env'=v at hb ⊢
    cases v<;>try rfl
    all_goals (simp only [hb _ (by simp only [o6];exact List.mem_singleton_self _)])
  case store k a x =>
    have ha:=he a (by simp [I.os])
    have hx:=he x (by simp [I.os])
    simp only [jT,hx,ha,List.mem_append] at hb ⊢
    refine ⟨?_,trivial⟩
    simp only [cg,hx,ha]
    generalize a.ev env'=v at hb ⊢
    generalize x.ev env'=y at hb ⊢
    cases hc:y.cells? with
    |none=>rfl
    |some vs =>
      have hsp:∀(t:Ty) (z:t.den) p,ck ar bl t z p vs=ck ar bG t z p vs:=fun t z p=>jB (fun v hv id hid=>hb id (.inr (gM hc v hv id hid)))
      cases v<;>try rfl
      case ptr id o=>simp only [hb id (.inl (by simp [o6]))]
      case ep id t i p=>simp only [hb id (.inl (by simp [o6])),hsp]
      case pa id t n=>simp only [hb id (.inl (by simp [o6])),fun t n=>mc (ar:=ar) (t:=t) (n:=n) (vs:=vs) (fun v hv id hid=>hb id (.inr (gM hc v hv id hid)))]
  case dy t xs =>
    have hx:=dm (xs:=xs) (fun x hx=>he x (by simpa [I.os] using hx))
    simp only [jT,hx] at hb ⊢
    exact ⟨by simp only [cg,hx,rC hb],trivial⟩
  case append dw x y =>
    have hx:=he x (by simp [I.os])
    have hy:=he y (by simp [I.os])
    simp only [jT,hx,hy,List.mem_append] at hb ⊢
    refine ⟨?_,trivial⟩
    simp only [cg,hx,hy]
    generalize x.ev env'=v at hb ⊢
    generalize y.ev env'=z at hb ⊢
    have hel:∀t,elems ar bl t z=elems ar bG t z:=fun t=>pe (fun id hid=>hb id (.inr hid))
    cases v<;>try rfl
    case bK=>simp only [hel]
    case sl id t lo n=>simp only [hel,hb id (.inl (by simp [o6]))]
  case ex e xs =>
    have hx:=dm (xs:=xs) (fun x hx=>he x (by simpa [I.os] using hx))
    simp only [jT,hx] at hb ⊢
    exact ⟨by simp only [cg,hx];exact Dq hb,trivial⟩
  case build z ps =>
    exact ⟨by simp only [cg,pg (ps:=ps) (fun x hx=>he x (by simpa [I.os] using hx))],rfl⟩
  case nV f a b =>
    exact ⟨by simp only [cg,dm (xs:=a) (fun x hx=>he x (by simp [I.os,hx])),dm (xs:=b) (fun x hx=>he x (by simp [I.os,hx]))],rfl⟩
  case cF mx x ys =>
    exact ⟨by simp only [cg,he x (by simp [I.os]),dm (xs:=ys) (fun y hy=>he y (by simp [I.os,hy]))],rfl⟩
  case slice dw x lo hi mx =>
    refine ⟨?_,rfl⟩
    have hx:=he x (by simp [I.os])
    have h1:∀d,bT env d lo=bT env' d lo:=fun d=>mY fun y hy=>he y (by simp [I.os,hy])
    have h2:∀d,bT env d hi=bT env' d hi:=fun d=>mY fun y hy=>he y (by simp [I.os,hy])
    cases mx with
    |none=>simp only [cg,hx,h1,h2]
    |some m =>
      have hm:=he m (by simp [I.os])
      cases hi with
      |none=>simp only [cg]
      |some h=>simp only [cg,hx,h1,hm,he h (by simp [I.os])]
  case bin op x y=>exact ⟨by simp only [cg,he x (by simp [I.os]),he y (by simp [I.os])],rfl⟩
  case JJ n x y=>exact ⟨by simp only [cg,he x (by simp [I.os]),he y (by simp [I.os])],rfl⟩
  case eqs n ks x y=>exact ⟨by simp only [cg,he x (by simp [I.os]),he y (by simp [I.os])],rfl⟩
  case idx dw x y=>exact ⟨by simp only [cg,he x (by simp [I.os]),he y (by simp [I.os])],rfl⟩
  case tc n dw x y=>exact ⟨by simp only [cg,he x (by simp [I.os]),he y (by simp [I.os])],rfl⟩
  case pick c x y=>exact ⟨by simp only [cg,he x (by simp [I.os]),he y (by simp [I.os]),he c (by simp [I.os])],rfl⟩
  case alloc=>exact ⟨rfl,rfl⟩
  case td=>exact ⟨rfl,rfl⟩
  case mv x=>exact ⟨by simp only [cg,he x (by simp [I.os])],rfl⟩
  case box x=>exact ⟨by simp only [cg,he x (by simp [I.os])],rfl⟩
  case neg x=>exact ⟨by simp only [cg,he x (by simp [I.os])],rfl⟩
  case not x=>exact ⟨by simp only [cg,he x (by simp [I.os])],rfl⟩
  case conv k x=>exact ⟨by simp only [cg,he x (by simp [I.os])],rfl⟩
  case eY a b x=>exact ⟨by simp only [cg,he x (by simp [I.os])],rfl⟩
  case field a b c x=>exact ⟨by simp only [cg,he x (by simp [I.os])],rfl⟩
  case ext k x=>exact ⟨by simp only [cg,he x (by simp [I.os])],rfl⟩
  case len x=>exact ⟨by simp only [cg,he x (by simp [I.os])],rfl⟩
  case lens x=>exact ⟨by simp only [cg,he x (by simp [I.os])],rfl⟩
  case fM t n=>exact ⟨by simp only [cg,he n (by simp [I.os])],rfl⟩
theorem rD : ∀ {t : Ty} {vs : List V} {q : List Bool} {v : V} {vs' : List V}, iD t vs = some (q, v, vs') → ∀ x ∈ vs', x ∈ vs ∨ x = .bK
  | .list s,[],q,v,vs',h=>by simp [iD] at h
  | .list s,y::r,q,v,vs',h=>by
    cases y<;>simp [iD] at h
    obtain ⟨rfl,rfl,rfl⟩:=h
    intro x hx
    rcases List.mem_cons.1 hx with rfl|hx
    · exact .inr rfl
    · exact .inl (List.mem_cons_of_mem _ hx)
  | .prod a b,vs,q,v,vs',h=>by
    simp only [iD] at h
    split at h
    · rename_i h1;cases h;exact rD h1
    · split at h <;> try (cases h; done)
      rename_i h1
      cases h
      intro x hx
      rcases List.mem_append.1 hx with hx|hx
      · exact .inl (List.mem_of_mem_take hx)
      · exact (rD h1 x hx).imp List.mem_of_mem_drop id
  | .unit,vs,q,v,vs',h=>by simp [iD] at h
  | .bool,vs,q,v,vs',h=>by simp [iD] at h
  | .str,vs,q,v,vs',h=>by simp [iD] at h
  | .int k,vs,q,v,vs',h=>by simp [iD] at h
  | .cn _ _ _,vs,q,v,vs',h=>by simp [iD] at h
theorem Ds {i:I} {env env':List (Nat×V)} {aF:Nat} (he:∀x∈i.os,x.ev env=x.ev env') (hb:∀id∈jT i env,aq id bl=aq id bG):tg ar i env bl aF=tg ar i env' bG aF:=by
  cases i<;>try rfl
  case dy t xs =>
    cases xs with
    |nil=>rfl
    |cons x r =>
      cases r with
      |cons _ _=>rfl
      |nil =>
        have hx:=he x (by simp [I.os])
        simp only [jT,List.map_cons,List.map_nil,hx,List.flatMap_cons,List.flatMap_nil,List.append_nil] at hb
        simp only [tg,hx]
        generalize x.ev env'=y at hb ⊢
        cases hc:y.cells? with
        |none=>rfl
        |some vs =>
          simp only
          rw [(eD (ar:=ar) (bl:=bl) (bG:=bG) (t:=t) (vs:=vs) (fun v hv id hid=>hb id (gM hc v hv id hid))).1]
  case store k a x =>
    have ha:=he a (by simp [I.os])
    have hx:=he x (by simp [I.os])
    simp only [jT,hx,ha,List.mem_append] at hb
    simp only [tg,hx,ha]
    generalize a.ev env'=v at hb ⊢
    generalize x.ev env'=y at hb ⊢
    cases hc:y.cells? with
    |none=>rfl
    |some vs =>
      cases v<;>try rfl
      case ep id t i p =>
        simp only [hb id (.inl (by simp [o6]))]
        split<;>try rfl
        split<;>try rfl
        split<;>try rfl
        split<;>try rfl
        rename_i t1 E7
        split<;>try rfl
        rename_i q v vs' hop
        rw [jB (bl:=bl) (bG:=bG) (fun v hv id hid=>?_)]
        rcases rD hop v hv with h|rfl
        · exact hb id (.inr (gM hc v h id hid))
        · simp [o6] at hid
theorem oh {n:Nat} (hg:∀v,(∀id∈ei bl n v,aq id bl=aq id bG)->fin ar bl n v=fin ar bG n v/\ei bl n v=ei bG n v) :
    ∀{vs:List V},(∀id∈vs.flatMap (ei bl n),aq id bl=aq id bG)->cM (fin ar bl n) vs=cM (fin ar bG n) vs/\vs.flatMap (ei bl n)=vs.flatMap (ei bG n)
  |[],_=>⟨rfl,rfl⟩
  |v::r,h=>by
    simp only [List.flatMap_cons,List.mem_append] at h
    obtain ⟨h1,h2⟩:=hg v (fun id hid=>h id (.inl hid))
    obtain ⟨h3,h4⟩:=oh hg (vs:=r) (fun id hid=>h id (.inr hid))
    exact ⟨by simp only [cM,h1,h3],by simp only [List.flatMap_cons,h2,h4]⟩
theorem oq : ∀ {n : Nat} {v : V}, (∀ id ∈ ei bl n v, aq id bl = aq id bG) → fin ar bl n v = fin ar bG n v ∧ ei bl n v = ei bG n v
  |0,v,_=>⟨rfl,rfl⟩
  |n+1,v,h=>by
    have ih:=fun vs h=>oh (ar:=ar) (bl:=bl) (bG:=bG) (n:=n) (fun v h=>oq h) (vs:=vs) h
    cases v<;>simp only [ei] at h<;>try (exact ⟨rfl,rfl⟩)
    case sl id t lo m=>exact ⟨by simp only [fin,h id (by simp)],rfl⟩
    case pa id t m=>exact ⟨by simp only [fin,h id (by simp)],rfl⟩
    case ptr id off =>
      have hb:=h id (by simp)
      simp only [fin,ei,<-hb]
      cases hq:aq id bl with
      |none=>exact ⟨rfl,rfl⟩
      |some B =>
        rw [hq] at h
        cases B<;>try (exact ⟨rfl,rfl⟩;done)
        rename_i cs fz
        obtain ⟨h1,h2⟩:=ih cs (fun id hid=>h id (List.mem_cons_of_mem _ hid))
        exact ⟨by simp only [h1],by simp only [h2]⟩
    case fn f a b =>
      simp only [List.mem_append] at h
      obtain ⟨h1,h2⟩:=ih a (fun id hid=>h id (.inl hid))
      obtain ⟨h3,h4⟩:=ih b (fun id hid=>h id (.inr hid))
      exact ⟨by simp only [fin,h1,h3],by simp only [ei,h2,h4]⟩
    case agg cs =>
      obtain ⟨h1,h2⟩:=ih cs h
      exact ⟨by simp only [fin,h1],by simp only [ei,h2]⟩
    case cq cs =>
      obtain ⟨h1,h2⟩:=ih cs h
      exact ⟨by simp only [fin,h1],by simp only [ei,h2]⟩
    case cn t v =>
      obtain ⟨h1,h2⟩:=oq (n:=n) (v:=v) h
      exact ⟨by simp only [fin,h1],by simp only [ei,h2]⟩
end
end Go.AM
end
section
namespace Go.AM
inductive Ac where
 |skip
 |op (v:V) (u:cU)
 |call (v:V) (u:cU)
 |NG (v:V) (u:cU)
structure TR where
 k:Nat
 it:dB
 ac:Ac
 rd:List Nat
def Ac.val : Ac → V
 | .skip=>.cq []
 | .op v _=>v
 | .call v _=>v
 | .NG v _=>v
def Ac.Jz : Ac → cU
 | .op _ u=>u
 | .call _ u=>u
 | .NG _ u=>u
 |_=>[]
def TR.wr (t:TR):List Nat:=t.ac.Jz.map (·.1)
def TR.dr (t:TR):DR:=⟨t.k,t.rd,t.wr⟩
def Tw (v0 v:V):Prop:=v=v0\/∃c,v0 = .bool c/\v = .tf c
def En (ar:Ar) (b:Nat) (t:TR) (env:List (Nat×V)) (bl:aj):Prop :=
 match t.ac,t.it with
 | .skip,it=>zU it.Nv env=some false/\t.rd=[]
 | .op v u,.op _ g i=>zU g env=some true/\∃ob v0,(cg ar i env bl (b+t.k)=some (ob,v0,u)\/tg ar i env bl (b+t.k)=some (ob,v0,u))/\lW ob/\Tw v0 v/\jT i env=t.rd
 | .call v u,.call _ g f a tys=>zU g env=some true/\∃fid fs cs vs' v0,f.ev env = .fn fid fs cs/\cM (fin ar bl 8) (fs++bX tys (a.map (·.ev env))++cs)=some vs'/\ar.gY fid vs' v0 /\
   BF (xB v0||(fs++bX tys (a.map (·.ev env))++cs).all (cV 8)) (gj bl (fs++bX tys (a.map (·.ev env))++cs)) bl=some u/\Tw v0 v/\gj bl (fs++bX tys (a.map (·.ev env))++cs)=t.rd
 | .NG v u,.call _ g f a tys=>zU g env=some true/\∃fid fs cs v0,f.ev env = .fn fid fs cs/\(∀bG,(∀id∈t.rd,aq id bG=aq id bl)->ar.xj fid (fs++bX tys (a.map (·.ev env))++cs) bG (b+t.k) v0 u)/\Tw v0 v
 |_,_=>False
def TR.Gk (t:TR) (env:List (Nat×V)):List (Nat×V):=put t.it.dst t.ac.val env
def TR.Gl (t:TR) (bl:aj):aj:=bD t.ac.Jz bl
def pY (ar : Ar) (b : Nat) : List TR → List (Nat × V) → aj → (List (Nat × V) → aj → Prop) → Prop
 |[],env,bl,F=>F env bl
 |t::ts,env,bl,F=>En ar b t env bl/\pY ar b ts (t.Gk env) (t.Gl bl) F
def vB (F:List (Nat×V)->aj->Prop):Prop:=∀env env' bl bG,Fc env env'->OY bl bG->F env bl->F env' bG
theorem Fc.trans {e e' e'':List (Nat×V)} (h:Fc e e') (h':Fc e' e''):Fc e e'':=fun t=>(h t).trans (h' t)
theorem qn {d:Option Nat} {v:V} {env:List (Nat×V)} (t:Nat):get t (put d v env)=if d=some t then v else get t env:=by
 cases d with
 |none=>simp [put]
 |some s=>simp only [put,iU,Option.some.injEq]
theorem Fc.put {d:Option Nat} {v:V} {e e':List (Nat×V)} (h:Fc e e'):Fc (put d v e) (put d v e'):=fun t=>by rw [qn,qn,h t]
theorem ez : ∀ {u : cU} {b b' : aj} {id : Nat}, aq id b = aq id b' → aq id (bD u b) = aq id (bD u b')
 |[],_,_,_,h=>h
 |(s,none)::r,b,b',id,h=>ez (u:=r) (by rw [bf,bf,h])
 |(s,some B)::r,b,b',id,h=>ez (u:=r) (by rw [aS,aS,bf,bf,h])
theorem bI : ∀ {u : cU} {b : aj} {id : Nat}, id ∉ u.map (·.1) → aq id (bD u b) = aq id b
 |[],_,_,_=>rfl
 |(s,none)::r,b,id,h=>by
  simp at h
  simp only [bD]
  rw [bI (u:=r) (by simpa using h.2),bf,if_neg h.1]
 |(s,some B)::r,b,id,h=>by
  simp at h
  simp only [bD]
  rw [bI (u:=r) (by simpa using h.2),aS,if_neg (fun e=>h.1 e.symm),bf,if_neg h.1]
theorem lG : ∀ {u : cU} {b b' : aj} {id : Nat}, id ∈ u.map (·.1) → aq id (bD u b) = aq id (bD u b')
 |[],_,_,_,h=>by simp at h
 |(s,o)::r,b,b',id,h=>by
  by_cases hr:id∈r.map (·.1)
  ·cases o<;>exact lG (u:=r) hr
  ·have e : id = s := by simp at h hr; rcases h with h | ⟨x, h⟩; exact h; exact absurd h (hr x)
   subst e
   cases o with
   |none=>simp only [bD];rw [bI hr,bI hr,bf,bf];simp
   |some B=>simp only [bD];rw [bI hr,bI hr,aS,aS];simp
theorem Dt {g:Option (Nat×Bool)} {env env':List (Nat×V)} (h:∀s b,g=some (s,b)->get s env=get s env'):zU g env=zU g env':=by
 cases g with
 |none=>rfl
 |some p=>obtain ⟨s,b⟩:=p;simp only [zU,h s b rfl]
theorem Ka {it:dB} {env env':List (Nat×V)} (h:∀t∈it.uses,get t env=get t env'):(∀x∈it.os,x.ev env=x.ev env')/\zU it.Nv env=zU it.Nv env':=by
 refine ⟨fun x hx=>Gj fun t ht=>h t ?_,Dt fun s b e=>h s ?_⟩
 ·simp only [dB.uses, List.mem_append, List.mem_flatMap]
  exact .inl ⟨x,hx,ht⟩
 ·simp only [dB.uses, e, List.mem_append]
  exact .inr (List.mem_singleton_self _)
theorem rE : ∀ {ids : List Nat} {bl bG : aj}, (∀ id ∈ ids, aq id bl = aq id bG) → qF ids bl = qF ids bG
 |[],_,_,_=>rfl
 |id::r,bl,bG,h=>by
  have key:∀B,qF r ((id,B)::bH id bl)=qF r ((id,B)::bH id bG):=fun B=>rE fun i hi=>by
   by_cases e:id=i
   ·subst e;rw [aS,aS];simp
   ·rw [aS, aS, if_neg e, if_neg e, bf, bf, if_neg (fun h => e h.symm), if_neg (fun h => e h.symm)]
    exact h i (List.mem_cons_of_mem _ hi)
  simp only [qF,h id (List.mem_cons_self ..),key]
theorem x5 {b:Bool} {ids:List Nat} {bl bG:aj} (h:∀id∈ids,aq id bl=aq id bG):BF b ids bl=BF b ids bG:=by
 cases b with
 |true=>rfl
 |false=>exact rE h
theorem rF {ar:Ar} {b:Nat} {t:TR} {env env':List (Nat×V)} {bl bG:aj} (he:∀s∈t.it.uses,get s env=get s env') (hb:∀id∈t.rd,aq id bl=aq id bG) (h:En ar b t env bl):En ar b t env' bG:=by
 obtain ⟨k,it,ac,rd⟩:=t
 obtain ⟨h1,h2⟩:=Ka he
 unfold En at h ⊢
 cases ac with
 |skip=>exact ⟨by rw [<-h2];exact h.1,h.2⟩
 |op v u =>
  cases it with
  |call=>exact h.elim
  |op d g i =>
   simp only [dB.Nv] at h2
   obtain ⟨hg,ob,v0,ah,cE,hv,hr⟩:=h
   have:=Dr (ar:=ar) (i:=i) (aF:=b+k) (fun x hx=>h1 x hx) (fun id hid=>hb id (by rw [hr] at hid;exact hid))
   have Tx:=Ds (ar:=ar) (i:=i) (aF:=b+k) (fun x hx=>h1 x hx) (fun id hid=>hb id (by rw [hr] at hid;exact hid))
   exact ⟨by rw [<-h2];exact hg,ob,v0,by rw [<-this.1,<-Tx];exact ah,cE,hv,by rw [<-this.2];exact hr⟩
 |call v u =>
  cases it with
  |op=>exact h.elim
  |call d g f a tys =>
   simp only [dB.Nv] at h2
   obtain ⟨hg,fid,fs,cs,vs',v0,hf,hm,hp,hs,hv,hr⟩:=h
   have ha:a.map (·.ev env)=a.map (·.ev env'):=dm fun x hx=>h1 x (by simp [dB.os,hx])
   have kY:=h1 f (by simp [dB.os])
   simp only [ha] at hm hs hr
   obtain ⟨q1,q2⟩:=oh (ar:=ar) (bl:=bl) (bG:=bG) (n:=8) (fun v h=>oq h) (vs:=fs++bX tys (a.map (·.ev env'))++cs) (fun id hid=>hb id (by rw [<-hr];exact hid))
   exact ⟨by rw [<-h2];exact hg,fid,fs,cs,vs',v0,by rw [<-kY];exact hf,by rw [<-q1];exact hm,hp,by rw [show gj bG (fs++bX tys (a.map (·.ev env'))++cs)=gj bl (fs++bX tys (a.map (·.ev env'))++cs) from q2.symm,<-x5 (bl:=bl) (fun id hid=>hb id (by rw [<-hr];exact hid))];exact hs,hv,by rw [<-hr];exact q2.symm⟩
 |NG v u =>
  cases it with
  |op=>exact h.elim
  |call d g f a tys =>
   simp only [dB.Nv] at h2
   obtain ⟨hg,fid,fs,cs,v0,hf,hp,hv⟩:=h
   have ha:a.map (·.ev env)=a.map (·.ev env'):=dm fun x hx=>h1 x (by simp [dB.os,hx])
   have kY:=h1 f (by simp [dB.os])
   rw [ha] at hp
   exact ⟨by rw [<-h2];exact hg,fid,fs,cs,v0,by rw [<-kY];exact hf,fun NH h2=>hp NH fun id hid=>(h2 id hid).trans (hb id hid).symm,hv⟩
theorem rG {ar : Ar} {b : Nat} {F : List (Nat × V) → aj → Prop} (hF : vB F) : ∀ {ts : List TR} {env env' : List (Nat × V)} {bl bG : aj}, Fc env env' → OY bl bG → pY ar b ts env bl F → pY ar b ts env' bG F
 |[],_,_,_,_,he,hb,h=>hF _ _ _ _ he hb h
 |t::ts,_,_,_,_,he,hb,h=>⟨rF (fun s _=>he s) (fun id _=>hb id) h.1,rG hF (Fc.put he) (fun id=>ez (hb id)) h.2⟩
structure NI (a b:TR):Prop where
 slots:jt a.it b.it=true
 wr:∀id∈a.wr,id∉b.rd/\id∉b.wr
 rw:∀id∈b.wr,id∉a.rd
theorem rH {d:Option Nat} {l:List Nat} {v:V} {env:List (Nat×V)} (h:vh d l=true):∀t∈l,get t (put d v env)=get t env:=fun t ht=>by
 rw [qn,if_neg]
 rintro rfl
 simp [vh] at h
 exact h ht
theorem pull {ar:Ar} {b:Nat} {F:List (Nat×V)->aj->Prop} (hF:vB F) {t:TR} {L2:List TR}:∀{L1:List TR} {env:List (Nat×V)} {bl:aj},(∀a∈L1,NI a t)->pY ar b (L1++t::L2) env bl F ->
  En ar b t env bl/\pY ar b (L1++L2) (t.Gk env) (t.Gl bl) F
 |[],_,_,_,h=>h
 |a::L1,env,bl,hA,h=>by
  obtain ⟨h1,h2⟩:=h
  obtain ⟨h3,h4⟩:=pull hF (fun x hx=>hA x (List.mem_cons_of_mem _ hx)) h2
  have hap:=hA a (List.mem_cons_self ..)
  have hs:=hap.slots
  simp only [jt,Bool.and_eq_true] at hs
  obtain ⟨⟨s1,s2⟩,s3⟩:=hs
  refine ⟨rF (fun s hs=>rH s1 s hs) (fun id hid=>bI fun hw=>(hap.wr id hw).1 hid) h3,?_,?_⟩
  ·exact rF (fun s hs=>(rH s2 s hs).symm) (fun id hid=>(bI fun hw=>hap.rw id hw hid).symm) h1
  ·refine rG hF (fun s => ?_) (fun id => ?_) h4
   ·simp only [TR.Gk, qn]
    by_cases q1:t.it.dst=some s
    ·by_cases q2 : a.it.dst = some s
     ·rw [q2] at s3;simp [q1] at s3
     ·simp [q1,q2]
    ·simp [q1]
   ·simp only [TR.Gl]
    by_cases q1:id∈t.ac.Jz.map (·.1)
    ·have q2 : id ∉ a.ac.Jz.map (·.1) := fun hw => (hap.wr id hw).2 q1
     rw [lG (b':=bl) q1,bI q2]
    ·rw [bI q1]
     exact ez (bI q1).symm
def pn (t:TR):Option DR:=match t.rd,t.wr with
 |[],[]=>none
 |_,_=>some t.dr
theorem vC (k:Nat) (it:dB) (ac:Ac) (rd:List Nat) (bW:List DR):n3 k rd (ac.Jz.map (·.1)) bW=bW++([(⟨k,it,ac,rd⟩:TR)].filterMap pn):=by
 cases rd with
 |cons x r=>rfl
 |nil =>
  cases hu:ac.Jz.map (·.1) with
  |nil=>simp [n3,pn,TR.wr,hu]
  |cons x r=>simp [n3,pn,TR.wr,TR.dr,hu]
theorem rI {gs:List Nat} {d:Option Nat} {v:V} {env:List (Nat×V)} {K:List (Nat×V)->Prop} (h:vk gs d v env K):∃v',Tw v v'/\K (put d v' env):=by
 unfold vk at h
 cases d with
 |none=>exact ⟨v,.inl rfl,h⟩
 |some t =>
  simp only at h
  split at h
  ·exact ⟨v,.inl rfl,h⟩
  ·split at h
   ·rename_i c
    cases c with
    |true=>exact ⟨.tf true,.inr ⟨_,rfl,rfl⟩,h.1 rfl⟩
    |false=>exact ⟨.tf false,.inr ⟨_,rfl,rfl⟩,h.2 rfl⟩
   ·exact ⟨v,.inl rfl,h⟩
theorem ja {ar:Ar} {gs:List Nat} {b:Nat}:∀{is:List dB} {k:Nat} {env:List (Nat×V)} {bl:aj} {bW:List DR} {K:List (Nat×V)->aj->List DR->Prop},lU ar gs b is k env bl bW K ->
  ∃ts:List TR,ts.map (·.it)=is/\ts.map (·.k)=List.range' k is.length/\pY ar b ts env bl fun env' bG=>K env' bG (bW++ts.filterMap pn)
 |[],k,env,bl,bW,K,h=>⟨[],rfl,rfl,by simpa [pY,lU] using h⟩
 | .op d g i::r,k,env,bl,bW,K,h=>by
  simp only [lU] at h
  split at h
  ·rename_i hg
   have h':∃ob v u,(cg ar i env bl (b+k)=some (ob,v,u)\/tg ar i env bl (b+k)=some (ob,v,u))/\pR ob/\vk gs d v env fun env'=>lU ar gs b r (k+1) env' (bD u bl) (n3 k (jT i env) (u.map (·.1)) bW) K:=by
    rcases h with h|h
    ·obtain ⟨ob,v,u,h1,h2,h3⟩:=qH h;exact ⟨ob,v,u,.inl h1,h2,h3⟩
    ·obtain ⟨ob,v,u,h1,h2,h3⟩:=qH h;exact ⟨ob,v,u,.inr h1,h2,h3⟩
   clear h
   obtain ⟨ob,v,u,ah,cE,h⟩:=h'
   obtain ⟨v',Gg,h⟩:=rI h
   obtain ⟨ts,h1,h2,h3⟩:=ja h
   refine ⟨⟨k,.op d g i,.op v' u,jT i env⟩::ts,by simp [h1],by simp [h2,List.range'_succ],⟨hg,ob,v,ah,qZ cE,Gg,rfl⟩,?_⟩
   rw [show u.map (·.1)=(Ac.op v' u).Jz.map (·.1) from rfl,vC k (.op d g i) (.op v' u)] at h3
   rw [<-List.singleton_append,List.filterMap_append,<-List.append_assoc]
   exact h3
  ·rename_i hg
   obtain ⟨ts,h1,h2,h3⟩:=ja h
   exact ⟨⟨k,.op d g i,.skip,[]⟩::ts,by simp [h1],by simp [h2,List.range'_succ],⟨hg,rfl⟩,h3⟩
  ·exact h.elim
 | .call d g f a tys::r,k,env,bl,bW,K,h=>by
  simp only [lU] at h
  split at h
  ·rename_i hg
   split at h
   ·rename_i f' fs cs hf
    rcases h with h|⟨jV,x,u,hp,h⟩
    ·split at h
     ·rename_i vs' hm
      obtain ⟨x,u,hp,hs,h⟩:=h
      obtain ⟨v',Gg,h⟩:=rI h
      obtain ⟨ts,h1,h2,h3⟩:=ja h
      refine ⟨⟨k,.call d g f a tys,.call v' u,gj bl (fs++bX tys (a.map (·.ev env))++cs)⟩::ts,by simp [h1],by simp [h2,List.range'_succ],⟨hg,f',fs,cs,vs',x,hf,hm,hp,hs,Gg,rfl⟩,?_⟩
      rw [show u.map (·.1)=(Ac.call v' u).Jz.map (·.1) from rfl,vC k (.call d g f a tys) (.call v' u)] at h3
      rw [<-List.singleton_append,List.filterMap_append,<-List.append_assoc]
      exact h3
     ·exact h.elim
    ·obtain ⟨v', Gg, h⟩ := rI h
     obtain ⟨ts,h1,h2,h3⟩:=ja h
     refine ⟨⟨k,.call d g f a tys,.NG v' u,jV⟩::ts,by simp [h1],by simp [h2,List.range'_succ],⟨hg,f',fs,cs,x,hf,hp,Gg⟩,?_⟩
     rw [show u.map (·.1)=(Ac.NG v' u).Jz.map (·.1) from rfl,vC k (.call d g f a tys) (.NG v' u)] at h3
     rw [<-List.singleton_append,List.filterMap_append,<-List.append_assoc]
     exact h3
   ·exact h.elim
  ·rename_i hg
   obtain ⟨ts,h1,h2,h3⟩:=ja h
   exact ⟨⟨k,.call d g f a tys,.skip,[]⟩::ts,by simp [h1],by simp [h2,List.range'_succ],⟨hg,rfl⟩,h3⟩
  ·exact h.elim
theorem kA {x : Nat} : ∀ {l : List Nat}, tj x l = true ↔ x ∈ l
 |[]=>by simp [tj]
 |y::r=>by
  have ih:=kA (x:=x) (l:=r)
  simp only [tj,List.mem_cons]
  split
  ·rename_i h;have:=Nat.eq_of_beq_eq_true h;simp [this]
  ·rename_i h; have : x ≠ y := fun e => by subst e; rw [Nat.beq_refl] at h; cases h
   rw [ih];simp [this]
theorem kZ {l' : List Nat} : ∀ {l : List Nat}, tP l l' = true → ∀ x ∈ l, x ∉ l'
 |[],_=>by simp
 |y::r,h=>by
  simp only [tP] at h
  split at h
  ·cases h
  ·rename_i hm
   intro x hx
   rcases List.mem_cons.1 hx with rfl|hx
   ·intro hx';rw [kA.2 hx'] at hm;cases hm
   ·exact kZ h x hx
def Y8 (bN:List (List Nat)) (a b:TR):Prop:=a.k∈bN.getD b.k []\/((∀id∈a.wr,id∉b.rd/\id∉b.wr)/\∀id∈b.wr,id∉a.rd)
theorem Gm {bN:List (List Nat)} {a b:TR} (h:vj bN a.dr b.dr=true):Y8 bN a b:=by
 unfold vj at h
 split at h
 ·rename_i hm;exact .inl (kA.1 hm)
 ·split at h <;> try (cases h; done)
  rename_i h1
  split at h<;>try (cases h;done)
  rename_i h2
  exact .inr ⟨fun id hid=>⟨kZ h1 id hid,kZ h2 id hid⟩,fun id hid hr=>kZ h id hr hid⟩
theorem uf {bN : List (List Nat)} {a : DR} : ∀ {l : List DR}, BC bN a l = true → ∀ b ∈ l, vj bN a b = true
 |[],_=>by simp
 |c::r,h=>by
  simp only [BC] at h
  split at h
  ·rename_i hc
   intro b hb
   rcases List.mem_cons.1 hb with rfl|hb
   ·exact hc
   ·exact uf h b hb
  ·cases h
theorem pq (t:TR):(t.rd=[]/\t.wr=[]/\pn t=none)\/pn t=some t.dr:=by
 unfold pn
 split
 ·rename_i h1 h2;exact .inl ⟨h1,h2,rfl⟩
 ·exact .inr rfl
theorem me {bN : List (List Nat)} : ∀ {ts : List TR}, FC bN (ts.filterMap pn) = true → ts.Pairwise (Y8 bN)
 |[],_=>.nil
 |t::ts,h=>by
  rcases pq t with ⟨h1,h2,h3⟩|h3
  ·simp only [List.filterMap_cons, h3] at h
   exact .cons (fun b _=>.inr ⟨fun id hid=>by rw [h2] at hid;simp at hid,fun id _=>by rw [h1];simp⟩) (me h)
  ·simp only [List.filterMap_cons, h3, FC] at h
   split at h<;>try (cases h;done)
   rename_i ho
   refine .cons (fun b hb=>?_) (me h)
   rcases pq b with ⟨q1,q2,_⟩|q3
   ·exact .inr ⟨fun id _=>by rw [q1,q2];simp,fun id hid=>by rw [q2] at hid;simp at hid⟩
   ·exact Gm (uf ho _ (List.mem_filterMap.2 ⟨b,hb,q3⟩))
section
variable {c1 : Nat → List V → aK → (V → aK → Prop) → Prop} {c2 : Nat → List V → V → Prop} {c3 : C → St → (Ex → St → Prop) → Prop}
 {c4:Nat->List V->aK->(V->aK->Prop)->Prop} {c5:O->List Nat->C->C->St->(Ex->St->Prop)->Prop} {c6:C->St->(Ex->St->Prop)->Prop} {c7:GC} {bl:aj}
theorem jC {g h : V → Option V} (e : ∀ v, g v = h v) : ∀ vs, cM g vs = cM h vs
 |[]=>rfl
 |v::r=>by simp only [cM,e v,jC e r]
theorem rJ : ∀ {n : Nat} {v : V}, fin (aZ c1 c2 c3 c4 c5 c6 c7) bl n v = fin bL bl n v
 |0,v=>rfl
 |n+1,v=>by
  have:=jC (fun v=>rJ (n:=n) (v:=v))
  cases v<;>first|rfl|(simp only [fin,this];done)|(simp only [fin,rJ];done)|(simp only [fin];rfl)
end
section
variable {P:Program} {N:Nat} {out:Option Nat} {base:Nat}
def pz : List Nat → aj → Option aj
 |[],bl=>some bl
 |id::r,bl=>match aq id bl with
  |some (.arr t xs _)=>pz r ((id,.arr t xs true)::bH id bl)
  |some (.cells cs _)=>pz r ((id,.cells cs true)::bH id bl)
  |_=>none
def tA (ι : aA) (μ : Mu) (id : Nat) : Option js → Prop
 |some (.arr t xs _)=>ga ι μ id t xs
 |some (.cells cs _)=>∃L vs,μ id=some L/\Reads ι L.b L.ba vs/\aG ι μ cs vs/\∀v∈vs,v.oneCell'=true
 |_=>True
theorem tA.mono {ι ι':aA} {μ:Mu} {id:Nat} {o:Option js} (h:tA ι μ id o) (hi:ι.le ι'):tA ι' μ id o:=by
 unfold tA at h ⊢
 split at h
 ·exact ga.mono hi h
 ·obtain ⟨L, vs, h1, h2, h3, h4⟩ := h
  exact ⟨L,vs,h1,h2.mono hi,h3.mono hi (Mu.le_refl _),h4⟩
 ·trivial
theorem Inv.Kb {Y:Ctx} {ι:aA} {μ:Mu} {H:aK} {w:World} (h:Inv P Y ι μ H w) {id:Nat} {cs:List V} {fz:Bool} (hb:aq id H.bl=some (.cells cs fz)) :
  ∃ι',ι.le ι'/\Inv P Y ι' μ ⟨H.next,(id,.cells cs true)::bH id H.bl⟩ w/\tA ι' μ id (some (.cells cs fz)):=by
 obtain ⟨L,vs,hM,hR⟩:=h.live id _ hb
 cases fz with
 |true=>exact ⟨ι,aA.le_refl _,h.same hb ⟨L,vs,hM,hR⟩,L,vs,hM.mu,hM.zW rfl,hR,hM.one⟩
 |false =>
  have hfree:=hM.n4 rfl
  have hle:=aA.zX (vs:=vs) hfree
  have fy:aG (ι.add L vs) μ cs vs:=hR.mono hle (Mu.le_refl _)
  refine ⟨ι.add L vs,hle,?_,L,vs,hM.mu,Reads.add,fy,hM.one⟩
  refine ⟨h.below,aA.le_trans h.i0 hle,fun b o hb' hx=>?_,fun b o x hx=>?_,h.m0,h.nx,fun i B hB=>?_,?_,?_,h.gl⟩
  ·unfold aA.add;rw [if_neg (fun e=>Ctx.jZ hM.old hb' hx e)];exact h.iB b o hb' hx
  ·unfold aA.add at hx
   split at hx
   ·rename_i e; subst e
    split at hx
    ·rename_i ho
     obtain ⟨c,e,h1,h2,h3⟩:=hM.row
     have:=h3 _ _ hx
     rw [show L.ba+(o - L.ba)=o by omega] at this
     simp [World.cell?,h1,this]
    ·cases hx
   ·exact h.rd b o x hx
  ·rw [aU] at hB
   split at hB
   ·rename_i e; subst e; cases hB
    exact ⟨L,vs,⟨hM.mu,hM.old,hM.row,hM.fits,hM.one,fun _=>Reads.add,fun e=>by cases e⟩,fy⟩
   ·rename_i e
    refine (h.live i B hB).mono hle (Mu.le_refl _) (fun h=>h) (fun _ _=>rfl) (fun L' hL' ho o=>?_)
    unfold aA.add
    rw [if_neg (fun e'=>e (h.inj i id B _ L' L hB hb hL' hM.mu e'))]
    exact ho o
  ·intro i i' B B' L1 L2 h1 h2 jM hm2 e
   have:∀{j B},aq j ((id,.cells cs true)::bH id H.bl)=some B->∃OL,aq j H.bl=some OL:=fun {j B} hj=>by
    rw [aU] at hj
    split at hj
    ·rename_i e;subst e;exact ⟨_,hb⟩
    ·exact ⟨B,hj⟩
   obtain ⟨C,hC⟩:=this h1
   obtain ⟨C',JR⟩:=this h2
   exact h.inj i i' C C' L1 L2 hC JR jM hm2 e
  ·intro i B hB
   rw [aU] at hB
   split at hB
   ·rename_i e;subst e;exact h.lt _ _ hb
   ·exact h.lt i B hB
theorem qo {Y:Ctx} {μ:Mu} {w:World} {nx:Nat}:∀{ids:List Nat} {bl bG:aj} {ι:aA},Inv P Y ι μ ⟨nx,bl⟩ w->pz ids bl=some bG ->
  ∃ι',ι.le ι'/\Inv P Y ι' μ ⟨nx,bG⟩ w/\∀id∈ids,tA ι' μ id (aq id bl)
 |[],bl,bG,ι,hI,h=>by cases h;exact ⟨ι,aA.le_refl _,hI,fun id hid=>by simp at hid⟩
 |i::r,bl,bG,ι,hI,h=>by
  simp only [pz] at h
  split at h
  ·rename_i t xs fz hb
   obtain ⟨ι1,h1,h2,h3⟩:=hI.freeze hb
   obtain ⟨ι2,h4,h5,h6⟩:=qo h2 h
   refine ⟨ι2,aA.le_trans h1 h4,h5,fun id hid=>?_⟩
   by_cases e:id=i
   ·subst e
    rw [show aq id bl=some (.arr t xs fz) from hb]
    exact ga.mono h4 h3
   ·rcases List.mem_cons.1 hid with rfl | hid
    ·exact absurd rfl e
    ·have := h6 id hid
     have e2:aq id ((i,js.arr t xs true)::bH i bl)=aq id bl:=by rw [aS,if_neg (fun h=>e h.symm),bf,if_neg e]
     rw [show aq id ((i,js.arr t xs true)::bH i (aK.bl ⟨nx,bl⟩))=aq id bl from e2] at this
     exact this
  ·rename_i cs fz hb
   obtain ⟨ι1,h1,h2,h3⟩:=hI.Kb hb
   obtain ⟨ι2,h4,h5,h6⟩:=qo h2 h
   refine ⟨ι2,aA.le_trans h1 h4,h5,fun id hid=>?_⟩
   by_cases e:id=i
   ·subst e
    rw [show aq id bl=some (.cells cs fz) from hb]
    exact h3.mono h4
   ·rcases List.mem_cons.1 hid with rfl | hid
    ·exact absurd rfl e
    ·have := h6 id hid
     have e2:aq id ((i,js.cells cs true)::bH i bl)=aq id bl:=by rw [aS,if_neg (fun h=>e h.symm),bf,if_neg e]
     rw [show aq id ((i,js.cells cs true)::bH i (aK.bl ⟨nx,bl⟩))=aq id bl from e2] at this
     exact this
  ·cases h
theorem vD {ι : aA} {μ : Mu} {bl : aj} : ∀ {n : Nat} {v r : V} {x : Value}, fin bL bl n v = some r → (∀ id ∈ ei bl n v, tA ι μ id (aq id bl)) → Rel ι μ v x → Rel ι (fun _ => none) r x
 |0,v,r,x,h,_,_=>by cases h
 |n+1,v,r,x,h,hF,hr=>by
  have conv:∀{cs ds:List V} {xs:List Value},cM (fin bL bl n) cs=some ds->(∀id∈cs.flatMap (ei bl n),tA ι μ id (aq id bl))->aG ι μ cs xs->aG ι (fun _=>none) ds xs:=by
   intro cs
   induction cs with
   |nil=>intro ds xs hm _ hl;cases hm;rw [hl.of_nil];exact .nil
   |cons c cs ih =>
    intro ds xs hm hf hl
    unfold cM at hm
    obtain ⟨y,ys,rfl,h1,h2⟩:=hl.bF
    split at hm<;>try (cases hm;done)
    rename_i u hu
    split at hm<;>try (cases hm;done)
    rename_i us BM
    cases hm
    simp only [List.flatMap_cons,List.mem_append] at hf
    exact .cons (vD hu (fun id hid=>hf id (.inl hid)) h1) (ih BM (fun id hid=>hf id (.inr hid)) h2)
  cases hr<;>simp only [fin] at h<;>try (cases h;done)
  case any=>cases h;exact .any _
  case tf=>cases h;exact .tf _
  case bool=>cases h;exact .bool _
  case int=>cases h;exact .int _ _
  case str=>cases h;exact .str _
  case ee=>cases h;exact .ee
  case cw=>cases h;exact .cw
  case ek=>cases h;exact .ek
  case dS t xs hd=>cases h;exact .dS t xs _ hd
  case bK=>cases h;exact .bK _
  case sl id t lo m cap L hL h1 h2 h3 =>
   split at h<;>try (cases h;done)
   rename_i t' xs fz hb
   split at h<;>try (cases h;done)
   rename_i e;subst e
   cases h
   have hf:=hF id (by simp [ei])
   rw [hb] at hf
   exact .dS _ _ _ (ga.slice hf (.sl (ι:=ι) id t lo m cap L hL h1 h2 h3))
  case bO id t lo a =>
   split at h<;>try (cases h;done)
   rename_i t' xs fz hb
   split at h<;>try (cases h;done)
   rename_i e;subst e
   cases h
   exact .dS _ _ _ ⟨a,0,by simp [aZ,bL],by simp [aZ,bL],.inl (by simp [aZ,bL])⟩
  case ptr id off L hL =>
   split at h<;>try (cases h;done)
   rename_i cs fz hb
   split at h<;>try (cases h;done)
   rename_i ds hds
   split at h<;>try (cases h;done)
   rename_i hoff
   cases h
   have hf:=hF id (by simp [ei])
   rw [hb] at hf
   obtain ⟨L',vs,hM,hrd,hR,hone⟩:=hf
   rw [hM] at hL;cases hL
   have fy:=conv hds (fun i hi=>hF i (by simp only [ei,hb,List.mem_cons];exact .inr hi)) hR
   refine .bR _ L.b (L.ba+off) (fun i=>vs.getD (off+i) .nilIface) (fun i hi=>?_) (fun i v hv=>?_) (fun i=>?_)
   ·have hlt : off + i < vs.length := by have := fy.1; simp at hi; omega
    have:vs[off+i]?=some (vs.getD (off+i) .nilIface):=by simp [List.getD,hlt]
    rw [Nat.add_assoc];exact hrd _ _ this
   ·have Gg : ds[off + i]? = some v := by simpa using hv
    obtain ⟨y,hy,Tv⟩:=fy.at Gg
    simp only [List.getD,hy,Option.getD_some];exact Tv
   ·by_cases hlt : off + i < vs.length
    ·have : vs.getD (off + i) .nilIface = vs[off + i] := by simp [List.getD, hlt]
     rw [this];exact hone _ (List.getElem_mem hlt)
    ·have : vs.getD (off + i) .nilIface = .nilIface := by simp [List.getD, List.getElem?_eq_none (show vs.length ≤ off + i by omega)]
     rw [this];rfl
  case bR cs b o gf h1 h2 h3 =>
   split at h<;>try (cases h;done)
   rename_i hall
   cases h
   exact .bR cs b o gf h1 (fun i v hv=>cN (List.all_eq_true.1 hall _ (List.mem_of_getElem? hv)) (h2 i v hv)) h3
  case ip t y b o us h1 h2=>cases h;exact .ip t y b o us h1 h2
  case fn f fs cs xs ys h1 h2 h3 h4 =>
   split at h<;>try (cases h;done)
   rename_i as bs ha hb
   cases h
   have r1:=conv ha (fun i hi=>hF i (by simp only [ei,List.mem_append];exact .inl hi)) (xs:=xs.toList) ⟨by simpa using h1,fun i v x hv hx=>h2 i v x hv (by simpa using hx)⟩
   have r2:=conv hb (fun i hi=>hF i (by simp only [ei,List.mem_append];exact .inr hi)) (xs:=ys.toList) ⟨by simpa using h3,fun i v x hv hx=>h4 i v x hv (by simpa using hx)⟩
   exact .fn f as bs xs ys (by simpa using r1.1) (fun i v x hv hx=>r1.2 i v x hv (by simpa using hx)) (by simpa using r2.1) (fun i v x hv hx=>r2.2 i v x hv (by simpa using hx))
  case agg cs xs h1 h2 h3 =>
   split at h<;>try (cases h;done)
   rename_i ds hds
   cases h
   have r1:=conv hds (fun i hi=>hF i (by simpa [ei] using hi)) (xs:=xs.toList) ⟨by simpa using h1,fun i v x hv hx=>h2 i v x hv (by simpa using hx)⟩
   exact .agg ds xs (by simpa using r1.1) (fun i v x hv hx=>r1.2 i v x hv (by simpa using hx)) h3
  case cq cs xs h1 h2 =>
   split at h<;>try (cases h;done)
   rename_i ds hds
   cases h
   have r1:=conv hds (fun i hi=>hF i (by simpa [ei] using hi)) (xs:=xs.toList) ⟨by simpa using h1,fun i v x hv hx=>h2 i v x hv (by simpa using hx)⟩
   exact .cq ds xs (by simpa using r1.1) (fun i v x hv hx=>r1.2 i v x hv (by simpa using hx))
  case cn t v x hv =>
   split at h<;>try (cases h;done)
   rename_i r' hr'
   cases h
   exact .cn t r' x (vD hr' (fun i hi=>hF i (by simpa [ei] using hi)) hv)
  case cb c b hc=>cases h;exact .cb c b hc
  case dA=>cases h;exact .dA
  case iN t xs b o us h1 h2=>cases h;exact .iN t xs b o us h1 h2
  case pa id t m L hL hm =>
   split at h<;>try (cases h;done)
   rename_i t' xs fz hb
   split at h<;>try (cases h;done)
   rename_i e;subst e
   cases h
   have hf:=hF id (by simp [ei])
   rw [hb] at hf
   rcases hf with ⟨e,hn⟩|⟨L',vs,hM,hrd,hR,hl⟩
   ·rw [hn] at hL;cases hL
   ·rw [hM] at hL; cases hL
    exact .iN _ _ _ _ vs hrd hR
theorem vE : ∀ {ids : List Nat} {bl : aj} {u : cU}, qF ids bl = some u → pz ids bl = some (bD u bl)
 |[],_,_,h=>by cases h;rfl
 |id::r,bl,u,h=>by
  simp only [qF] at h
  simp only [pz]
  split at h
  ·rename_i hb
   split at h<;>try (cases h;done)
   rename_i hu
   cases h
   rw [hb]
   exact vE hu
  ·rename_i hb
   split at h<;>try (cases h;done)
   rename_i hu
   cases h
   rw [hb]
   exact vE hu
  ·cases h
theorem Ke {ι ι':aA} {μ:Mu} {bl:aj} (h1:ι.le ι'):∀{vs vs':List V} {xs:List Value},cM (fin bL bl 8) vs=some vs'->(∀id∈gj bl vs,tA ι' μ id (aq id bl))->aG ι μ vs xs->aG ι' (fun _=>none) vs' xs:=by
 intro vs
 induction vs with
 |nil=>intro vs' xs hm _ hl;cases hm;rw [hl.of_nil];exact .nil
 |cons v r ih =>
  intro vs' xs hm hfz hl
  unfold cM at hm
  split at hm<;>try (cases hm;done)
  rename_i u hu
  split at hm<;>cases hm
  rename_i us BM
  obtain ⟨x,xs',rfl,r1,r2⟩:=hl.bF
  simp only [gj,List.flatMap_cons,List.mem_append] at hfz
  exact .cons (vD hu (fun id hid=>hfz id (.inl hid)) (r1.mono h1 (Mu.le_refl _))) (ih BM (fun id hid=>hfz id (.inr hid)) r2)
end
end Go.AM
end
