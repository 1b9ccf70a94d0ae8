/- Each operation of the small machine is the model's: slices of slices; the sum. Each operation of the small machine is the model's: the sum. The small machine's code is the model's: what is said of calls, loops and rounds; a region's items. The small machine's code is the model's: sequences, tests, blocks, loops. A function's contract: data in, data out. A function's contract out of its code. States that stand for as much: at a loop's head. Calls of functions whose contract speaks of data. A region whose order is drawn: what an item does depends on little, and items that have nothing to do with each other change places. A drawn region's trace: its items in the canonical order, and each brought to the front where nothing forbids it. -/
import Derived.Test.YthemjfloiapaaaaGreatAMa
import Derived.MapKept
import Derived.WideKeyRuns
import Derived.Laws.IdiomCopy
import Derived.Laws.BytesString
set_option linter.unusedSectionVars false
set_option linter.unusedVariables false
set_option linter.unusedSimpArgs false
section
namespace Go.AM
section
variable {P : Program} {Y : Ctx} {ι ι' : ax} {μ μ' : Mu} {H : aG} {w w' : World}
 {c1:Nat->List V->aG->(V->aG->Prop)->Prop} {c2:Nat->List V->V->Prop} {c3:C->St->(Ex->St->Prop)->Prop}
 {c4:Nat->List V->aG->(V->aG->Prop)->Prop} {c5:O->List Nat->C->C->St->(Ex->St->Prop)->Prop} {c6:C->St->(Ex->St->Prop)->Prop}
theorem GM {v:V} {z:Int} {x:Value} (h:qK v=some z) (hr:Rel ι μ v x):∃k,x = .int k z:=by
 cases v<;>simp [qK] at h
 subst h;cases hr;exact ⟨_,rfl⟩
theorem eM {env:List (Nat×V)} {a:Act} (he:fu ι μ env a.tmps) {d z:Int} {o:Option O} {oo:Option Operand} (ht:BN oo=some o) (h:cH env d o=some z) :
  (oo=none/\z=d)\/∃x k,oo=some x/\a.eval x = .int k z:=by
 cases oo with
 |none=>cases ht;simp [cH] at h;exact .inl ⟨rfl,h.symm⟩
 |some x =>
  simp only [BN] at ht
  cases hx:dL x with
  |none=>simp [hx] at ht
  |some y =>
   simp [hx] at ht;subst ht
   simp only [cH] at h
   obtain ⟨k,hk⟩:=GM h (aB he hx)
   exact .inr ⟨x,k,rfl,hk⟩
theorem DW {env : List (Nat × V)} {a : Act} (he : fu ι μ env a.tmps) {t e : TypeId} {ff : Nat} (ht : P.underlying t = some (.slice e)) (hsz : dx P e = some ff) {x : O} {px : Value} (hx : Rel ι μ (x.ev env) px)
  {lo hi mx:Option O} {lo' hi' Tj:Option Operand} (h1:BN lo'=some lo) (h2:BN hi'=some hi) (h3:BN Tj=some mx) {bl:aq} {n:Nat} {ob:List Bool} {v:V} {u:eY}
  (ak:b7 (bu c1 c2 c3 c4 c5 c6) (.slice ff x lo hi mx) env bl n=some (ob,v,u)) (cW:oF ob) :
  u=[]/\∃y,(Instr.sliceAt t px (lo'.map a.eval) (hi'.map a.eval) (Tj.map a.eval)).run P w = .ok y w/\Rel ι μ v y:=by
 have hsize:∀w:World,(sizeOf e).run P w = .ok ff w:=fun w=>by
  unfold dx at hsz
  cases hq:P.info? e with
  |none=>simp [hq] at hsz
  |some i=>simp [hq] at hsz;subst hsz;simp [sizeOf,typeInfo,hq]
 -- the run, between bounds
 have run:∀(base:Option Addr) (len cap:Nat) (l h:Nat),(∃z:Int,z.toNat=l/\0<=z/\((lo'=none/\z=0)\/∃x k,lo'=some x/\a.eval x = .int k z)) ->
   (∃z:Int,z.toNat=h/\0<=z/\((hi'=none/\z=len)\/∃x k,hi'=some x/\a.eval x = .int k z))->l<=h->h<=len->len<=cap->Tj=none ->
   (Instr.sliceAt t (.slice base len cap) (lo'.map a.eval) (hi'.map a.eval) (Tj.map a.eval)).run P w = .ok (.slice (if cap=l then base else base.map (·.add (l * ff))) (h - l) (cap - l)) w:=by
  intro base len cap l h hl hh hlh hhl hlc hm
  subst hm
  obtain ⟨zl,rfl,hl0,hl⟩:=hl
  obtain ⟨zh,rfl,hh0,hh⟩:=hh
  simp only [Instr.sliceAt,Instr.slice,Sem.run_bind,run_underlying ht,Result.andThen_ok,Instr.sliceBounds]
  rcases hl with ⟨rfl,rfl⟩|⟨xl,kl,rfl,hl⟩<;>rcases hh with ⟨rfl,rfl⟩|⟨xh,kh,rfl,hh⟩
  ·simp [hsize]
  ·have q1 : zh ≤ (cap : Int) := by omega
   simp [hsize,hh,Instr.sliceBound,asIntOf,hh0,q1]
  ·have q1 : zl ≤ (len : Int) := by omega
   simp [hsize,hl,Instr.sliceBound,asIntOf,hl0,q1]
  ·have q1 : zh ≤ (cap : Int) := by omega
   have q2:zl<=zh:=by omega
   simp [hsize,hl,hh,Instr.sliceBound,asIntOf,hl0,hh0,q1,q2]
   intro hc;omega
 simp only [b7] at ak
 split at ak
 ·rename_i mO
  split at ak<;>try (cases ak;done)
  rename_i hO
  split at ak<;>try (cases ak;done)
  rename_i za zb zc Zi Zj Od
  -- the run with a bound on the capacity: nothing is left
  have fin:∀(base:Option Addr) (len cap:Nat),za=0->zb=0->zc=0->(Instr.sliceAt t (.slice base len cap) (lo'.map a.eval) (hi'.map a.eval) (Tj.map a.eval)).run P w = .ok (.slice base 0 0) w:=by
   intro base len cap e1 e2 e3
   subst e1;subst e2;subst e3
   have g1:=eM he (d:=0) h1 Od
   have g2:∃x k,hi'=some x/\a.eval x = .int k 0:=by
    rcases eM he (d:=1) h2 (z:=0) (by simpa [cH] using Zj) with ⟨e,e'⟩|h
    ·cases e'
    ·exact h
   have g3:∃x k,Tj=some x/\a.eval x = .int k 0:=by
    rcases eM he (d:=1) h3 (z:=0) (by simpa [cH] using Zi) with ⟨e,e'⟩|h
    ·cases e'
    ·exact h
   obtain ⟨xh,kh,rfl,hh⟩:=g2
   obtain ⟨xm,km,rfl,hm⟩:=g3
   simp only [Instr.sliceAt,Instr.slice,Sem.run_bind,run_underlying ht,Result.andThen_ok,Instr.sliceBounds]
   rcases g1 with ⟨rfl,_⟩|⟨xl,kl,rfl,hl⟩
   ·simp [hsize,hh,hm,Instr.sliceBound,asIntOf]
   ·simp [hsize,hh,hm,hl,Instr.sliceBound,asIntOf]
  have obs:ob=[za==0,zb==0,zc==0]->za=0/\zb=0/\zc=0:=fun e=>by
   subst e
   have e1:=cW _ (List.mem_cons_self)
   have e2:=cW _ (List.mem_cons_of_mem _ (List.mem_cons_self))
   have e3:=cW _ (List.mem_cons_of_mem _ (List.mem_cons_of_mem _ (List.mem_cons_self)))
   simp at e1 e2 e3;exact ⟨e1,e2,e3⟩
  split at ak<;>try (cases ak;done)
  ·rename_i dM; rw [dM] at hx
   cases ak
   obtain ⟨e1,e2,e3⟩:=obs rfl
   cases hx with
   |sl=>exact ⟨rfl,_,fin _ _ _ e1 e2 e3,.cg _⟩
   |bH=>exact ⟨rfl,_,fin _ _ _ e1 e2 e3,.cg _⟩
  ·rename_i dM; rw [dM] at hx
   cases ak
   obtain ⟨e1,e2,e3⟩:=obs rfl
   cases hx with
   |fS _ _ _ hd =>
    obtain ⟨b,cap,e,_⟩:=hd
    cases e
    exact ⟨rfl,_,fin _ _ _ e1 e2 e3,.cg _⟩
  ·rename_i dM; rw [dM] at hx
   cases ak
   obtain ⟨e1,e2,e3⟩:=obs rfl
   cases hx with
   |cg=>exact ⟨rfl,_,fin _ _ _ e1 e2 e3,.cg _⟩
 ·have Le:Tj=none:=by
   cases Tj with
   |none=>rfl
   |some q=>simp only [BN] at h3;cases hq:dL q<;>simp [hq] at h3
  split at ak<;>try (cases ak;done)
  ·rename_i id te l len dM
   rw [dM] at hx
   split at ak<;>try (cases ak;done)
   rename_i Tl
   split at ak<;>try (cases ak;done)
   rename_i za zb Zi Zj
   cases ak
   have e1:=cW _ (List.mem_cons_self)
   have e2:=cW _ (List.mem_cons_of_mem _ (List.mem_cons_self))
   have e3:=cW _ (List.mem_cons_of_mem _ (List.mem_cons_of_mem _ (List.mem_cons_self)))
   simp only [decide_eq_true_eq] at e1 e2 e3
   have e3':zb<=(len:Int):=e3
   have g1:=eM he h1 Zi
   have g2:=eM he h2 Zj
   refine ⟨rfl,?_⟩
   cases hx with
   |bH _ _ _ base =>
    refine ⟨_,run base 0 0 za.toNat zb.toNat ⟨za,rfl,e1,g1⟩ ⟨zb,rfl,by omega,g2⟩ (by omega) (by omega) (by omega) Le,?_⟩
    have ha:za.toNat=0:=by omega
    have hb:zb.toNat=0:=by omega
    simp only [ha,hb,Nat.sub_self,if_true]
    exact .bH _ _ _ _
   |sl _ _ _ _ cap L hL q1 q2 q3 =>
    refine ⟨_,run _ len cap za.toNat zb.toNat ⟨za,rfl,e1,g1⟩ ⟨zb,rfl,by omega,g2⟩ (by omega) (by omega) q1 Le,?_⟩
    by_cases hc:cap=za.toNat
    ·rw [if_pos hc, show zb.toNat - za.toNat = 0 by omega, show cap - za.toNat = 0 by omega]
     exact .bH _ _ _ _
    ·rw [if_neg hc]
     have := Rel.sl (ι := ι) id te (l + za.toNat) (zb.toNat - za.toNat) (cap - za.toNat) L hL (by omega)
      (by rw [show l+za.toNat+(cap - za.toNat)=l+cap by omega];exact q2) (by omega)
     simp only [Option.map_some,Addr.add_mid]
     rw [Nat.add_mul,<-Nat.add_assoc,Tl] at this
     rw [Tl];exact this
  ·rename_i te xs dM
   rw [dM] at hx
   split at ak<;>try (cases ak;done)
   rename_i Tl
   split at ak<;>try (cases ak;done)
   rename_i za zb Zi Zj
   cases ak
   have e1:=cW _ (List.mem_cons_self)
   have e2:=cW _ (List.mem_cons_of_mem _ (List.mem_cons_self))
   have e3:=cW _ (List.mem_cons_of_mem _ (List.mem_cons_of_mem _ (List.mem_cons_self)))
   simp only [decide_eq_true_eq] at e1 e2 e3
   have e3':zb<=(xs.length:Int):=e3
   have g1:=eM he h1 Zi
   have g2:=eM he h2 Zj
   refine ⟨rfl,?_⟩
   cases hx with
   |fS _ _ _ hd =>
    obtain ⟨base,cap,e,hle,hd⟩:=hd
    cases e
    refine ⟨_,run base xs.length cap za.toNat zb.toNat ⟨za,rfl,e1,g1⟩ ⟨zb,rfl,by omega,g2⟩ (by omega) (by omega) hle Le,?_⟩
    have hlen:((xs.drop za.toNat).take (zb.toNat - za.toNat)).length=zb.toNat - za.toNat:=by simp;omega
    refine .fS _ _ _ ⟨_,_,by rw [hlen],by omega,?_⟩
    by_cases hz:zb.toNat - za.toNat=0
    ·left;rw [hz];simp
    ·right
     rcases hd with rfl|⟨b,o,us,rfl,hrd,hc⟩
     ·simp at e3';omega
     ·rw [if_neg (by omega)]
      refine ⟨b,o+za.toNat * ff,(us.drop (za.toNat * te.sz)).take ((zb.toNat - za.toNat) * te.sz),by simp [Addr.add_mid],?_,?_⟩
      ·rw [<-Tl];exact hrd.sub _ _
      ·exact (hc.drop (fun _ _=>ah.length) _).take (fun _ _=>ah.length) _
  ·rename_i dM
   rw [dM] at hx
   split at ak<;>try (cases ak;done)
   rename_i za zb Zi Zj
   cases ak
   have e1:=cW _ (List.mem_cons_self)
   have e2:=cW _ (List.mem_cons_of_mem _ (List.mem_cons_self))
   have Lf:za=0:=by simpa using e1
   have e2':zb=0:=by simpa using e2
   subst Lf;subst e2'
   have g1:=eM he h1 Zi
   have g2:=eM he h2 Zj
   cases hx with
   |cg ad =>
    refine ⟨rfl,_,run ad 0 0 0 0 ⟨0,rfl,by omega,g1⟩ ⟨0,rfl,by omega,by simpa using g2⟩ (by omega) (by omega) (by omega) Le,?_⟩
    exact .cg _
theorem AE {k : IntKind} : ∀ {cs : List V} {zs : List Int}, IU k cs = some zs → zs.length = cs.length ∧ ∀ (j : Nat) v, cs[j]? = some v → v = .int k (zs.getD j 0)
 |[],zs,h=>by cases h;exact ⟨rfl,fun j v hv=>by simp at hv⟩
 |v::r,zs,h=>by
  cases v<;>simp only [IU] at h<;>try (cases h;done)
  split at h<;>try (cases h;done)
  rename_i e;subst e
  split at h<;>try (cases h;done)
  rename_i ys hy
  cases h
  obtain ⟨h1,h2⟩:=AE hy
  exact ⟨by simp [h1],fun j v hv=>by
   cases j with
   |zero=>simp at hv;subst hv;rfl
   |succ j=>simpa using h2 j v (by simpa using hv)⟩
theorem Of {e:TypeId} {k:Nat} {g:Bool} (hk:dx P e=some k) (hg:tR P e=some g) {xa:Array Value} {off:Nat} {y:Value} (hoff:off+k<=xa.size) (hy:iI g ((xa.toList.drop off).take k)=some y) :
  (part e xa off).run P w = .ok y w:=by
 have hsz:∀w:World,(sizeOf e).run P w = .ok k w:=by
  unfold dx at hk
  cases hq:P.info? e with
  |none=>simp [hq] at hk
  |some i=>simp [hq] at hk;subst hk;exact fun w=>by simp [sizeOf,typeInfo,hq]
 have hagg:∀w:World,(isAgg e).run P w = .ok g w:=by
  intro w
  unfold tR at hg
  split at hg
  ·rename_i hu;cases hg;unfold isAgg;rw [Sem.run_bind,run_underlying hu w];rfl
  ·rename_i hu;cases hg;unfold isAgg;rw [Sem.run_bind,run_underlying hu w];rfl
  ·rename_i d h1 h2 hu
   cases hg;unfold isAgg;rw [Sem.run_bind,run_underlying hu w]
   cases d<;>simp_all
  ·cases hg
 cases g with
 |true =>
  cases hy
  have:(List.take k (List.drop off xa.toList)).toArray=xa.extract off (off+k):=by
   apply Array.ext';simp [List.extract_eq_take_drop]
  simp [part,hagg,hsz,this]
 |false =>
  have hl:List.take k (List.drop off xa.toList)=[y]:=by
   match h0:List.take k (List.drop off xa.toList),hy with
   |[c],hy=>cases hy;rfl
   |[],hy=>cases hy
   |_::_::_,hy=>cases hy
  have hc:xa[off]?=some y:=by
   have h0:(List.take k (List.drop off xa.toList))[0]?=some y:=by rw [hl];rfl
   rw [List.getElem?_take] at h0
   split at h0
   ·simpa using h0
   ·cases h0
  simp [part,hagg,hc]
theorem DX {t e : TypeId} {n k : Nat} {g : Bool} (hu : P.underlying t = some (.array n e)) (hk : dx P e = some k) (hg : tR P e = some g) {va vi : V} {a ix : Value} (ha : Rel ι μ va a) (hi : Rel ι μ vi ix) {bl : aq} {aC : Nat}
  {ob:List Bool} {v:V} {u:eY} (ak:iL (bu c1 c2 c3 c4 c5 c6) (.NM n k g) [va,vi] bl aC=some (ob,v,u)) (cW:oF ob):u=[]/\∃y,(Instr.index t a ix).run P w = .ok y w/\Rel ι μ v y:=by
 have hsz:∀w:World,(sizeOf e).run P w = .ok k w:=by
  unfold dx at hk
  cases hq:P.info? e with
  |none=>simp [hq] at hk
  |some i=>simp [hq] at hk;subst hk;exact fun w=>by simp [sizeOf,typeInfo,hq]
 simp only [iL] at ak
 split at ak<;>try (cases ak;done)
 rename_i cs kk i heq
 simp only [List.cons.injEq,and_true] at heq
 obtain ⟨rfl,rfl⟩:=heq
 cases hi
 cases ha with
 |agg _ xa p1 p2 p3 =>
 have hR:aM ι μ cs xa.toList:=⟨by simpa using p1,fun i v x hv hx=>p2 i v x hv (by simpa using hx)⟩
 split at ak<;>try (cases ak;done)
 rename_i hlen
 have hlen:=Nat.eq_of_beq_eq_true hlen
 have hxs:xa.size=n * k:=by rw [<-p1];exact hlen
 have fin:∀{m:Nat} {y:Value} {ws:List V} {v:V},m<n->aM ι μ ws ((xa.toList.drop (m * k)).take k)->cD g ws=some v->i=(m:Int)->∃y,(Instr.index t (.agg xa) (.int kk i)).run P w = .ok y w/\Rel ι μ v y:=by
  intro m y ws v hm hr hw hi
  subst hi
  obtain ⟨y,hy,hv⟩:=tU hw hr (fun u hu=>p3 u (List.mem_of_mem_drop (List.mem_of_mem_take hu)))
  have hmk:m * k+k<=xa.size:=by
   rw [hxs]
   have:=Nat.mul_le_mul_right k (show m+1<=n from hm)
   rwa [Nat.add_mul,Nat.one_mul] at this
  refine ⟨y,?_,hv⟩
  have h2:(m:Int)<(n:Int):=by omega
  simp [Instr.index,asIntOf,run_underlying hu,hm,hsz,Of hk hg hmk hy]
 split at ak
 ·rename_i k0 z r _
  split at ak<;>try (cases ak;done)
  rename_i zs hzs
  split at ak<;>try (cases ak;done)
  rename_i v' hw
  cases ak
  have hb:=cW _ (List.mem_singleton.2 rfl)
  simp only [decide_eq_true_eq] at hb
  obtain ⟨q1,q2⟩:=AE hzs
  have iP:i.toNat<n:=by have:=hb.2;simp at this;omega
  refine ⟨rfl,fin (m:=i.toNat) (y:=undef) iP ?_ hw (by omega)⟩
  have hmk:i.toNat * k+k<=n * k:=by
   have:=Nat.mul_le_mul_right k (show i.toNat+1<=n from iP)
   rwa [Nat.add_mul,Nat.one_mul] at this
  refine ⟨by simp [S4];omega,fun m v x hv hx=>?_⟩
  have hm:m<k:=by have:=(List.getElem?_eq_some_iff.1 hv).1;simpa [S4] using this
  have hv2:v = .int k0 (zs.getD (i.toNat * k+m) 0):=by
   simp only [S4,List.getElem?_map,List.getElem?_range hm,Option.map_some,Option.some.injEq] at hv
   rw [<-hv]
   simp only [colZ,List.getD_eq_getElem?_getD,List.getElem?_map,List.getElem?_range iP,Option.map_some,Option.getD_some]
  have hj:i.toNat * k+m<(V.int k0 z::r).length:=by rw [hlen];omega
  have hx2:xa.toList[i.toNat * k+m]?=some x:=by
   rw [List.getElem?_take,if_pos hm,List.getElem?_drop] at hx
   exact hx
  have h1:=q2 (i.toNat * k+m) _ (List.getElem?_eq_getElem hj)
  have h2:=hR.2 (i.toNat * k+m) _ x (List.getElem?_eq_getElem hj) hx2
  rw [h1] at h2
  rw [hv2];exact h2
 ·split at ak <;> try (cases ak; done)
  rename_i m
  split at ak<;>try (cases ak;done)
  rename_i hm
  split at ak<;>try (cases ak;done)
  rename_i ws lE
  split at ak<;>try (cases ak;done)
  rename_i v' hw
  cases ak
  obtain ⟨r1,r2,r3⟩:=hR.rO lE
  exact ⟨rfl,fin (m:=m) (y:=undef) hm r1 hw rfl⟩
theorem DY {t : TypeId} (hu : P.underlying t = some .string) {va vi : V} {a ix : Value} (ha : Rel ι μ va a) (hi : Rel ι μ vi ix) {bl : aq} {aC : Nat}
  {ob:List Bool} {v:V} {u:eY} (ak:iL (bu c1 c2 c3 c4 c5 c6) .wV [va,vi] bl aC=some (ob,v,u)) (cW:oF ob):u=[]/\∃y,(Instr.index t a ix).run P w = .ok y w/\Rel ι μ v y:=by
 simp only [iL] at ak
 split at ak<;>try (cases ak;done)
 rename_i s kk i heq
 simp only [List.cons.injEq,and_true] at heq
 obtain ⟨rfl,rfl⟩:=heq
 cases ha;cases hi
 cases ak
 have hb:=cW _ (List.mem_singleton.2 rfl)
 simp only [decide_eq_true_eq] at hb
 have h2:i.toNat<s.size:=by omega
 refine ⟨rfl,.int .u8 ((s[i.toNat]'h2).toNat),?_,?_⟩
 ·rw [run_index_string w t s kk i hu,dif_pos hb]
 ·have:tQ s i.toNat=((s[i.toNat]'h2).toNat:Int):=by
   have h3:i.toNat<s.data.toList.length:=by simpa using h2
   simp only [tQ,fH,List.getD_eq_getElem?_getD,List.getElem?_map,List.getElem?_eq_getElem h3,Option.map_some,Option.getD_some]
   rfl
  show Rel ι μ (.int .u8 (tQ s i.toNat)) _
  rw [this];exact .int _ _
theorem DZ {t e : TypeId} (hu : P.underlying t = some (.slice e)) {op : BinOp} {neg : Bool} (hop : lH op = some neg) {xo yo : Operand} {va : V} {a : Value} (ha : Rel ι μ va a) {bl : aq} {aC : Nat} {ob : List Bool} {v : V} {u : eY}
  (ak:iL (bu c1 c2 c3 c4 c5 c6) (.NN neg) [va] bl aC=some (ob,v,u)) :
  u=[]/\∃y,(do eqGuard op t xo yo a (.slice none 0 0);binOp op t a (.slice none 0 0):Sem Value).run P w = .ok y w/\Rel ι μ v y:=by
 have hd:∀(d:Nat) (a0:Option Addr) (n c:Nat),(Op.equalIn (d+1) t (.slice a0 n c) (.slice none 0 0)).run P w = .ok a0.isNone w:=fun d a0 n c=>by
  cases a0<;>simp [Op.equalIn,run_underlying hu]
 have key:∀(a0:Option Addr) (n c:Nat),(Op.equal t (.slice a0 n c) (.slice none 0 0)).run P w = .ok a0.isNone w:=fun a0 n c=>hd 9999 a0 n c
 have fin:∀(a0:Option Addr) (n c:Nat) (cc:Bool),neg=false->(a0.isNone=true->cc=true)->∃y,(do eqGuard op t xo yo (.slice a0 n c) (.slice none 0 0);binOp op t (.slice a0 n c) (.slice none 0 0):Sem Value).run P w = .ok y w/\Rel ι μ (.cb cc) y:=fun a0 n c cc hn hc=>by
  subst hn
  cases op<;>simp [lH] at hop
  have hg:=cN (P:=P) (w:=w) .eql t xo yo (a:=.slice a0 n c) (b:=.slice none 0 0) (by simp) (by simp)
  exact ⟨.bool a0.isNone,by simp only [Sem.run_bind,hg,Result.andThen_ok,binOp,key];rfl,.cb _ _ hc⟩
 simp only [iL] at ak
 split at ak<;>try (cases ak;done)
 ·rename_i id t' lo n heq
  simp only [List.cons.injEq,and_true] at heq
  subst heq
  split at ak<;>try (cases ak;done)
  cases ak
  cases ha with
  |sl=>exact ⟨rfl,fin _ _ _ _ rfl (fun h=>by cases h)⟩
  |bH=>exact ⟨rfl,fin _ _ _ _ rfl (fun _=>rfl)⟩
 ·rename_i t' xs heq
  simp only [List.cons.injEq,and_true] at heq
  subst heq
  split at ak<;>try (cases ak;done)
  cases ak
  cases ha with
  |fS _ _ _ hd =>
   obtain ⟨a0,cap,e',hle,hx⟩:=hd
   cases e'
   refine ⟨rfl,fin _ _ _ _ rfl (fun h=>?_)⟩
   rcases hx with rfl|⟨b,o,us,rfl,_⟩
   ·rfl
   ·cases h
theorem BX {t k e : TypeId} (hu : P.underlying t = some (.map k e)) {op : BinOp} {neg : Bool} (hop : lH op = some neg) {xo yo : Operand} {va : V} {a : Value} (ha : Rel ι μ va a) {bl : aq} {aC : Nat} {ob : List Bool} {v : V} {u : eY}
  (ak:iL (bu c1 c2 c3 c4 c5 c6) (.Gu neg) [va] bl aC=some (ob,v,u)) :
  u=[]/\∃y,(do eqGuard op t xo yo a (.map none);binOp op t a (.map none):Sem Value).run P w = .ok y w/\Rel ι μ v y:=by
 have fin:∀(r:Option Nat) (b:Bool),b=(if neg then !r.isNone else r.isNone)->∃y,(do eqGuard op t xo yo (.map r) (.map none);binOp op t (.map r) (.map none):Sem Value).run P w = .ok y w/\Rel ι μ (.tf b) y:=fun r b hb=>by
  have hd:∀d:Nat,(Op.equalIn (d+1) t (.map r) (.map none)).run P w = .ok r.isNone w:=fun d=>by
   cases r<;>simp [Op.equalIn,run_underlying hu]
  have key:(Op.equal t (.map r) (.map none)).run P w = .ok r.isNone w:=hd 9999
  have hg:=cN (P:=P) (w:=w) op t xo yo (a:=.map r) (b:=.map none) (by simp) (by simp)
  subst hb
  cases op<;>simp [lH] at hop<;>subst hop
  ·exact ⟨.bool r.isNone,by simp only [Sem.run_bind,hg,Result.andThen_ok,binOp,key];rfl,.tf _⟩
  ·exact ⟨.bool (!r.isNone),by simp only [Sem.run_bind,hg,Result.andThen_ok,binOp,key];rfl,.tf _⟩
 simp only [iL] at ak
 split at ak<;>try (cases ak;done)
 ·rename_i id heq
  simp only [List.cons.injEq,and_true] at heq
  subst heq
  cases ak
  cases ha with
  |mp _ L hL=>exact ⟨rfl,fin _ _ (by cases neg<;>rfl)⟩
 ·rename_i heq
  simp only [List.cons.injEq,and_true] at heq
  subst heq
  cases ak
  cases ha
  exact ⟨rfl,fin _ _ (by cases neg<;>rfl)⟩
theorem B3 {t e : TypeId} (hu : P.underlying t = some (.pointer e)) {op : BinOp} {neg : Bool} (hop : lH op = some neg) {xo yo : Operand} {va : V} {a : Value} (ha : Rel ι μ va a) {bl : aq} {aC : Nat} {ob : List Bool} {v : V} {u : eY}
  (ak:iL (bu c1 c2 c3 c4 c5 c6) (.Gv neg) [va] bl aC=some (ob,v,u)) :
  u=[]/\∃y,(do eqGuard op t xo yo a (.pointer none);binOp op t a (.pointer none):Sem Value).run P w = .ok y w/\Rel ι μ v y:=by
 have fin:∀(r:Option Addr) (b:Bool),b=(if neg then !r.isNone else r.isNone)->∃y,(do eqGuard op t xo yo (.pointer r) (.pointer none);binOp op t (.pointer r) (.pointer none):Sem Value).run P w = .ok y w/\Rel ι μ (.tf b) y:=fun r b hb=>by
  have hd:∀d:Nat,(Op.equalIn (d+1) t (.pointer r) (.pointer none)).run P w = .ok r.isNone w:=fun d=>by
   cases r<;>simp [Op.equalIn,run_underlying hu]
  have key:(Op.equal t (.pointer r) (.pointer none)).run P w = .ok r.isNone w:=hd 9999
  have hg:=cN (P:=P) (w:=w) op t xo yo (a:=.pointer r) (b:=.pointer none) (by simp) (by simp)
  subst hb
  cases op<;>simp [lH] at hop<;>subst hop
  ·exact ⟨.bool r.isNone,by simp only [Sem.run_bind,hg,Result.andThen_ok,binOp,key];rfl,.tf _⟩
  ·exact ⟨.bool (!r.isNone),by simp only [Sem.run_bind,hg,Result.andThen_ok,binOp,key];rfl,.tf _⟩
 simp only [iL] at ak
 split at ak<;>try (cases ak;done)
 ·rename_i id off heq
  simp only [List.cons.injEq,and_true] at heq
  subst heq
  cases ak
  cases ha with
  |ptr _ _ L hL=>exact ⟨rfl,fin _ _ (by cases neg<;>rfl)⟩
 ·rename_i heq
  simp only [List.cons.injEq,and_true] at heq
  subst heq
  cases ak
  cases ha
  exact ⟨rfl,fin _ _ (by cases neg<;>rfl)⟩
theorem Inv.I9 {bl : aq} {n id : Nat} {L : Loc} {B B' : lD} (h : Inv P Y ι μ ⟨n, bl⟩ w) (hb : ay id bl = some B) (hL : μ id = some L) {o o' : Obj} (ho : w.heap[L.b]? = some o) (hnc : ∀ c e f, o ≠ .cells c e f) (Za : jM (some o) (some o'))
  (hnew:ef P Y.own ι μ id (w.putObj L.b o') B'):Inv P Y ι μ ⟨n,(id,B')::bD id bl⟩ (w.putObj L.b o'):=by
 have hold:Y.own L.b:=((h.live id _ hb).loc hL).1
 have bX:∀k,k≠L.b->(w.putObj L.b o').heap[k]?=w.heap[k]?:=fun k hk=>World.putObj_heap_other hk
 refine ⟨⟨h.below.os, h.below.tape, h.below.output, by rw [World.putObj_size]; exact h.below.size, fun k hk hx => ?_, h.below.dr, fun k hk => (h.below.maps k hk).trans (by
   by_cases e:k=L.b
   ·subst e;rw [ho,World.putObj_heap_same (Array.getElem?_eq_some_iff.1 ho).1];exact Za
   ·exact .eq (bX k e))⟩,h.i0,h.iB,fun b o2 x hx=>?_,h.m0,h.nx,fun i B2 hB=>?_,fun i i' B1 B2 L1 L2 iP fF=>?_,fun i B2 hB=>?_,h.gl⟩
 ·rw [bX k (Ctx.l7 hold hk hx)];exact h.below.block k hk hx
 ·have := h.rd b o2 x hx
  have hne:b≠L.b:=fun e=>by
   subst e
   cases o<;>simp [World.cell?,ho] at this
   exact hnc _ _ _ rfl
  unfold World.cell? at this ⊢
  simp only at this ⊢
  rw [bX b hne];exact this
 ·simp only at hB
  rw [aH] at hB
  split at hB
  ·rename_i e;subst e;cases hB;exact hnew
  ·rename_i e
   refine (h.live i B2 hB).mono (ax.le_refl _) (Mu.le_refl _) (fun h=>h) (fun L' hL'=>bX _ (fun e'=>e (h.inj i id B2 _ L' L hB hb hL' hL e'))) (fun _ _ h=>h)
 ·simp only at iP fF
  rw [aH] at iP fF
  have hx:∀j Bj,(if j=id then some B' else ay j bl)=some Bj->∃Bj',ay j bl=some Bj':=fun j Bj hj=>by
   split at hj
   ·rename_i e;subst e;exact ⟨_,hb⟩
   ·exact ⟨_,hj⟩
  obtain ⟨_,q1⟩:=hx _ _ iP
  obtain ⟨_,q2⟩:=hx _ _ fF
  exact h.inj i i' _ _ L1 L2 q1 q2
 ·simp only at hB
  rw [aH] at hB
  split at hB
  ·rename_i e;subst e;exact h.lt _ _ hb
  ·exact h.lt _ _ hB
theorem gy.rel {g:Bool} {t:Ty} {x:t.den} {v:Value} (h:gy ι g t x v):Rel ι μ (cG.ji g (cG t x)) v:=by
 obtain ⟨xs,h1,h2⟩:=h
 exact Ap h2 (fJ h1) (ah.one h1)
theorem tZ {t:Ty} {g:Bool} {v:V} {x:t.den} {z:Value} (h:keyOf (bu c1 c2 c3 c4 c5 c6) t g v=some x) (hr:Rel ι μ v z):gy ι g t x z:=by
 unfold keyOf at h
 split at h<;>try (cases h;done)
 rename_i cs hun
 split at h<;>try (cases h;done)
 rename_i x0 ho
 cases h
 obtain ⟨zs,r1,r2⟩:=DM hun hr
 obtain ⟨_,f1⟩:=kJ ho r1
 obtain ⟨us,ws,e1,hd,DN⟩:=f1 ι (ax.le_refl _) (fun _ _ _ hm=>by cases hm)
 rw [DN.of_nil,List.append_nil] at e1
 exact ⟨zs,by rw [e1];exact hd,r2⟩
theorem xB (a b:ByteArray):(a==b)=(a.data.toList==b.data.toList):=by
 obtain ⟨x⟩:=a
 obtain ⟨y⟩:=b
 show (x==y)=(x.toList==y.toList)
 rw [Bool.eq_iff_iff]
 simp [Array.toList_inj]
theorem mH : ∀ (t : Ty) (a b : t.den), dV t a b = dV t b a
 | .unit,_,_=>rfl
 | .bool,a,b=>by cases a<;>cases b<;>rfl
 | .str,a,b=>by
  simp only [dV]
  rw [Bool.eq_iff_iff];simp only [beq_iff_eq];exact ⟨Eq.symm,Eq.symm⟩
 | .int _,a,b=>by
  simp only [dV]
  rw [Bool.eq_iff_iff];simp only [beq_iff_eq];exact ⟨Eq.symm,Eq.symm⟩
 | .list _,_,_=>rfl
 | .prod s t,x,y=>by simp only [dV,mH s x.1 y.1,mH t x.2 y.2]
 | .cL _ _ t,x,y=>mH t x y
theorem bS : ∀ {t : Ty} {a b : t.den}, dV t a b = true → a = b
 | .unit,_,_,_=>rfl
 | .bool,a,b,h=>by simpa [dV] using h
 | .str,a,b,h=>by
  simp only [dV,beq_iff_eq] at h
  obtain ⟨a⟩:=a
  obtain ⟨b⟩:=b
  simp [Array.toList_inj] at h
  rw [h]
 | .int _,a,b,h=>by simpa [dV] using h
 | .list _,_,_,h=>by simp [dV] at h
 | .prod s t,x,y,h=>by
  simp only [dV,Bool.and_eq_true] at h
  exact Prod.ext (bS h.1) (bS h.2)
 | .cL _ _ t,x,y,h=>bS (t:=t) h
section
variable {t:Ty} {β:Type} {es es':List (t.den×β)} {x:t.den}
theorem ua (h:es.Perm es'):aR t es x=aR t es' x:=by
 unfold aR
 rw [Bool.eq_iff_iff]
 simp only [List.any_eq_true,h.mem_iff]
theorem uc (h:aR t es x=false) {e:t.den×β} (he:e∈es):dV t x e.1=false:=by
 unfold aR at h
 have:=List.any_eq_false.1 h e he
 simpa using this
theorem gQ {d : β} : ∀ {es : List (t.den × β)}, aR t es x = false → az t d es x = d
 |[],_=>rfl
 |e::r,h=>by
  have h1:=uc h (List.mem_cons_self ..)
  simp only [az,h1,Bool.false_eq_true,if_false]
  refine gQ ?_
  simpa [aR,h1] using h
theorem nD {d : β} : ∀ {es : List (t.den × β)}, KD t es → ∀ {e : t.den × β}, e ∈ es → dV t x e.1 = true → az t d es x = e.2
 |[],_,_,h,_=>by cases h
 |a::r,hd,e,he,hx=>by
  unfold KD at hd
  rw [List.pairwise_cons] at hd
  rcases List.mem_cons.1 he with rfl|he
  ·simp [az,hx]
  ·have:dV t x a.1=false:=by
    cases h:dV t x a.1 with
    |false=>rfl
    |true =>
     have e1:=bS h
     subst e1
     have:=hd.1 e he
     rw [hx] at this;cases this
   simp only [az,this,Bool.false_eq_true,if_false]
   exact nD hd.2 he hx
theorem AF {d:β} (h:es.Perm es') (hd:KD t es) (hd':KD t es'):az t d es x=az t d es' x:=by
 cases hm:aR t es x with
 |false=>rw [gQ hm,gQ (by rw [<-ua h];exact hm)]
 |true =>
  unfold aR at hm
  obtain ⟨e,he,hx⟩:=List.any_eq_true.1 hm
  rw [nD hd he hx,nD hd' (h.mem_iff.1 he) hx]
theorem KD.perm (h:es.Perm es') (hd:KD t es):KD t es':=by
 unfold KD at *
 exact (h.pairwise_iff (fun {a b} h=>by rw [mH];exact h)).1 hd
theorem kj {v : β} : ∀ {es : List (t.den × β)}, (qt t es x v).Perm ((x, v) :: es)
 |[]=>.refl _
 |e::r=>by
  unfold qt
  split
  ·exact .refl _
  ·exact (kj.cons e).trans (.swap _ _ _)
theorem pU {v:β} (h:es.Perm es'):(bq t es x v).Perm (bq t es' x v):=by
 unfold bq
 rw [<-ua h]
 split
 ·exact h.map _
 ·exact kj.trans ((h.cons _).trans kj.symm)
theorem oJ {v:β} (h:aR t es x=false):(es++[(x,v)]).Perm (bq t es x v):=by
 unfold bq
 rw [h,if_neg (by simp)]
 exact List.perm_append_comm.trans kj.symm
theorem wj {v:β} (hd:KD t es) {j:Nat} {e:t.den×β} (he:es[j]?=some e) (hx:dV t x e.1=true):es.set j (x,v)=bq t es x v:=by
 unfold bq
 rw [if_pos (by unfold aR;exact List.any_eq_true.2 ⟨e,List.mem_of_getElem? he,hx⟩)]
 apply List.ext_getElem?
 intro i
 rw [List.getElem?_set,List.getElem?_map]
 split
 ·rename_i hij; subst hij
  rw [if_pos (List.getElem?_eq_some_iff.1 he).1,he]
  simp [hx]
 ·rename_i hij
  cases hi:es[i]? with
  |none=>rfl
  |some e' =>
   have hne:dV t x e'.1=false:=by
    cases h:dV t x e'.1 with
    |false=>rfl
    |true =>
     have e1:=bS hx
     subst e1
     obtain ⟨hj,q1⟩:=List.getElem?_eq_some_iff.1 he
     obtain ⟨hi',q2⟩:=List.getElem?_eq_some_iff.1 hi
     have hp:=List.pairwise_iff_getElem.1 hd
     rcases Nat.lt_or_gt_of_ne hij with h1|h1
     ·have := hp j i hj hi' h1
      rw [q1,q2,h] at this;cases this
     ·have := hp i j hi' hj h1
      rw [q1,q2,mH,h] at this;cases this
   simp [hne]
theorem KD.iG {v:β} (hd:KD t es):KD t (bq t es x v):=by
 cases hm:aR t es x with
 |false =>
  refine KD.perm (oJ hm) ?_
  unfold KD
  rw [List.pairwise_append]
  refine ⟨hd,by simp,fun a ha b hb=>?_⟩
  rw [List.mem_singleton] at hb;subst hb
  rw [mH]
  exact uc hm ha
 |true =>
  unfold bq
  rw [hm,if_pos rfl]
  unfold KD
  rw [List.pairwise_map]
  refine List.Pairwise.imp ?_ hd
  intro a b h
  split<;>split
  ·rename_i h1 h2
   have e1:=bS h1
   have e2:=bS h2
   rw [<-e1,<-e2] at h
   rw [<-e1] at h1;rw [h] at h1;cases h1
  ·rename_i h1 h2
   have e1:=bS h1
   rw [<-e1] at h;exact h
  ·rename_i h1 h2
   have e1:=bS h2
   rw [<-e1] at h;exact h
  ·exact h
end
theorem lM:∀{k1 k2:List Kd} {a1 a2 b1 b2:List V} {p q:Bool},aN (bu c1 c2 c3 c4 c5 c6) k1 a1 b1=some p->aN (bu c1 c2 c3 c4 c5 c6) k2 a2 b2=some q ->
  aN (bu c1 c2 c3 c4 c5 c6) (k1++k2) (a1++a2) (b1++b2)=some (p&&q)
 |[],k2,a1,a2,b1,b2,p,q,h1,h2=>by
  cases a1<;>cases b1<;>simp [aN] at h1
  subst h1
  simpa using h2
 |k::k1,k2,as,a2,bs,b2,p,q,h1,h2=>by
  obtain ⟨a,as,b,bs,rfl,rfl⟩:=dD h1
  simp only [List.cons_append]
  cases k
  ·simp only [aN] at h1 ⊢
   split at h1<;>try (cases h1;done)
   rename_i u v hu hv
   split at h1<;>try (cases h1;done)
   rename_i r hr
   cases h1
   rw [lM hr h2]
   simp [Bool.and_assoc]
  ·cases a <;> cases b <;> simp only [aN] at h1 <;> try (cases h1; done)
   split at h1<;>try (cases h1;done)
   rename_i hk
   split at h1<;>try (cases h1;done)
   rename_i r hr
   cases h1
   simp only [aN,if_pos hk]
   rw [lM hr h2]
   simp [Bool.and_assoc]
  ·cases a <;> cases b <;> simp only [aN] at h1 <;> try (cases h1; done)
   split at h1<;>try (cases h1;done)
   rename_i r hr
   cases h1
   simp only [aN]
   rw [lM hr h2]
   simp [Bool.and_assoc]
theorem oK : ∀ {t : Ty} {ks : List Kd} (x y : t.den), bL t = some ks → aN (bu c1 c2 c3 c4 c5 c6) ks (cG t x) (cG t y) = some (dV t x y)
 | .unit,ks,x,y,h=>by cases h;rfl
 | .bool,ks,x,y,h=>by cases h;simp [cG,aN,K4,dV]
 | .str,ks,x,y,h=>by cases h;simp [cG,aN,dV,ByteArray.toList_eq]
 | .int k,ks,x,y,h=>by cases h;simp [cG,aN,dV]
 | .list _,ks,x,y,h=>by cases h
 | .cL _ _ _,ks,x,y,h=>by cases h
 | .prod a b,ks,x,y,h=>by
  simp only [bL] at h
  split at h<;>try (cases h;done)
  rename_i k1 k2 h1 h2
  cases h
  simp only [cG,dV]
  exact lM (oK x.1 y.1 h1) (oK x.2 y.2 h2)
theorem jo {ι ι' : ax} : ∀ {t : Ty} {ks : List Kd} {x : t.den} {vs : List Value}, bL t = some ks → ah ι t x vs → (∀ y ws, ah ι' t y ws → x = y → ws = vs) ∧ ∀ v ∈ vs, ∀ n, Instr.sameBits n v v = true
 | .unit,ks,x,vs,h,hc=>by
  simp only [ah] at hc;subst hc
  exact ⟨fun y ws hw _=>by simpa [ah] using hw,by simp⟩
 | .bool,ks,x,vs,h,hc=>by
  simp only [ah] at hc;subst hc
  refine ⟨fun y ws hw e=>by simp only [ah] at hw;rw [hw,e],fun v hv n=>?_⟩
  rw [List.mem_singleton] at hv;subst hv;cases n<;>simp [Instr.sameBits]
 | .str,ks,x,vs,h,hc=>by
  simp only [ah] at hc;subst hc
  refine ⟨fun y ws hw e=>by simp only [ah] at hw;rw [hw,e],fun v hv n=>?_⟩
  rw [List.mem_singleton] at hv;subst hv;cases n<;>simp [Instr.sameBits,xB]
 | .int k,ks,x,vs,h,hc=>by
  simp only [ah] at hc;subst hc
  refine ⟨fun y ws hw e=>by simp only [ah] at hw;rw [hw,e],fun v hv n=>?_⟩
  rw [List.mem_singleton] at hv;subst hv;cases n<;>simp [Instr.sameBits]
 | .list _,ks,x,vs,h,hc=>by cases h
 | .cL _ _ _,ks,x,vs,h,hc=>by cases h
 | .prod a b,ks,x,vs,h,hc=>by
  simp only [bL] at h
  split at h<;>try (cases h;done)
  rename_i k1 k2 h1 h2
  obtain ⟨us,ws,rfl,d1,d2⟩:=hc
  obtain ⟨p1,p2⟩:=jo (ι':=ι') h1 d1
  obtain ⟨q1,q2⟩:=jo (ι':=ι') h2 d2
  refine ⟨fun y vs hv e=>?_,fun v hv n=>?_⟩
  ·obtain ⟨us', ws', rfl, d1', d2'⟩ := hv
   rw [p1 _ _ d1' (by rw [e]),q1 _ _ d2' (by rw [e])]
  ·rcases List.mem_append.1 hv with hv | hv
   ·exact p2 v hv n
   ·exact q2 v hv n
theorem rY {em:Bool} {n:Nat} {xs:Array Value}:∀{fs:List Field} {k:Nat} {ks:List Kd},uT P k fs=some ks->k+ks.length<=xs.size ->
  (forIn (m:=Sem) fs PUnit.unit (fun f (_:PUnit) =>
   if f.name ≠ "_" then part f.type xs f.offset >>= fun p=>Instr.checkKey em (n+1) f.type p >>= fun _=>pure (ForInStep.yield PUnit.unit)
   else pure (ForInStep.yield PUnit.unit))).run P w = .ok PUnit.unit w
 |[],k,ks,h,hl=>by simp
 |f::r,k,ks,h,hl=>by
  unfold uT at h
  split at h<;>try (cases h;done)
  rename_i hn
  obtain ⟨hname,hoff⟩:=hn
  have step:∀{d:TypeDesc} {ks':List Kd},P.underlying f.type=some d->(match d with | .struct _=>false | .array _ _=>false | .interface _=>false|_=>true)=true->uT P (k+1) r=some ks'->ks.length=ks'.length+1 ->
    (forIn (m:=Sem) (f::r) PUnit.unit (fun f (_:PUnit) =>
     if f.name ≠ "_" then part f.type xs f.offset >>= fun p=>Instr.checkKey em (n+1) f.type p >>= fun _=>pure (ForInStep.yield PUnit.unit)
     else pure (ForInStep.yield PUnit.unit))).run P w = .ok PUnit.unit w:=by
   intro d ks' hu hd hks hl'
   have hagg:(isAgg f.type).run P w = .ok false w:=by
    unfold isAgg
    rw [Sem.run_bind,run_underlying hu w]
    cases d<;>simp_all
   obtain ⟨x,hx⟩:∃x,xs[k]?=some x:=⟨xs[k],Array.getElem?_eq_getElem (by omega)⟩
   have p1:(part f.type xs f.offset).run P w = .ok x w:=by simp [part,hagg,hoff,hx]
   have p2:(Instr.checkKey em (n+1) f.type x).run P w = .ok () w:=by
    unfold Instr.checkKey
    rw [Sem.run_bind,run_underlying hu w]
    cases d<;>first|(cases hd;done)|simp
   have ih:=rY (em:=em) (n:=n) (xs:=xs) hks (by omega)
   simp only [List.forIn_cons,Sem.run_bind,if_pos hname,p1,p2,Result.andThen_ok,Sem.run_pure]
   exact ih
  split at h<;>try (cases h;done)
  all_goals
   rename_i ks' hu hks
   cases h
   exact step hu rfl hks rfl
theorem ud : ∀ {t : Ty} {ks : List Kd}, bL t = some ks → t.sz = ks.length
 | .unit,ks,h=>by cases h;rfl
 | .bool,ks,h=>by cases h;rfl
 | .str,ks,h=>by cases h;rfl
 | .int k,ks,h=>by cases h;rfl
 | .list _,ks,h=>by cases h
 | .cL _ _ _,ks,h=>by cases h
 | .prod a b,ks,h=>by
  simp only [bL] at h
  split at h<;>try (cases h;done)
  rename_i k1 k2 h1 h2
  cases h
  simp [Ty.sz,ud h1,ud h2]
structure ue (P:Program) (k:TypeId) (kt:Ty) (kg:Bool) (ι:ax) (w:World) (x:kt.den) (z:Value):Prop where
 check:∀em,(Instr.checkKey em 10000 k z).run P w = .ok () w
 stays:(Instr.keyThatStays z z).run P w = .ok z w
 same:∀{y:kt.den} {z':Value},gy ι kg kt y z'->dV kt x y=true->z'=z
 find:∃A:List MapEntry->Nat->Option (Nat×Value)->Prop,(∀ms o,A ms 0 o->(Instr.findKey k z ms).run P w = .ok o w)/\(∀i,A [] i none) /\
  (∀m r i y,gy ι kg kt y m.key->dV kt x y=true->A (m::r) i (some (i,m.val)))/\∀m r i y o,gy ι kg kt y m.key->dV kt x y=false->A r (i+1) o->A (m::r) i o
theorem pV {k:TypeId} {kt:Ty} {kg:Bool} (h:wY P k=some (kt,kg)) {x:kt.den} {z:Value} (hz:gy ι kg kt x z):ue P k kt kg ι w x z:=by
 unfold wY at h
 split at h<;>try (cases h;done)
 ·rename_i i hu
  cases h
  obtain ⟨xs,h1,h2⟩:=hz
  cases h1;cases h2
  have hk:MapKept.IsKey (.int i) (.int i x):=rfl
  have q:∀{y:(Ty.int i).den} {z':Value},gy ι false (.int i) y z'->Instr.sameNow (.int i) (.int i x) z'=some (dV (.int i) x y):=fun {y z'} tK=>by
   obtain ⟨ys,h3,h4⟩:=tK
   cases h3;cases h4
   simp [Instr.sameNow,dV]
  refine ⟨fun em=>MapKept.run_checkKey hu hk em 9999,MapKept.run_keyThatStays hk,fun {y z'} tK e=>?_,fun ms i' o=>Instr.findNow (.int i) (.int i x) ms i'=some o,fun ms o h=>MapKept.run_findKey hu h,fun _=>rfl,fun m r i' y hy e=>?_,fun m r i' y o hy e h=>?_⟩
  ·obtain ⟨ys, h3, h4⟩ := tK
   cases h3;cases h4
   simp only [dV,beq_iff_eq] at e;rw [e]
  ·have:=q hy;rw [e] at this;simp [Instr.findNow,this]
  ·have:=q hy;rw [e] at this;simp [Instr.findNow,this,h]
 ·rename_i hu
  cases h
  obtain ⟨xs,h1,h2⟩:=hz
  cases h1;cases h2
  have hk:MapKept.IsKey .string (.string x):=trivial
  have q:∀{y:Ty.str.den} {z':Value},gy ι false .str y z'->Instr.sameNow .string (.string x) z'=some (dV .str x y):=fun {y z'} tK=>by
   obtain ⟨ys,h3,h4⟩:=tK
   cases h3;cases h4
   simp only [Instr.sameNow,dV,xB]
  refine ⟨fun em=>MapKept.run_checkKey hu hk em 9999,MapKept.run_keyThatStays hk,fun {y z'} tK e=>?_,fun ms i' o=>Instr.findNow .string (.string x) ms i'=some o,fun ms o h=>MapKept.run_findKey hu h,fun _=>rfl,fun m r i' y hy e=>?_,fun m r i' y o hy e h=>?_⟩
  ·obtain ⟨ys, h3, h4⟩ := tK
   cases h3;cases h4
   have:=bS e;subst this;rfl
  ·have:=q hy;rw [e] at this;simp [Instr.findNow,this]
  ·have:=q hy;rw [e] at this;simp [Instr.findNow,this,h]
 ·rename_i fs hu
  split at h<;>try (cases h;done)
  rename_i ty ks DV hfl
  split at h<;>try (cases h;done)
  rename_i hc
  cases h
  obtain ⟨hks,hst⟩:=hc
  obtain ⟨xs,h1,h2⟩:=hz
  cases h2
  have hlen:xs.length=ks.length:=by rw [h1.length,ud hks]
  have heq:∀{y:kt.den} {z':Value},gy ι true kt y z'->(Op.equal k (.agg xs.toArray) z').run P w = .ok (dV kt x y) w:=fun {y z'} tK=>by
   obtain ⟨ys,h3,h4⟩:=tK
   cases h4
   have hfo:P.fieldsOf k=fs:=by simp [Program.fieldsOf,hu]
   have e1:=run_equalIn_struct (P:=P) w 9999 k xs.toArray ys.toArray (by rw [hfo];exact hu) hst
   rw [hfo] at e1
   have hv:=oK (c1:=fun _ _ _ _=>True) (c2:=fun _ _ _=>True) (c3:=fun _ _ _=>True) (c4:=fun _ _ _ _=>True) (c5:=fun _ _ _ _ _ _=>True) (c6:=fun _ _ _=>True) x y hks
   have e2:=jm (d:=9998) (w:=w) (P:=P) (ι:=ι) (μ:=fun _=>none) hfl (xs:=xs.toArray) (ys:=ys.toArray) (by simpa using fJ h1) (by simpa using fJ h3) hv
   exact e1.trans e2
  refine ⟨fun em=>?_,?_,fun {y z'} tK e=>?_,fun ms i' o=>(Instr.findAsking k (.agg xs.toArray) ms i').run P w = .ok o w,fun ms o h=>?_,fun _=>rfl,fun m r i' y hy e=>?_,fun m r i' y o hy e h=>?_⟩
  ·show (Instr.checkKey em (9999 + 1) k _).run P w = _
   unfold Instr.checkKey
   rw [Sem.run_bind,run_underlying hu w]
   simp only [Result.andThen_ok]
   rw [<-Array.forIn_toList]
   rw [Sem.run_bind]
   have:=rY (P:=P) (w:=w) (em:=em) (n:=9998) (xs:=xs.toArray) hfl (by simp [hlen])
   erw [this]
   rfl
  ·have hs:Instr.sameBits 10000 (.agg xs.toArray) (.agg xs.toArray)=true:=by
    show Instr.sameBits (9999+1) _ _=true
    simp only [Instr.sameBits,beq_self_eq_true,Bool.true_and,List.all_eq_true]
    intro p hp
    obtain ⟨i,hi,e⟩:=List.getElem_of_mem hp
    rw [List.getElem_zip] at e
    rw [<-e]
    exact (jo (ι':=ι) hks h1).2 _ (List.getElem_mem _) 9999
   simp [Instr.keyThatStays,hs]
  ·obtain ⟨ys, h3, h4⟩ := tK
   cases h4
   rw [(jo (ι':=ι) hks h1).1 _ _ h3 (bS e)]
  ·rw [run_findKey_eq w (by rw [hu])];exact h
  ·have:=heq hy;rw [e] at this;simp [Instr.findAsking,this]
  ·have:=heq hy;rw [e] at this;simp [Instr.findAsking,this,h]
theorem Og {kt vt : Ty} {kg vg : Bool} {x : kt.den} {z : Value} {A : List MapEntry → Nat → Option (Nat × Value) → Prop} (hsame : ∀ {y : kt.den} {z' : Value}, gy ι kg kt y z' → dV kt x y = true → z' = z) (h0 : ∀ i, A [] i none)
  (hy1:∀m r i y,gy ι kg kt y m.key->dV kt x y=true->A (m::r) i (some (i,m.val))) (Xq:∀m r i y o,gy ι kg kt y m.key->dV kt x y=false->A r (i+1) o->A (m::r) i o) (dflt:vt.den) :
  ∀{es:List (kt.den×vt.den)} {ms:List MapEntry} (i:Nat),fI ι kt kg vt vg es ms ->
  (aR kt es x=false/\A ms i none) \/
  (aR kt es x=true/\∃j m,A ms i (some (i+j,m.val))/\ms[j]?=some m/\m.key=z/\gy ι vg vt (az kt dflt es x) m.val/\∃e,es[j]?=some e/\dV kt x e.1=true)
 |[],ms,i,h=>by simp [fI] at h;subst h;exact .inl ⟨rfl,h0 i⟩
 |e::es,ms,i,h=>by
  obtain ⟨m,r,rfl,h1,h2,h3⟩:=h
  cases hd:dV kt x e.1 with
  |true=>exact .inr ⟨by simp [aR,hd],0,m,hy1 m r i _ h1 hd,rfl,hsame h1 hd,by simp [az,hd];exact h2,e,rfl,hd⟩
  |false =>
   rcases Og hsame h0 hy1 Xq dflt (i+1) h3 with ⟨r1,r2⟩|⟨r1,j,m',r2,r3,r4,r5,e',r6,r7⟩
   ·refine .inl ⟨?_, Xq m r i _ _ h1 hd r2⟩
    simp only [aR] at r1 ⊢
    simp [hd,r1]
   ·refine .inr ⟨?_, j + 1, m', ?_, by simpa using r3, r4, by simp [az, hd]; exact r5, e', by simpa using r6, r7⟩
    ·simp only [aR] at r1 ⊢
     simp [hd,r1]
    ·have := Xq m r i _ _ h1 hd r2
     rwa [show i+1+j=i+(j+1) by omega] at this
theorem AG {k:TypeId} {kt vt:Ty} {kg vg:Bool} {x:kt.den} {z:Value} (hk:ue P k kt kg ι w x z) (dflt:vt.den) {es:List (kt.den×vt.den)} {ms:List MapEntry} (h:fI ι kt kg vt vg es ms) :
  (aR kt es x=false/\(Instr.findKey k z ms).run P w = .ok none w) \/
  (aR kt es x=true/\∃j m,(Instr.findKey k z ms).run P w = .ok (some (j,m.val)) w/\ms[j]?=some m/\m.key=z/\gy ι vg vt (az kt dflt es x) m.val/\∃e,es[j]?=some e/\dV kt x e.1=true):=by
 obtain ⟨A,a1,a2,a3,a4⟩:=hk.find
 rcases Og hk.same a2 a3 a4 dflt 0 h with ⟨r1,r2⟩|⟨r1,j,m,r2,r3,r4,r5,r6⟩
 ·exact .inl ⟨r1,a1 _ _ r2⟩
 ·exact .inr ⟨r1,j,m,by have:=a1 _ _ r2;rwa [Nat.zero_add] at this,r3,r4,r5,r6⟩
theorem fI.set {kt vt : Ty} {kg vg : Bool} {x : kt.den} {y : vt.den} {z zv : Value} (hx : gy ι kg kt x z) (hy : gy ι vg vt y zv) : ∀ {es : List (kt.den × vt.den)} {ms : List MapEntry} {j : Nat} {m : MapEntry}, fI ι kt kg vt vg es ms → m.key = z → m.val = zv → fI ι kt kg vt vg (es.set j (x, y)) (ms.set j m)
 |[],ms,j,m,h,_,_=>by simp [fI] at h;subst h;simp [fI]
 |e::es,ms,0,m,h,hk,hv=>by
  obtain ⟨m0,r,rfl,h1,h2,h3⟩:=h
  exact ⟨m,r,rfl,by rw [hk];exact hx,by rw [hv];exact hy,h3⟩
 |e::es,ms,j+1,m,h,hk,hv=>by
  obtain ⟨m0,r,rfl,h1,h2,h3⟩:=h
  exact ⟨m0,r.set j m,rfl,h1,h2,fI.set hx hy h3 hk hv⟩
theorem fI.snoc {kt vt : Ty} {kg vg : Bool} {x : kt.den} {y : vt.den} {m : MapEntry} (hx : gy ι kg kt x m.key) (hy : gy ι vg vt y m.val) : ∀ {es : List (kt.den × vt.den)} {ms : List MapEntry}, fI ι kt kg vt vg es ms → fI ι kt kg vt vg (es ++ [(x, y)]) (ms ++ [m])
 |[],ms,h=>by simp [fI] at h;subst h;exact ⟨m,[],rfl,hx,hy,rfl⟩
 |e::es,ms,h=>by
  obtain ⟨m0,r,rfl,h1,h2,h3⟩:=h
  exact ⟨m0,r++[m],rfl,h1,h2,fI.snoc hx hy h3⟩
theorem eN {bl:aq} {kt vt:Ty} {kg vg:Bool} {id:Nat} {es:List (kt.den×vt.den)} (h:jK bl kt kg vt vg id=some es):ay id bl=some (.map kt kg vt vg es):=by
 unfold jK at h
 split at h<;>try (cases h;done)
 rename_i Nu Xi Nv S5 es' hb
 split at h<;>try (cases h;done)
 rename_i hg
 obtain ⟨rfl,rfl⟩:=hg
 unfold IV at h
 split at h<;>try (cases h;done)
 rename_i hc
 obtain ⟨rfl,rfl⟩:=hc
 cases h
 exact hb
theorem GN {e:TypeId} {vt:Ty} {vg:Bool} (h:As P e=some (vt,vg)):∃z,(∀w:World,(zeroValue e).run P w = .ok z w)/\gy ι vg vt vt.zero z:=by
 unfold As at h
 split at h<;>try (cases h;done)
 rename_i ty g i _ _ hi
 split at h<;>try (cases h;done)
 rename_i z hz
 have hrun:∀w:World,(zeroValue e).run P w = .ok z w:=fun w=>by simp [zeroValue,typeInfo,hi,hz]
 split at h<;>try (cases h;done)
 rename_i h0
 split at h<;>try (cases h;done)
 rename_i hg
 cases h
 obtain ⟨us,e1,hd⟩:=gK (ι:=ι) h0
 rw [List.append_nil] at e1
 refine ⟨z,hrun,us,hd,?_⟩
 rw [<-e1,<-hg]
 cases z<;>simp [GD,iI,Value.cells]
theorem kK {t:TypeId} {kt vt:Ty} {kg vg:Bool} (h:kF P t=some (kt,kg,vt,vg)):∃k e,P.underlying t=some (.map k e)/\wY P k=some (kt,kg)/\As P e=some (vt,vg):=by
 unfold kF at h
 split at h<;>try (cases h;done)
 rename_i k e hu
 split at h<;>try (cases h;done)
 rename_i Nu Xi Nv S5 hk hv
 cases h
 exact ⟨k,e,hu,hk,hv⟩
theorem D0 (h:Inv P Y ι μ H w) {aC:Nat} (hn:μ aC=none) (t:TypeId) (kt vt:Ty) (kg vg:Bool) :
  ∃μ' x w',(Instr.makeMap t none).run P w = .ok x w'/\μ.le μ'/\(∀id,id≠aC->μ' id=μ id)/\Inv P Y ι μ' ⟨max H.next (aC+1),(aC,.map kt kg vt vg [])::bD aC H.bl⟩ w'/\Rel ι μ' (.mp aC) x:=by
 let L:Loc:=⟨w.heap.size,0,0,0⟩
 have hle:=Mu.gn (L:=L) hn
 have iF:μ.set aC L aC=some L:=by simp [Mu.set]
 refine ⟨_,_,w.alloc (.map #[] 0),rfl,hle,Mu.tW,h.lay hn (L:=L) rfl ⟨L,#[],0,[],iF,.inl h.below.size,?_,rfl,by simp,by simp,.refl _,.nil⟩,.mp _ L iF⟩
 show (w.heap.push _)[w.heap.size]?=_
 simp
theorem GO (h : Inv P Y ι μ H w) {aC : Nat} {t : TypeId} {kt vt : Ty} {kg vg ok : Bool} (ht : kF P t = some (kt, kg, vt, vg)) {va vi : V} {a ix : Value} (ha : Rel ι μ va a) (hi : Rel ι μ vi ix) {ob : List Bool} {v : V} {u : eY}
  (ak:iL (bu c1 c2 c3 c4 c5 c6) (.gJ kt kg vt vg ok) [va,vi] H.bl aC=some (ob,v,u)):u=[]/\∃y,(Instr.lookup t a ix ok).run P w = .ok y w/\Rel ι μ v y:=by
 obtain ⟨k,e,hu,hk,hv⟩:=kK ht
 simp only [iL] at ak
 split at ak<;>try (cases ak;done)
 rename_i x hx
 have l9:ue P k kt kg ι w x ix:=pV hk (tZ hx hi)
 obtain ⟨z0,Ja,hz1⟩:=GN (ι:=ι) hv
 have fin:∀{b:Bool} {y:vt.den} {yv:Value},gy ι vg vt y yv->Rel ι μ (if ok=true then V.cS [cG.ji vg (cG vt y),.bool b] else cG.ji vg (cG vt y)) (if ok=true then .tuple #[yv,.bool b] else yv):=fun {b y yv} hy=>by
  cases ok with
  |false=>exact hy.rel
  |true =>
   refine .cS _ _ rfl (fun i v x hv hx=>?_)
   match i with
   |0=>simp at hv hx;subst hv;subst hx;exact hy.rel
   |1=>simp at hv hx;subst hv;subst hx;exact .bool _
   |i+2=>simp at hv
 split at ak<;>try (cases ak;done)
 rename_i es Dt
 have hout:u=[]/\v=(if ok=true then V.cS [cG.ji vg (cG vt (az kt vt.zero es x)),.bool (aR kt es x)] else cG.ji vg (cG vt (az kt vt.zero es x))):=by
  cases ok<;>cases ak<;>exact ⟨rfl,rfl⟩
 obtain ⟨rfl,rfl⟩:=hout
 refine ⟨rfl,?_⟩
 cases ha<;>simp only at Dt<;>try (cases Dt;done)
 case mp id L hL =>
  have hb:=eN Dt
  obtain ⟨L',ms,clock,dW,h1,h2,h3,h4,h5,h6,h7,h8⟩:=h.live _ _ hb
  rw [hL] at h1;cases h1
  have hge:az kt vt.zero es x=az kt vt.zero dW x:=(AF h7 h8 (h8.perm h7)).symm
  have hhe:aR kt es x=aR kt dW x:=(ua h7).symm
  rw [hge,hhe]
  rcases AG l9 vt.zero h4 with ⟨r1,r2⟩|⟨r1,j,m,r2,r3,r4,r5,_⟩
  ·refine ⟨_, ?_, fin (b := aR kt dW x) (yv := z0) (by rw [gQ r1]; exact hz1)⟩
   rw [r1]
   cases ok<;>simp [Instr.lookup,run_underlying hu,MapKept.run_getObj_map h3,l9.check,r2,Ja]
  ·refine ⟨_, ?_, fin (b := aR kt dW x) r5⟩
   rw [r1]
   cases ok<;>simp [Instr.lookup,run_underlying hu,MapKept.run_getObj_map h3,l9.check,r2]
 case cT =>
  cases Dt
  refine ⟨_,?_,fin (b:=false) (yv:=z0) hz1⟩
  obtain ⟨A,a1,a2,_⟩:=l9.find
  have r2:(Instr.findKey k ix []).run P w = .ok none w:=a1 _ _ (a2 0)
  cases ok<;>simp [Instr.lookup,run_underlying hu,l9.check,r2,Ja]
theorem GP (h : Inv P Y ι μ H w) {aC : Nat} {t : TypeId} {kt vt : Ty} {kg vg : Bool} (ht : kF P t = some (kt, kg, vt, vg)) {va vi vv : V} {a ix z : Value} (ha : Rel ι μ va a) (hi : Rel ι μ vi ix) (hz : Rel ι μ vv z) {ob : List Bool} {v : V} {u : eY}
  (ak:iL (bu c1 c2 c3 c4 c5 c6) (.iG kt kg vt vg) [va,vi,vv] H.bl aC=some (ob,v,u)):∃w',(Instr.mapUpdate t a ix z).run P w = .ok () w'/\Inv P Y ι μ ⟨H.next,bI u H.bl⟩ w'/\v = .any:=by
 obtain ⟨k,e,hu,hk,hv⟩:=kK ht
 simp only [iL] at ak
 split at ak<;>try (cases ak;done)
 rename_i id k' v' heq
 simp only [List.cons.injEq,and_true] at heq
 obtain ⟨rfl,rfl,rfl⟩:=heq
 split at ak<;>try (cases ak;done)
 rename_i x hx
 split at ak<;>try (cases ak;done)
 rename_i y hy
 split at ak<;>try (cases ak;done)
 rename_i es Dt
 cases ak
 have hb:=eN Dt
 have hvx:=tZ hx hi
 have hvy:=tZ hy hz
 have l9:ue P k kt kg ι w x ix:=pV hk hvx
 cases ha with
 |mp _ L hL =>
 obtain ⟨L',ms,clock,dW,h1,h2,h3,h4,h5,h6,h7,h8⟩:=h.live _ _ hb
 rw [hL] at h1;cases h1
 have hlt:L.b<w.heap.size:=(Array.getElem?_eq_some_iff.1 h3).1
 rcases AG l9 vt.zero h4 with ⟨r1,r2⟩|⟨r1,j,m,r2,r3,r4,_,e0,r5,r6⟩
 ·refine ⟨w.putObj L.b (.map (ms.push { key := ix, val := z, born := clock }) (clock + 1)), ?_, ?_, rfl⟩
  ·simp [Instr.mapUpdate,run_underlying hu,MapKept.run_getObj_map h3,l9.check,r2,MapKept.run_setObj_map _ h3,World.putObj]
  ·refine h.I9 hb hL h3 (by simp) (fun ms' c' e => by cases e; exact ⟨_, _, rfl, by simp [Array.toList_push, List.map_append], Nat.le_succ _⟩) ⟨L, _, _, dW ++ [(x, y)], hL, h2, World.putObj_heap_same hlt, ?_, ?_, ?_, (oJ r1).trans (pU h7), KD.perm (oJ r1).symm h8.iG⟩
   ·show fI ι kt kg vt vg _ _
    rw [Array.toList_push]
    exact h4.snoc hvx hvy
   ·intro m hm
    simp only [Array.toList_push,List.mem_append,List.mem_singleton] at hm
    rcases hm with hm|rfl
    ·exact Nat.lt_succ_of_lt (h5 m hm)
    ·exact Nat.lt_succ_self _
   ·simp only [Array.toList_push, List.map_append, List.map_cons, List.map_nil]
    refine List.nodup_append.2 ⟨h6,by simp,?_⟩
    intro p hp q hq
    simp only [List.mem_singleton] at hq
    subst hq
    obtain ⟨m,hm,rfl⟩:=List.mem_map.1 hp
    exact Nat.ne_of_lt (h5 m hm)
 ·have hj : ms[j]? = some m := by simpa using r3
  refine ⟨w.putObj L.b (.map (ms.modify j fun e=>{ e with key:=ix,val:=z }) clock),?_,?_,rfl⟩
  ·have := l9.stays
   simp [Instr.mapUpdate,run_underlying hu,MapKept.run_getObj_map h3,l9.check,r2,hj,r4,this,MapKept.run_setObj_map _ h3,World.putObj]
  ·have hml:(ms.modify j fun e=>{ e with key:=ix,val:=z }).toList=ms.toList.set j { m with key:=ix,val:=z }:=by
    apply List.ext_getElem?
    intro i
    simp only [Array.getElem?_toList,Array.getElem?_modify,List.getElem?_set]
    by_cases e:j=i
    ·subst e
     obtain ⟨q1,q2⟩:=Array.getElem?_eq_some_iff.1 hj
     simp [hj,q1,q2]
    ·simp [e]
   have hbk:(ms.toList.set j { m with key:=ix,val:=z }).map (fun m=>(m.born,m.key))=ms.toList.map fun m=>(m.born,m.key):=by
    rw [List.map_set]
    apply List.ext_getElem?
    intro i
    simp only [List.getElem?_set,List.getElem?_map,List.length_map]
    by_cases e:j=i
    ·subst e
     obtain ⟨q1,q2⟩:=Array.getElem?_eq_some_iff.1 hj
     simp [hj,q1,q2,r4]
    ·simp [e]
   have xC:(ms.toList.set j { m with key:=ix,val:=z }).map (·.born)=ms.toList.map (·.born):=by
    have:=congrArg (List.map Prod.fst) hbk
    simpa [List.map_map,Function.comp_def] using this
   refine h.I9 hb hL h3 (by simp) (fun ms' c' e=>by cases e;exact ⟨_,_,rfl,by rw [hml,hbk];exact List.prefix_refl _,Nat.le_refl _⟩) ⟨L,_,_,dW.set j (x,y),hL,h2,World.putObj_heap_same hlt,?_,?_,?_,by rw [wj h8 r5 r6];exact pU h7,by rw [wj h8 r5 r6];exact h8.iG⟩
   ·show fI ι kt kg vt vg _ _
    rw [hml]
    exact fI.set hvx hvy h4 rfl rfl
   ·intro m' hm'
    rw [hml] at hm'
    have:m'.born∈(ms.toList.set j { m with key:=ix,val:=z }).map (·.born):=List.mem_map.2 ⟨m',hm',rfl⟩
    rw [xC] at this
    obtain ⟨m2,hm2,e2⟩:=List.mem_map.1 this
    rw [<-e2];exact h5 m2 hm2
   ·rw [hml,xC];exact h6
theorem GQ (h : Inv P Y ι μ H w) {aC : Nat} {t k e ty : TypeId} (hu : P.underlying t = some (.map k e)) {va : V} {a : Value} (ha : Rel ι μ va a) {ob : List Bool} {v : V} {u : eY}
  (ak:iL (bu c1 c2 c3 c4 c5 c6) .SX [va] H.bl aC=some (ob,v,u)):u=[]/\∃y,(Builtin.len_ #[t] ty #[a]).run P w = .ok y w/\Rel ι μ v y:=by
 simp only [iL] at ak
 split at ak<;>try (cases ak;done)
 ·rename_i id heq
  simp only [List.cons.injEq,and_true] at heq
  subst heq
  split at ak<;>try (cases ak;done)
  rename_i es hb
  cases ak
  cases ha with
  |mp _ L hL =>
   obtain ⟨L',ms,clock,dW,h1,h2,h3,h4,_,_,h7,_⟩:=h.live _ _ hb
   rw [hL] at h1;cases h1
   have:=h4.length.trans h7.length_eq
   simp only [Array.length_toList] at this
   refine ⟨rfl,.int .i64 es.length,?_,.int _ _⟩
   simp [Builtin.len_,run_underlying hu,MapKept.run_getObj_map h3,goInt,this]
 ·rename_i heq
  simp only [List.cons.injEq,and_true] at heq
  subst heq
  cases ak
  cases ha
  exact ⟨rfl,.int .i64 0,by simp [Builtin.len_,run_underlying hu,goInt],.int _ _⟩
theorem oL (zs:List Value):∀(m:Nat),((Array.range (m * zs.length)).map (fun i=>zs.toArray[i % zs.toArray.size]!)).toList=(List.replicate m zs).flatten:=by
 intro m
 apply List.ext_getElem?
 intro i
 induction m generalizing i with
 |zero=>simp
 |succ m ih =>
  rw [List.replicate_succ,List.flatten_cons]
  by_cases hi:i<zs.length
  ·rw [List.getElem?_append_left hi]
   have:i<(m+1) * zs.length:=by rw [Nat.add_mul];omega
   simp [this,Nat.mod_eq_of_lt hi,hi]
  ·rw [List.getElem?_append_right (by omega), ← ih]
   by_cases h2:i<(m+1) * zs.length
   ·have h3 : i - zs.length < m * zs.length := by rw [Nat.add_mul, Nat.one_mul] at h2; omega
    have h4:i % zs.length=(i - zs.length) % zs.length:=by
     rw [Nat.mod_eq_sub_mod (by omega)]
    simp [h2,h3,h4]
   ·have h3 : ¬ i - zs.length < m * zs.length := by rw [Nat.add_mul, Nat.one_mul] at h2; omega
    simp [h2,h3]
theorem D1 (h:Inv P Y ι μ H w) {src dst e:TypeId} (hs:P.underlying src=some .string) (hd:P.underlying dst=some (.slice e)) (he:P.underlying e=some (.int .u8)) {s:ByteArray} :
  ∃ι' x w',(convert src dst (.string s)).run P w = .ok x w'/\ι.le ι'/\Inv P Y ι' μ H w'/\Rel ι' μ (.fS (.int .u8) (fH s)) x:=by
 let cells:Array Value:=(s.data.map fun b=>Value.int .u8 b.toNat)++Array.replicate (grownCap w s.size 0 e - s.size) (.int .u8 0)
 have hrun:(convert src dst (.string s)).run P w = .ok (.slice (some ⟨w.heap.size,0,none⟩) s.size (grownCap w s.size 0 e)) (w.drew.alloc (.cells cells e (cells.size,cells.size+1))):=by
  have hfr:(w.drew.alloc (.cells cells e)).freeze { block:=w.heap.size,off:=cells.size } 1=w.drew.alloc (.cells cells e (cells.size,cells.size+1)):=by
   have hh:(w.heap.push (.cells cells e)).modify w.heap.size (fun
     | .cells c elem (lo,hi)=>.cells c elem (if lo==hi then (cells.size,cells.size+1) else (min lo cells.size,max hi (cells.size+1)))
     |o=>o)=w.heap.push (.cells cells e (cells.size,cells.size+1)):=by
    apply Array.ext_getElem?
    intro i
    rw [Array.getElem?_modify]
    by_cases hi:w.heap.size=i
    ·subst hi;simp
    ·simp [hi,Array.getElem?_push,Ne.symm hi]
   unfold World.freeze
   rw [if_neg (by decide)]
   exact congrArg (fun h=>({ w.drew.alloc (.cells cells e) with heap:=h }:World)) hh
  have Zk:(w.drew.alloc (.cells cells e)).shape? w.heap.size=some (e,cells.size):=by
   have:(w.drew.alloc (.cells cells e)).heap[w.heap.size]?=some (.cells cells e):=by
    show (w.heap.push _)[_]?=_
    simp
   unfold World.shape?
   rw [this]
  have hg:(choose (.appendCap s.size 0 e)).run P w = .ok (grownCap w s.size 0 e) w.drew:=by
   rw [run_choose_drew];rfl
  have adx:(convert src dst (.string s)).run P w=(Conv.stringToBytes e s).run P w:=by
   simp [convert,run_underlying hs,run_underlying hd,run_underlying he]
  rw [adx]
  have hnew:(newObj (.cells cells e)).run P w.drew = .ok w.heap.size (w.drew.alloc (.cells cells e)):=rfl
  simp only [Conv.stringToBytes,Sem.run_bind,hg,Result.andThen_ok,newRow,markStringish]
  rw [show (s.data.map fun b=>Value.int .u8 b.toNat)++Array.replicate (grownCap w s.size 0 e - s.size) (.int .u8 0)=cells from rfl,hnew]
  simp only [Result.andThen_ok,Sem.run_pure,Sem.run_bind,run_shape,Zk,run_freeze,hfr]
 have nB:∀(j:Nat) v,((fH s).map (Value.int .u8))[j]?=some v->cells[j]?=some v:=fun j v hv=>by
  have hj:j<s.data.size:=by have:=(List.getElem?_eq_some_iff.1 hv).1;simpa [fH] using this
  simp only [cells]
  rw [Array.getElem?_append_left (by simpa using hj)]
  simpa [fH] using hv
 obtain ⟨ι',h1,h2,h3⟩:=h.drew.Tc (c:=cells) (e:=e) (f:=(cells.size,cells.size+1)) nB
 have eZ:∀(zs:List Int),bB (ah ι' (.int .u8)) zs (zs.map (Value.int .u8)):=fun zs=>by
  induction zs with
  |nil=>rfl
  |cons z zs ih=>exact ⟨[.int .u8 z],_,rfl,rfl,ih⟩
 have hl:(fH s).length=s.size:=by simp [fH]
 refine ⟨ι',_,_,hrun,h1,h2,.fS _ _ _ ⟨some ⟨w.heap.size,0,none⟩,grownCap w s.size 0 e,by rw [hl],by rw [hl];exact grownCap_ge w s.size 0 e,.inr ⟨_,_,_,rfl,h3,eZ _⟩⟩⟩
theorem AH {t : Ty} : ∀ {m : Nat} {vs r : List Value}, IX t m vs = some r → ∃ us, vs = us ++ r ∧ bB (ah ι t) (List.replicate m t.zero) us
 |0,vs,r,h=>by cases h;exact ⟨[],rfl,rfl⟩
 |m+1,vs,r,h=>by
  simp only [IX] at h
  split at h<;>try (cases h;done)
  rename_i r1 h1
  obtain ⟨us,rfl,hu⟩:=gK (ι:=ι) h1
  obtain ⟨ws,rfl,hw⟩:=AH h
  exact ⟨us++ws,by simp,us,ws,rfl,hu,hw⟩
theorem Oh (h:Inv P Y ι μ H w) {aC:Nat} (hn:μ aC=none) {t:Ty} {ys:List t.den} {xs:List Value} (hr:bB (ah ι t) ys xs) (e:TypeId) {n:Nat} (hl:ys.length=n) :
  ∃μ',μ.le μ'/\(∀id,id≠aC->μ' id=μ id)/\Inv P Y ι μ' ⟨max H.next (aC+1),(aC,.arr t ys false)::bD aC H.bl⟩ (w.alloc (.cells xs.toArray e))/\Rel ι μ' (.pa aC t n) (.pointer (some ⟨w.heap.size,0,none⟩)):=by
 let L:Loc:=⟨w.heap.size,0,xs.length,ys.length⟩
 have hle:=Mu.gn (L:=L) hn
 have iF:μ.set aC L aC=some L:=by simp [Mu.set]
 have hfree:∀o,ι w.heap.size o=none:=fun o=>by
  cases vH:ι w.heap.size o with
  |none=>rfl
  |some y=>have:=World.block_lt_of_cell? _ _ (h.rd _ _ _ vH);simp at this
 refine ⟨_,hle,Mu.tW,h.lay hn (L:=L) rfl (.inr ⟨L,xs,⟨iF,(.inl h.below.size),⟨xs.toArray,e,?_,by simp [L],fun j v hv=>by simpa [L] using hv⟩,by simp [L],
  bB.one (fun _ _=>ah.one) hr,(fun e=>by cases e),fun _=>hfree⟩,hr,rfl⟩),.pa _ _ _ L iF hl⟩
 show (w.heap.push _)[w.heap.size]?=_
 simp
theorem D2 (h : Inv P Y ι μ H w) {aC : Nat} {t e : TypeId} {ty : Ty} {k : Nat} {i : TypeInfo} {z : Value} (ht : P.underlying t = some (.slice e)) (hi : P.info? e = some i) (hz : i.zero = some z)
  (h0:eL ty z.cells.toList=some []) {tt:TypeId} {va:V} {a:Value} (ha:Rel ι μ va a) {ob:List Bool} {v:V} {u:eY}
  (ak:iL (bu c1 c2 c3 c4 c5 c6) (.clear ty) [va] H.bl aC=some (ob,v,u)):∃w',(Builtin.clear_ #[t] tt #[a]).run P w = .ok (.tuple #[]) w'/\Inv P Y ι μ ⟨H.next,bI u H.bl⟩ w'/\Rel ι μ v (.tuple #[]):=by
 have hzv:∀w:World,(zeroValue e).run P w = .ok z w:=fun w=>by simp [zeroValue,typeInfo,hi,hz]
 obtain ⟨us,Gk,hcell⟩:=gK (ι:=ι) h0
 simp only [List.append_nil] at Gk
 simp only [iL] at ak
 split at ak<;>try (cases ak;done)
 rename_i id t' lo n heq
 simp only [List.cons.injEq,and_true] at heq
 subst heq
 split at ak<;>try (cases ak;done)
 rename_i e1;subst e1
 split at ak<;>try (cases ak;done)
 rename_i t'' xs hb
 split at ak<;>try (cases ak;done)
 rename_i e1;subst e1
 cases ak
 have htup:Rel ι μ (.cS []) (.tuple #[]):=.cS _ _ rfl (fun i v x hv=>by simp at hv)
 have zero:∀(a0:Option Addr) (c:Nat),n=0->∃w',(Builtin.clear_ #[t] tt #[.slice a0 n c]).run P w = .ok (.tuple #[]) w'/\Inv P Y ι μ ⟨H.next,bI [(id,some (.arr t' (BF t'.zero xs lo n) false))] H.bl⟩ w'/\Rel ι μ (.cS []) (.tuple #[]):=fun a0 c hn=>by
  subst hn
  refine ⟨w,?_,?_,htup⟩
  ·cases a0<;>simp [Builtin.clear_,run_underlying ht]
  ·have : BF t'.zero xs lo 0 = xs := by simp [BF]
   rw [this]
   exact h.same hb (h.live _ _ hb)
 cases ha with
 |bH _ _ _ a0=>exact zero a0 0 rfl
 |sl _ _ _ _ cap L hm h1 h2 h3 =>
  by_cases hn:n=0
  ·exact zero _ cap hn
  rcases h.live _ _ hb with ⟨_,hn'⟩|⟨L',vs,hM,hR,hl⟩
  ·rw [hn'] at hm;cases hm
  ·rw [hM.mu] at hm; cases hm
   have hul:us.length=t'.sz:=hcell.length
   have Od:(Builtin.zeroCells z.cells n).toList=(List.replicate n us).flatten:=by
    rw [<-Gk]
    rw [<-oL z.cells.toList n]
    simp [Builtin.zeroCells]
   have Oi:=bB.rep hcell n
   have tY:=Oi.length (fun _ _=>ah.length)
   simp only [List.length_replicate] at tY
   have hvl:=hR.length (fun _ _=>ah.length)
   have hf:=hM.fits
   have hmul:lo * t'.sz+n * t'.sz<=vs.length:=by
    rw [hvl,<-Nat.add_mul]
    exact Nat.mul_le_mul_right _ (by omega)
   have Zc:w.there L.b (L.ba+lo * t'.sz) ((List.replicate n us).flatten).length:=hM.there (by omega) (by rw [tY];omega)
   have h1c:∀v∈(List.replicate n us).flatten,v.oneCell'=true:=bB.one (fun _ _=>ah.one) Oi
   have hst:=run_storeCells_cells (P:=P) L.b (L.ba+lo * t'.sz) (List.replicate n us).flatten 0 w (fun j hj=>(Zc j hj).1) (fun j hj=>(Zc j hj).2) h1c
   refine ⟨w.setCells L.b (L.ba+lo * t'.sz) (List.replicate n us).flatten,?_,?_,htup⟩
   ·obtain ⟨m, rfl⟩ : ∃ m, n = m + 1 := ⟨n - 1, by omega⟩
    simp only [Nat.add_zero] at hst
    simp [Builtin.clear_,run_underlying ht,hzv,Od,hst]
   ·have hw := hM.write (d := lo * t'.sz) (us := (List.replicate n us).flatten) (by rw [tY]; omega) h1c
    refine h.store hb hM.mu (hM.rI rfl) (.inr ⟨L,_,hw,?_,by simp [BF,hl];omega⟩)
    have hA:=(hR.take (fun _ _=>ah.length) lo)
    have hD:=(hR.drop (fun _ _=>ah.length) (lo+n))
    rw [tY,<-Nat.add_mul]
    exact (hA.append Oi).append hD
end
end Go.AM
end
section
namespace Go.AM
section
variable {P : Program} {Y : Ctx} {ι ι' : ax} {μ μ' : Mu} {H : aG} {w w' : World}
 {c1:Nat->List V->aG->(V->aG->Prop)->Prop} {c2:Nat->List V->V->Prop} {c3:C->St->(Ex->St->Prop)->Prop}
 {c4:Nat->List V->aG->(V->aG->Prop)->Prop} {c5:O->List Nat->C->C->St->(Ex->St->Prop)->Prop} {c6:C->St->(Ex->St->Prop)->Prop}
theorem Oj (ys:List Int):∀s:ByteArray,ys.foldl (fun r n=>r.push (UInt8.ofNat n.toNat)) s=⟨s.data++(ys.map fun z=>UInt8.ofNat z.toNat).toArray⟩:=by
 induction ys with
 |nil=>intro s;simp
 |cons y ys ih =>
  intro s
  rw [List.foldl_cons,ih]
  simp [ByteArray.push]
theorem Jb : ∀ {ys : List Int} {us : List Value}, bB (ah ι (.int .u8)) ys us → us = ys.map (Value.int .u8)
 |[],us,h=>h
 |y::ys,us,h=>by
  obtain ⟨a,b,rfl,h1,h2⟩:=h
  rw [Jb h2]
  have h1:a=[.int .u8 y]:=h1
  subst h1
  rfl
theorem GR (h : Inv P Y ι μ H w) {src dst e : TypeId} (hs : P.underlying src = some (.slice e)) (hd : P.underlying dst = some .string) (he : P.underlying e = some (.int .u8)) {v : V} {x : Value} {ys : List Int}
  (hy:elems (bu c1 c2 c3 c4 c5 c6) H.bl (.int .u8) v=some ys) (hr:Rel ι μ v x):(convert src dst x).run P w = .ok (.string (BE ys)) w:=by
 obtain ⟨news,hsrc,eZ⟩:=tX h (t:=.int .u8) hs hy hr
 have hn:=Jb eZ
 subst hn
 have hx:∃a n cap,x = .slice a n cap:=by
  unfold elems at hy
  split at hy<;>try (cases hy;done)
  ·cases hr;exact ⟨_,_,_,rfl⟩
  ·cases hr with
   |fS _ _ _ hd =>
    obtain ⟨a,cap,e,hle,hd⟩:=hd
    cases e
    exact ⟨_,_,_,rfl⟩
  ·cases hr<;>exact ⟨_,_,_,rfl⟩
 obtain ⟨a,n,cap,rfl⟩:=hx
 have hl:=hsrc.len w
 have hn:n=ys.length:=by simpa [Builtin.lenOf] using hl
 rw [run_convert_bytes_string w src dst e a n cap hs he hd]
 have hc:=hsrc.cells
 cases a with
 |none =>
  simp only [run_firstCells_none] at hc
  have:ys=[]:=by
   cases ys with
   |nil=>rfl
   |cons y ys=>simp at hc
  subst this
  simp [Conv.bytesToString,BE]
  rfl
 |some a =>
  simp only [Builtin.firstCells] at hc
  rw [run_bytesToString w a n cap ys (by rw [hn];simpa [Ty.sz] using hc),Oj]
  simp [BE]
theorem qu {s:TypeId} {f n:Nat} {fd:Field} (h:rP P s f=some (fd,n)):∃fs,P.underlying s=some (.struct fs)/\fs[f]?=some fd:=by
 unfold rP at h
 split at h<;>try (cases h;done)
 rename_i fs hu
 split at h<;>try (cases h;done)
 rename_i fd' hf
 cases h
 exact ⟨fs,hu,hf⟩
theorem kn {t:TypeId} {k:Nat} (h:dx P t=some k):∃i,P.info? t=some i/\i.size=k/\∀w:World,(sizeOf t).run P w = .ok k w:=by
 unfold dx at h
 cases hq:P.info? t with
 |none=>simp [hq] at h
 |some i=>simp [hq] at h;subst h;exact ⟨i,rfl,rfl,fun w=>by simp [sizeOf,typeInfo,hq]⟩
theorem Ol {t:TypeId} {g:Bool} (h:tR P t=some g):∀w:World,(isAgg t).run P w = .ok g w:=by
 intro w
 unfold tR at h
 split at h
 ·rename_i hu;cases h;unfold isAgg;rw [Sem.run_bind,run_underlying hu w];rfl
 ·rename_i hu;cases h;unfold isAgg;rw [Sem.run_bind,run_underlying hu w];rfl
 ·rename_i d h1 h2 hu
  cases h;unfold isAgg;rw [Sem.run_bind,run_underlying hu w]
  cases d<;>simp_all
 ·cases h
theorem D3 {xs:List Value} {y:Value} (h:iI false xs=some y):xs=[y]:=by
 match xs,h with
 |[c],h=>cases h;rfl
theorem oM {env:List (Nat×V)} {a:Act} (he:fu ι μ env a.tmps):∀{parts:List (Nat×Operand)} {n:Nat} {xs:List O},wg n parts=some xs ->
  aM ι μ (xs.map (·.ev env)) (parts.map fun p=>a.eval p.2)/\(parts.map fun (i,x)=>(i,a.eval x))=((parts.map fun p=>a.eval p.2).zipIdx n).map fun (v,i)=>(i,v)
 |[],n,xs,h=>by cases h;exact ⟨.nil,rfl⟩
 |(i,x)::r,n,xs,h=>by
  unfold wg at h
  split at h<;>try (cases h;done)
  rename_i hi;subst hi
  split at h<;>try (cases h;done)
  rename_i y ys hy hys
  cases h
  obtain ⟨h1,h2⟩:=oM he hys
  exact ⟨.cons (aB he hy) h1,by simp [h2]⟩
theorem Tm {n m:Operand} {x:O} {a:Act} (h:Y9 n m=some x):dL n=some x/\a.eval m=a.eval n:=by
 unfold Y9 at h
 split at h<;>try (cases h;done)
 ·split at h <;> try (cases h; done)
  rename_i e;subst e;cases h
  exact ⟨rfl,rfl⟩
 ·split at h <;> try (cases h; done)
  rename_i e;obtain ⟨e1,e2⟩:=e;subst e1;subst e2;cases h
  exact ⟨rfl,rfl⟩
theorem zT (h : Inv P Y ι μ H w) {aC : Nat} (hn : μ aC = none) {t e : TypeId} {ty : Ty} {k : Nat} {i : TypeInfo} {z : Value} (ht : P.underlying t = some (.slice e)) (he : kD P e = some k) (hi : P.info? e = some i) (hz : i.zero = some z)
  (h0:eL ty z.cells.toList=some []) (hk:ty.sz=k) {kk:IntKind} {m:Int} (hm0:0<=m) (hm:m<(bp:Int)) :
  ∃μ' x w',(Instr.makeSlice t (.int kk m) (.int kk m)).run P w = .ok x w'/\μ.le μ'/\(∀id,id≠aC->μ' id=μ id)/\Inv P Y ι μ' ⟨max H.next (aC+1),(aC,.arr ty (List.replicate m.toNat ty.zero) false)::bD aC H.bl⟩ w' /\
   Rel ι μ' (.sl aC ty 0 m.toNat) x:=by
 obtain ⟨i',z',hi',tK,hby,hzs,hsz⟩:=fK he
 rw [hi] at hi';cases hi'
 rw [hz] at tK;cases tK
 obtain ⟨us,Gk,hcell⟩:=gK (ι:=ι) h0
 simp only [List.append_nil] at Gk
 have hw:IntKind.i64.wrap m=m:=by
  apply kG
  unfold bp at hm
  simp [IntKind.min,IntKind.max,IntKind.bits,IntKind.signed]
  omega
 have hby2:(i.bytes:Int) * m<=2 ^ 48:=by
  have h1:(i.bytes:Int)<=1024:=by unfold mE at hby;omega
  have h2:m<=1073741824:=by unfold bp at hm;omega
  have:=Int.mul_le_mul h1 h2 hm0 (by omega)
  omega
 have hlt:¬(2 ^ 48<(i.bytes:Int) * m):=by omega
 have eZ:=bB.rep (D:=ah ι ty) (Gk▸hcell) m.toNat
 obtain ⟨μ',m1,m0,m2,m3⟩:=wh (rest:=[]) h hn eZ e m.toNat (by simp) (by simp [eZ.length (fun _ _=>ah.length)])
 have kL:=oL z.cells.toList m.toNat
 refine ⟨μ',.slice (some ⟨w.heap.size,0,none⟩) m.toNat m.toNat,_,?_,m1,m0,m2,by simpa using m3⟩
 have nE:((List.replicate m.toNat z.cells.toList).flatten++[]).toArray=(Array.range (m.toNat * i.size)).map (fun j=>z.cells[j % z.cells.size]!):=by
  apply Array.ext'
  rw [List.append_nil,<-kL]
  simp [hzs]
 rw [nE]
 simp only [Instr.makeSlice,Sem.run_bind,run_underlying ht,Result.andThen_ok,asInt,asIntOf,Sem.run_pure,typeInfo,run_program,hi,hw]
 rw [if_neg (by simp;omega)]
 simp only [run_askRoom,Result.andThen_ok,sizeOf,Sem.run_bind,typeInfo,run_program,hi,Sem.run_pure]
 split
 ·rename_i h0
  have hr0:Array.range 0=#[]:=rfl
  simp [h0,newRow,hr0]
 ·simp [zeroValue,typeInfo,hi,hz,newRow]
theorem GS (h : Inv P Y ι μ H w) {aC : Nat} (hn : μ aC = none) {t u e tt : TypeId} {ik : IntKind} {ty : Ty} {k : Nat} {i : TypeInfo} {z : Value} (ht : P.underlying t = some (.slice e)) (hu : P.underlying u = some (.int ik)) (he : kD P e = some k) (hi : P.info? e = some i) (hz : i.zero = some z)
  (h0:eL ty z.cells.toList=some []) (hk:ty.sz=k) {kk:IntKind} {m:Int} (hm0:0<=m) (hm:m<(bp:Int)) (a:Option Addr) :
  ∃μ' x w',(Builtin.append_ #[t,u] tt #[.slice a 0 0,.int kk m]).run P w = .ok x w'/\μ.le μ'/\(∀id,id≠aC->μ' id=μ id)/\Inv P Y ι μ' ⟨max H.next (aC+1),(aC,.arr ty (List.replicate m.toNat ty.zero) false)::bD aC H.bl⟩ w' /\
   Rel ι μ' (.sl aC ty 0 m.toNat) x:=by
 obtain ⟨i',z',hi',tK,hby,hzs,hsz⟩:=fK he
 rw [hi] at hi';cases hi'
 rw [hz] at tK;cases tK
 obtain ⟨us,Gk,hcell⟩:=gK (ι:=ι) h0
 simp only [List.append_nil] at Gk
 have hw:IntKind.i64.wrap m=m:=by
  apply kG
  unfold bp at hm
  simp [IntKind.min,IntKind.max,IntKind.bits,IntKind.signed]
  omega
 have hby2:m * (i.bytes:Int)<=2 ^ 48:=by
  have h1:(i.bytes:Int)<=1024:=by unfold mE at hby;omega
  have h2:m<=1073741824:=by unfold bp at hm;omega
  have:=Int.mul_le_mul h2 h1 (by omega) (by omega)
  omega
 obtain ⟨n,rfl⟩:∃n:Nat,m=n:=⟨m.toNat,by omega⟩
 have hby3:¬(281474976710656<(n:Int) * (i.bytes:Int)):=by omega
 have hn0:¬((n:Int)<0):=by omega
 simp only [Int.toNat_natCast]
 by_cases Ja:n=0
 ·subst Ja
  refine ⟨μ,.slice a 0 0,w,?_,Mu.le_refl _,fun _ _=>rfl,h.I8 hn ty false,.bH _ _ _ a⟩
  have hw0:IntKind.i64.wrap 0=0:=hw
  cases a<;>simp [Builtin.append_,run_underlying ht,run_underlying hu,sizeOf,typeInfo,hi,asInt,asIntOf,hw0,storeCells]
 ·have l8 : n < bp := by omega
  have hfit:Builtin.nextslicecap n 0 * i.bytes<=281474976710656:=by
   refine growslice_fits (by omega) (Nat.le_trans (Nat.mul_le_mul (Nat.le_of_lt l8) hby) ?_)
   unfold bp mE;decide
  have h63:¬(9223372036854775807<(n:Int)):=by unfold bp at l8;omega
  have h48:¬(281474976710656<Builtin.nextslicecap n 0 * i.bytes):=by omega
  have hf:(Builtin.firstCells i.size 0 (.slice a 0 0)).run P w.drew = .ok ([]:List Value).toArray w.drew:=by
   cases a with
   |none=>exact run_firstCells_none _ _ _ _ _
   |some a=>exact run_firstCells_some _ _ _ _ _ _ [] (by simp) (fun j u h=>by simp at h)
  have eZ:=bB.rep (D:=ah ι ty) (Gk▸hcell) n
  have hl:=eZ.length (fun _ _=>ah.length)
  have hge:=grownCap_ge w n 0 e
  obtain ⟨μ', m1, m0, m2, m3⟩ := wh (aC := aC) (rest := (Builtin.zeroCells z.cells (grownCap w n 0 e - n)).toList) h.drew hn eZ e (grownCap w n 0 e) (by simpa using hge) (by
   have Od:(Builtin.zeroCells z.cells (grownCap w n 0 e - n)).toList.length=(grownCap w n 0 e - n) * ty.sz:=by
    rw [Array.length_toList,size_zeroCells,hzs,hsz,hk]
   rw [hl,Od,List.length_replicate,<-Nat.add_mul]
   exact Nat.mul_le_mul_right _ (by omega))
  have hzn:(Builtin.zeroCells z.cells n).toList=(List.replicate n z.cells.toList).flatten:=by
   rw [<-oL z.cells.toList n]
   simp [Builtin.zeroCells]
  refine ⟨μ',.slice (some ⟨w.heap.size,0,none⟩) n (grownCap w n 0 e),_,?_,m1,m0,m2,by simpa using m3⟩
  have hnew:((List.replicate n z.cells.toList).flatten++(Builtin.zeroCells z.cells (grownCap w n 0 e - n)).toList).toArray=Builtin.zeroCells z.cells n++Builtin.zeroCells z.cells (grownCap w n 0 e - n):=by
   apply Array.ext'
   rw [<-hzn];simp
  rw [hnew]
  by_cases hs0:n * i.size=0
  ·have e0:Builtin.zeroCells z.cells n=#[]:=by
    apply Array.eq_empty_of_size_eq_zero
    rw [size_zeroCells,hzs];exact hs0
   simp [Builtin.append_,run_underlying ht,run_underlying hu,sizeOf,typeInfo,zeroValue,hi,hz,asInt,asIntOf,hw,hn0,hby3,Ja,h63,h48,Question.forced,hf,newRow,grownCap,hs0,e0]
  ·simp [Builtin.append_,run_underlying ht,run_underlying hu,sizeOf,typeInfo,zeroValue,hi,hz,asInt,asIntOf,hw,hn0,hby3,Ja,h63,h48,Question.forced,hf,newRow,grownCap,hs0]
theorem uf (h : Inv P Y ι μ H w) {aC : Nat} (hn : μ aC = none) {env : List (Nat × V)} {a : Act} (he : fu ι μ env a.tmps) {o : Oper} {i : I} (hI : DE P o.op = some i) {ob : List Bool} {v : V} {u : eY}
  (ak:b7 (bu c1 c2 c3 c4 c5 c6) i env H.bl aC=some (ob,v,u)) (cW:oF ob):K8 P Y ι μ H w aC (execOp a.eval o) v u i.lays:=by
 obtain ⟨dst,op,ty,pos,after,guard⟩:=o
 simp only at hI
 cases op<;>simp only [DE] at hI<;>try (cases hI;done)
 case panic x=>cases hI;simp [b7,iL] at ak
 case range t x=>cases hI;simp [b7,iL] at ak
 case next t x=>cases hI;simp [b7,iL] at ak
 case entry t=>cases hI;simp [b7,iL] at ak
 case move x =>
  cases hx:dL x<;>simp [hx] at hI
  subst hI;cases ak
  exact .pure h rfl (aB he hx)
 case assign x =>
  cases hx:dL x<;>simp [hx] at hI
  subst hI;cases ak
  exact .pure h rfl (aB he hx)
 case pick c x y =>
  split at hI<;>try (cases hI;done)
  rename_i c' x' y' hc hx hy
  cases hI
  have rc:=aB he hc
  have rx:=aB he hx
  have ry:=aB he hy
  simp only [b7] at ak
  split at ak<;>try (cases ak;done)
  ·rename_i hce; rw [hce] at rc; cases ak
   generalize hg:a.eval c=cv at rc
   cases rc
   exact .pure h (by simp [execOp,hg,asBool]) rx
  ·rename_i hce; rw [hce] at rc; cases ak
   generalize hg:a.eval c=cv at rc
   cases rc
   exact .pure h (by simp [execOp,hg,asBool]) ry
  ·rename_i b hce; rw [hce] at rc
   split at ak<;>try (cases ak;done)
   rename_i p q hp hq
   cases ak
   generalize hg:a.eval c=cv at rc
   cases rc
   have ex:=lK hp rx
   have ey:=lK hq ry
   exact .pure h (x:=.bool (if b then p else q)) (by cases b<;>simp [execOp,hg,asBool,ex,ey]) (.bool _)
 case alloc e =>
  split at hI<;>try (cases hI;done)
  rename_i inf D4
  split at hI<;>try (cases hI;done)
  rename_i z hz
  split at hI
  ·rename_i ty m nE
   split at hI<;>try (cases hI;done)
   rename_i hzn
   cases hI
   obtain ⟨us,e1,eZ⟩:=AH (ι:=ι) hzn
   rw [List.append_nil] at e1
   simp only [b7,iL,List.map_nil] at ak
   cases ak
   obtain ⟨μ',m1,m0,m2,m3⟩:=Oh h hn eZ e (n:=m) (by simp)
   rw [<-e1] at m2
   exact ⟨ι,μ',_,_,.inl (by simp [execOp,Instr.alloc,zeroValue,typeInfo,D4,hz,newVar,newRow];rfl),ax.le_refl _,m1,m0,by simpa [bI,I.lays,gI.lays,gp] using m2,m3⟩
  cases hcs:zS z.cells.toList<;>simp [hcs] at hI
  subst hI;cases ak
  obtain ⟨μ',m1,m0,m2,m3⟩:=Az h hn (oB hcs) (oC hcs) e
  exact ⟨ι,μ',_,_,.inl (by simp [execOp,Instr.alloc,zeroValue,typeInfo,D4,hz,newVar,newRow];rfl),ax.le_refl _,m1,m0,by simpa [bI,I.lays,gp] using m2,m3⟩
 case box e x =>
  split at hI
  ·rename_i ty m nE
   cases hx:dL x<;>simp [hx] at hI
   subst hI
   simp only [b7,iL,List.map_cons,List.map_nil] at ak
   split at ak<;>try (cases ak;done)
   rename_i cs heq
   simp only [List.cons.injEq,and_true] at heq
   split at ak<;>try (cases ak;done)
   rename_i ys u0 hvn
   cases ak
   have rx:=aB he hx
   rw [heq] at rx
   obtain ⟨r1,r2⟩:=rx.cells rfl
   obtain ⟨z1,z2,z3,z4⟩:=xe hvn r1
   obtain ⟨ι',hle,hI',hF⟩:=j9 z1 h
   obtain ⟨μ',m1,m0,m2,m3⟩:=Oh hI' hn (z4 ι' hle hF) e z2
   refine ⟨ι',μ',_,_,.inl (by simp [execOp,Instr.box,newVar,newRow];rfl),hle,m1,m0,?_,m3⟩
   rw [eC];simpa [bI,I.lays,gI.lays,gp] using m2
  cases hx:dL x<;>simp [hx] at hI
  subst hI
  simp only [b7] at ak
  split at ak<;>try (cases ak;done)
  rename_i cs hcs
  cases ak
  obtain ⟨r1,r2⟩:=(aB he hx).cells hcs
  obtain ⟨μ',m1,m0,m2,m3⟩:=Az h hn r1 r2 e
  exact ⟨ι,μ',_,_,.inl (by simp [execOp,Instr.box,newVar,newRow];rfl),ax.le_refl _,m1,m0,by simpa [bI,I.lays,gp] using m2,m3⟩
 case build t parts =>
  split at hI<;>try (cases hI;done)
  ·rename_i it fields hit hu
   split at hI<;>try (cases hI;done)
   rename_i z places hz hp
   split at hI<;>try (cases hI;done)
   rename_i zs ps hzs hps
   cases hI
   simp only [b7] at ak
   split at ak<;>try (cases ak;done)
   rename_i cs hcs
   cases ak
   obtain ⟨out,f1,f2,f3⟩:=oG he hps hcs (oB hzs) (oC hzs)
   have hb:P.built t (parts.map fun (i,x)=>(i,a.eval x)).toList=some out:=by
    simp only [Program.built,hit,hu,hz,hp]
    rw [Array.toList_map];exact f1
   have hr:=run_build (P:=P) w t (parts.map fun (i,x)=>(i,a.eval x)) out hb
   refine .pure h (x:=.agg out) ?_ (.agg _ _ (by simpa using f2.1) (fun i v x hv hx=>f2.2 i v x hv (by simpa using hx)) f3)
   simp only [execOp,Sem.run_bind,hr];rfl
  ·rename_i it n e hit hu
   split at hI<;>try (cases hI;done)
   rename_i z places hz hp
   split at hI<;>try (cases hI;done)
   rename_i zs ps hzs hps
   cases hI
   simp only [b7] at ak
   split at ak<;>try (cases ak;done)
   rename_i cs hcs
   cases ak
   obtain ⟨out,f1,f2,f3⟩:=oG he hps hcs (oB hzs) (oC hzs)
   have hb:P.built t (parts.map fun (i,x)=>(i,a.eval x)).toList=some out:=by
    simp only [Program.built,hit,hu,hz,hp]
    rw [Array.toList_map];exact f1
   have hr:=run_build (P:=P) w t (parts.map fun (i,x)=>(i,a.eval x)) out hb
   refine .pure h (x:=.agg out) ?_ (.agg _ _ (by simpa using f2.1) (fun i v x hv hx=>f2.2 i v x hv (by simpa using hx)) f3)
   simp only [execOp,Sem.run_bind,hr];rfl
 case buildSlice t n parts =>
  split at hI<;>try (cases hI;done)
  rename_i e hu
  split at hI<;>try (cases hI;done)
  rename_i tye k xs DV SB hin
  split at hI<;>try (cases hI;done)
  rename_i jN
  obtain ⟨hsz,hlen,l8⟩:=jN
  cases hI
  simp only [b7] at ak
  split at ak<;>try (cases ak;done)
  rename_i ys u0 hvl
  cases ak
  obtain ⟨q1,q2⟩:=oM he hin
  obtain ⟨z1,z2,z3,z4⟩:=xg hvl q1
  obtain ⟨ι',hle,hI',hF⟩:=j9 z1 h
  have eZ:=z4 ι' hle hF
  obtain ⟨inf,zv,hi,hz,_,hzs,nF⟩:=fK SB
  have Zl:(parts.toList.map fun p=>a.eval p.2).length=n:=by have:=q1.1;simp at this;simp;omega
  obtain ⟨out, f1, f2⟩ := qL (k := k) (parts.toList.map fun p => a.eval p.2) 0
   ((Array.range (n * k)).map fun j=>(if n * k=0 then #[] else zv.cells)[j % (if n * k=0 then #[] else zv.cells).size]!) (fun v hv=>by rw [z3 v hv,hsz]) (by simp [<-Zl])
  obtain ⟨μ',m1,m0,m2,m3⟩:=wh (rest:=[]) hI' hn eZ e ys.length (Nat.le_refl _) (by rw [eZ.length (fun _ _=>ah.length)];simp)
  have hn:ys.length=xs.length:=by simpa using z2
  refine ⟨ι',μ',.slice (some ⟨w.heap.size,0,none⟩) n n,(w.alloc (.cells ((List.flatMap (fun (x:Value)=>x.cells.toList) (List.map (fun (p:Nat×Operand)=>a.eval p.2) parts.toList))++[]).toArray e)),.inl ?_,hle,m1,m0,?_,?_⟩
  rotate_left
  ·rw [eC];simpa [bI,I.lays,gp] using m2
  ·simpa [hn,hlen] using m3
  ·have hout:((List.flatMap (fun (x:Value)=>x.cells.toList) (List.map (fun (p:Nat×Operand)=>a.eval p.2) parts.toList))++[]).toArray=out:=by
    apply Array.ext';simp [f2]
   rw [hout]
   rw [<-q2,<-nF] at f1
   have hif:(if n * inf.size=0 then #[] else zv.cells)=(if n * k=0 then #[] else zv.cells):=by rw [nF]
   have hmap:(parts.map fun (i,x)=>(i,a.eval x)).toList=parts.toList.map fun (i,x)=>(i,a.eval x):=by simp
   simp only [execOp,Instr.buildSlice,Sem.run_bind,run_underlying hu,Result.andThen_ok,sizeOf,typeInfo,run_program,hi,Sem.run_pure]
   rw [if_neg (by rw [nF];omega)]
   by_cases h0:n * inf.size=0
   ·have Om : n * k = 0 := by rw [← nF]; exact h0
    rw [nF] at f1
    simp [Om] at f1
    simp [Om,nF,f1,newRow]
   ·have Om : ¬ n * k = 0 := by rw [← nF]; exact h0
    rw [nF] at f1
    simp [Om] at f1
    simp [Om,nF,zeroValue,typeInfo,hi,hz,f1,newRow]
 case load t x =>
  split at hI<;>try (cases hI;done)
  rename_i k g x' hk hg hx
  cases hI
  obtain ⟨rfl,y,hy,hr⟩:=xk h hk hg (aB he hx) ak cW
  exact .pure h (by simp only [execOp,Sem.run_bind,hy];rfl) hr
 case store t pa x =>
  split at hI<;>try (cases hI;done)
  rename_i k a' x' hk ha hx
  cases hI
  obtain ⟨ι',w',hy,hle,hinv,rfl⟩:=DT h hk (aB he hx) (aB he ha) ak cW
  exact ⟨ι',μ,undef,w',.inr ⟨by simp only [execOp,Sem.run_bind,hy];rfl,rfl⟩,hle,Mu.le_refl _,fun _ _=>rfl,hinv,.any _⟩
 case binOp op t x y yt =>
  unfold Au at hI
  split at hI
  ·split at hI <;> try (cases hI; done)
   rename_i e x' ng hu hx hop
   cases hI
   simp only [b7,List.map_cons,List.map_nil] at ak
   obtain ⟨rfl,z,hz,hr⟩:=DZ (w:=w) hu hop (xo:=x) (yo:=.const (.slice none 0 0)) (aB he hx) ak
   exact .pure h (by simp only [execOp,Act.eval,Sem.run_bind] at hz ⊢;rw [hz];rfl) hr
  ·split at hI <;> try (cases hI; done)
   rename_i k e x' ng hu hx hop
   cases hI
   simp only [b7,List.map_cons,List.map_nil] at ak
   obtain ⟨rfl,z,hz,hr⟩:=BX (w:=w) hu hop (xo:=x) (yo:=.const (.map none)) (aB he hx) ak
   exact .pure h (by simp only [execOp,Act.eval,Sem.run_bind] at hz ⊢;rw [hz];rfl) hr
  ·split at hI <;> try (cases hI; done)
   rename_i e x' ng hu hx hop
   cases hI
   simp only [b7,List.map_cons,List.map_nil] at ak
   obtain ⟨rfl,z,hz,hr⟩:=B3 (w:=w) hu hop (xo:=x) (yo:=.const (.pointer none)) (aB he hx) ak
   exact .pure h (by simp only [execOp,Act.eval,Sem.run_bind] at hz ⊢;rw [hz];rfl) hr
  split at hI<;>try (cases hI;done)
  rename_i x' y' hx hy
  have rx:=aB he hx
  have ry:=aB he hy
  split at hI
  ·rename_i ks hks
   split at hI<;>try (cases hI;done)
   rename_i ng hng
   cases hI
   simp only [b7] at ak
   split at ak<;>try (cases ak;done)
   rename_i as bs dM hye
   rw [dM] at rx
   rw [hye] at ry
   split at ak<;>try (cases ak;done)
   rename_i c hc
   cases ak
   generalize nq:a.eval x=xv at rx
   generalize hgy:a.eval y=yv at ry
   cases rx with
   |agg _ xa p1 p2 p3 =>
   cases ry with
   |agg _ ya q1 q2 q3 =>
   have hrun:P.eqGuardType P.depth t=false/\(Op.equal t (.agg xa) (.agg ya)).run P w = .ok c w:=by
    unfold structEq at hks
    split at hks<;>try (cases hks;done)
    ·rename_i fs hu
     split at hks<;>try (cases hks;done)
     rename_i jN
     have hfo:P.fieldsOf t=fs:=by simp [Program.fieldsOf,hu]
     refine ⟨jN.1,?_⟩
     have e1:=run_equalIn_struct (P:=P) w 9999 t xa ya (by rw [hfo];exact hu) jN.2
     rw [hfo] at e1
     have e2 := fZ (d := 9997) (w := w) (P := P) (ι := ι) (μ := μ) hks (xs := xa) (ys := ya) ⟨by simpa using p1, fun i v x hv hx => p2 i v x hv (by simpa using hx)⟩
      ⟨by simpa using q1,fun i v x hv hx=>q2 i v x hv (by simpa using hx)⟩ hc
     exact e1.trans e2
    ·split at hks <;> try (cases hks; done)
     rename_i jN
     exact ⟨jN, (Xp (d := 9998) (w := w) (P := P) (ι := ι) (μ := μ) hks (xs := xa) (ys := ya) ⟨by simpa using p1, fun i v x hv hx => p2 i v x hv (by simpa using hx)⟩
      ⟨by simpa using q1,fun i v x hv hx=>q2 i v x hv (by simpa using hx)⟩ hc).1⟩
   obtain ⟨hg0,hrun⟩:=hrun
   have On:∀op',(eqGuard op' t x y (.agg xa) (.agg ya)).run P w = .ok () w:=fun op'=>by
    cases op'<;>first|rfl|simp [eqGuard,hg0]
   cases op<;>simp [lH] at hng<;>subst hng
   ·exact .pure h (x:=.bool c) (by simp only [execOp,Sem.run_bind,nq,hgy,On,Result.andThen_ok,binOp,hrun];rfl) (.bool _)
   ·exact .pure h (x:=.bool (!c)) (by simp only [execOp,Sem.run_bind,nq,hgy,On,Result.andThen_ok,binOp,hrun];rfl) (.bool _)
  ·split at hI <;> try (cases hI; done)
   ·rename_i hu
    cases hb:lH op<;>simp [hb] at hI
    subst hI
    simp only [b7] at ak
    split at ak<;>try (cases ak;done)
    rename_i p q hp hq
    cases ak
    have ex:=lK hp rx
    have ey:=lK hq ry
    have hg:=cN (P:=P) (w:=w) op t x y (a:=.bool p) (b:=.bool q) (by simp) (by simp)
    have heq:(Op.equal t (.bool p) (.bool q)).run P w = .ok (p==q) w:=run_equalIn_bool' w 9999 t p q hu
    cases op<;>simp [lH] at hb<;>subst hb
    ·exact .pure h (x:=.bool (p==q)) (by simp only [execOp,Sem.run_bind,ex,ey,hg,Result.andThen_ok,binOp,heq];rfl) (.bool _)
    ·exact .pure h (x:=.bool (!(p==q))) (by simp only [execOp,Sem.run_bind,ex,ey,hg,Result.andThen_ok,binOp,heq];rfl) (.bool _)
   ·cases hb : wX op <;> simp [hb] at hI
    subst hI
    obtain ⟨rfl,z,hz,hr⟩:=AA (w:=w) hb (t:=t) (xo:=x) (yo:=y) rx ry rfl rfl ak cW
    exact .pure h (by simp only [execOp,Sem.run_bind] at hz ⊢;rw [hz];rfl) hr
   ·cases hb : wX op <;> simp [hb] at hI
    subst hI
    obtain ⟨rfl,z,hz,hr⟩:=AA (w:=w) hb (t:=t) (xo:=x) (yo:=y) rx ry rfl rfl ak cW
    exact .pure h (by simp only [execOp,Sem.run_bind] at hz ⊢;rw [hz];rfl) hr
 case unOp op t x =>
  cases op<;>simp only [DE] at hI<;>try (cases hI;done)
  all_goals
   cases hx:dL x<;>simp [hx] at hI
   subst hI
   have rx:=aB he hx
   simp only [b7] at ak
   generalize hg:a.eval x=xv at rx
  ·split at ak <;> try (cases ak; done)
   rename_i k n dM
   rw [dM] at rx
   split at ak
   ·cases ak
    cases rx
    have hw:=kG (cW _ (List.mem_singleton.2 rfl))
    simp only [Int.zero_sub] at hw
    exact .pure h (x:=.int k (0 - n)) (by simp [execOp,hg,Op.unary,Op.intArith,hw]) (.int _ _)
   ·cases ak
    cases rx
    exact .pure h (x:=.int k (k.wrap (0 - n))) (by simp [execOp,hg,Op.unary,Op.intArith]) (.int _ _)
  ·split at ak <;> try (cases ak; done)
   ·rename_i b dM
    rw [dM] at rx
    cases ak
    cases rx
    exact .pure h (x:=.bool (!b)) (by simp [execOp,hg,Op.unary]) (.tf _)
   ·rename_i b dM
    rw [dM] at rx
    cases ak
    cases rx
    exact .pure h (x:=.bool (!b)) (by simp [execOp,hg,Op.unary]) (.bool _)
 case convert s d x =>
  split at hI<;>try (cases hI;done)
  rotate_left
  rotate_left
  ·rename_i e hs hd
   split at hI<;>try (cases hI;done)
   rename_i hue
   cases hx:dL x<;>simp [hx] at hI
   subst hI
   have rx:=aB he hx
   simp only [b7,iL,List.map_cons,List.map_nil] at ak
   split at ak<;>try (cases ak;done)
   rename_i ys hys
   cases ak
   exact .pure h (x:=.string (BE ys)) (by simp only [execOp,Sem.run_bind,GR h hs hd hue hys rx];rfl) (.str _)
  rotate_left
  ·rename_i e hs hd
   split at hI<;>try (cases hI;done)
   rename_i hue
   cases hx:dL x<;>simp [hx] at hI
   subst hI
   have rx:=aB he hx
   simp only [b7,iL,List.map_cons,List.map_nil] at ak
   split at ak<;>try (cases ak;done)
   rename_i s0 heq
   simp only [List.cons.injEq,and_true] at heq
   rw [heq] at rx
   cases ak
   generalize hg:a.eval x=xv at rx
   cases rx
   obtain ⟨ι',y,w',r1,r2,r3,r4⟩:=D1 h hs hd hue (s:=s0)
   exact ⟨ι',μ,y,w',.inl (by simp only [execOp,hg,Sem.run_bind,r1];rfl),r2,Mu.le_refl _,fun _ _=>rfl,r3,r4⟩
  rename_i k0 k hs hd
  cases hx:dL x<;>simp [hx] at hI
  subst hI
  have rx:=aB he hx
  simp only [b7] at ak
  generalize hg:a.eval x=xv at rx
  split at ak<;>try (cases ak;done)
  rename_i k1 n dM
  rw [dM] at rx
  cases ak
  cases rx
  have hw:=kG (cW _ (List.mem_singleton.2 rfl))
  exact .pure h (x:=.int k n) (by simp [execOp,hg,convert,run_underlying hs,run_underlying hd,Conv.intToInt,hw]) (.int _ _)
 case makeFunc f fs cs =>
  cases f<;>simp only [DE] at hI<;>try (cases hI;done)
  rename_i fid
  split at hI<;>try (cases hI;done)
  rename_i fs' cs' h1 h2
  cases hI;cases ak
  have r1:=jk he h1
  have r2:=jk he h2
  refine .pure h (x:=.func (.func fid) (fs.map a.eval) (cs.map a.eval)) (by simp [execOp,Instr.makeFunc]) ?_
  exact .fn _ _ _ _ _ (by simpa using r1.1) (fun i v x hv hx=>r1.2 i v x hv (by simpa using hx)) (by simpa using r2.1) (fun i v x hv hx=>r2.2 i v x hv (by simpa using hx))
 case makeSlice t n m =>
  split at hI<;>try (cases hI;done)
  rename_i xn hsam
  obtain ⟨hxn,hmn⟩:=Tm (a:=a) hsam
  split at hI<;>try (cases hI;done)
  rename_i e hu
  split at hI<;>try (cases hI;done)
  rename_i tye k inf DV SB D4
  split at hI<;>try (cases hI;done)
  rename_i z hz
  split at hI<;>try (cases hI;done)
  rename_i Ja
  split at hI<;>try (cases hI;done)
  rename_i jN
  cases hI
  simp only [b7] at ak
  split at ak<;>try (cases ak;done)
  rename_i kk mm dM
  cases ak
  have rx:=aB he hxn
  rw [dM] at rx
  have hb:=cW _ (List.mem_singleton.2 rfl)
  simp only [decide_eq_true_eq] at hb
  generalize hg:a.eval n=xv at rx
  cases rx
  obtain ⟨μ',x,w',r1,r2,r0,r3,r4⟩:=zT h hn hu SB D4 hz Ja jN.1 (kk:=kk) hb.1 hb.2
  refine ⟨ι,μ',x,w',.inl ?_,ax.le_refl _,r2,r0,by simpa [bI,I.lays,gp] using r3,r4⟩
  simp only [execOp,hmn,hg,Sem.run_bind,r1];rfl
 case slice t x lo hi mx =>
  split at hI<;>try (cases hI;done)
  rename_i e hu
  split at hI<;>try (cases hI;done)
  rename_i k x' lo' hi' Tj hk hx h1 h2 h3
  cases hI
  obtain ⟨rfl,y,hy,hr⟩:=DW (w:=w) he hu hk (aB he hx) h1 h2 h3 ak cW
  exact .pure h (by simp only [execOp,Sem.run_bind,hy];rfl) hr
 case fieldAddr s x f =>
  split at hI<;>try (cases hI;done)
  rename_i fd n hfd
  split at hI<;>try (cases hI;done)
  rename_i k x' hk hx
  cases hI
  obtain ⟨fs,hu,hf⟩:=qu hfd
  obtain ⟨rfl,b,o,hp,hr⟩:=AD (aB he hx) ak cW
  obtain ⟨_,_,_,hsz⟩:=kn hk
  refine .pure h ?_ hr
  simp [execOp,Instr.fieldAt,run_underlying hu,hf,hp,Instr.sureAddr,fieldPlace,hsz,Addr.add_mid]
 case field s x f =>
  split at hI<;>try (cases hI;done)
  rename_i fd n hfd
  split at hI<;>try (cases hI;done)
  rename_i k g x' hk hg hx
  cases hI
  obtain ⟨fs,hu,hf⟩:=qu hfd
  have rx:=aB he hx
  simp only [b7] at ak
  split at ak<;>try (cases ak;done)
  rename_i cs dM
  rw [dM] at rx
  split at ak<;>try (cases ak;done)
  rename_i vs lE
  split at ak<;>try (cases ak;done)
  rename_i v' hwr
  cases ak
  generalize nq:a.eval x=xv at rx
  cases rx with
  |agg _ xa p1 p2 p3 =>
   have hR:aM ι μ cs xa.toList:=⟨by simpa using p1,fun i v x hv hx=>p2 i v x hv (by simpa using hx)⟩
   obtain ⟨r1,r2,r3⟩:=hR.rO lE
   obtain ⟨y,hy,hv⟩:=tU hwr r1 (fun u hu=>p3 u (List.mem_of_mem_drop (List.mem_of_mem_take hu)))
   obtain ⟨_,_,_,hsz⟩:=kn hk
   have hagg:=Ol hg
   refine .pure h (x:=y) ?_ hv
   cases g with
   |true =>
    cases hy
    have:(List.take k (List.drop fd.offset xa.toList)).toArray=xa.extract fd.offset (fd.offset+k):=by
     apply Array.ext';simp [List.extract_eq_take_drop]
    simp [execOp,nq,Instr.field,run_underlying hu,hf,asAgg,part,hagg,hsz,this]
   |false =>
    have hl:=D3 hy
    have hc:xa[fd.offset]?=some y:=by
     have h0:(List.take k (List.drop fd.offset xa.toList))[0]?=some y:=by rw [hl];rfl
     rw [List.getElem?_take] at h0
     split at h0
     ·simpa using h0
     ·cases h0
    simp [execOp,nq,Instr.field,run_underlying hu,hf,asAgg,part,hagg,hc]
 case indexAddr t x i =>
  split at hI<;>try (cases hI;done)
  ·rename_i e x' i' hu hx hi
   cases hk:dx P e<;>simp [hk] at hI
   subst hI
   rename_i k
   obtain ⟨rfl,kk,m,b,o,len,cap,e1,e2,h0,h1,hr⟩:=K9 (aB he hx) (aB he hi) ak cW
   obtain ⟨_,_,_,hsz⟩:=kn hk
   refine .pure h ?_ hr
   simp [execOp,Instr.indexAt,e1,e2,asIntOf,run_underlying hu,h0,h1,hsz,Addr.add_mid]
  ·rename_i n e x' kk m hu hx hi
   split at hI<;>try (cases hI;done)
   rename_i k hk
   split at hI<;>try (cases hI;done)
   rename_i hmn
   cases hI
   obtain ⟨rfl,b,o,hp,hr⟩:=AD (aB he hx) ak cW
   obtain ⟨_,_,_,hsz⟩:=kn hk
   have ri:=aB he hi
   simp only [O.ev] at ri
   generalize B4:a.eval i=iv at ri
   cases ri
   have hm':(m:Int)<n:=by omega
   refine .pure h ?_ hr
   simp [execOp,Instr.indexAt,B4,hp,asIntOf,run_underlying hu,hsz,Addr.add_mid,Instr.sureAddr,hmn]
  ·rename_i n e x' i' _ hu hx hi
   cases hk:dx P e<;>simp [hk] at hI
   subst hI
   rename_i k
   obtain ⟨_,_,_,hsz⟩:=kn hk
   have rx:=aB he hx
   have ri:=aB he hi
   simp only [b7] at ak
   split at ak<;>try (cases ak;done)
   ·rename_i id t m dM
    rw [dM] at rx
    split at ak<;>try (cases ak;done)
    rename_i kk j hie
    rw [hie] at ri
    split at ak<;>try (cases ak;done)
    rename_i hc
    obtain ⟨hc1,Xo⟩:=hc
    cases ak
    have hb:=cW _ (List.mem_singleton.2 rfl)
    simp only [decide_eq_true_eq] at hb
    generalize B4:a.eval i=iv at ri
    cases ri
    generalize nq:a.eval x=xv at rx
    cases rx with
    |pa _ _ _ L hL hm =>
     have h1:j<(n:Int):=hb.2
     have hr:=Rel.ep (ι:=ι) id t j.toNat [] L hL
     have h0:t.bK []=0:=by cases t<;>rfl
     rw [h0,Nat.add_zero,hc1] at hr
     refine .pure h (x:=.pointer (some ⟨L.b,L.ba+j.toNat * k,none⟩)) ?_ hr
     simp [execOp,Instr.indexAt,B4,nq,asIntOf,run_underlying hu,hsz,Addr.add_mid,Instr.sureAddr,hb.1,h1]
   ·rename_i t xs dM
    rw [dM] at rx
    split at ak<;>try (cases ak;done)
    rename_i kk j hie
    rw [hie] at ri
    split at ak<;>try (cases ak;done)
    rename_i hc1
    cases ak
    have hb:=cW _ (List.mem_cons_self)
    have fF:=cW _ (List.mem_cons_of_mem _ (List.mem_cons_self))
    simp only [decide_eq_true_eq] at hb fF
    generalize B4:a.eval i=iv at ri
    cases ri
    generalize nq:a.eval x=xv at rx
    cases rx with
    |mw _ _ b o us h1 h2 =>
     have h3:j<(n:Int):=hb.2
     have h4:j<(xs.length:Int):=fF.2
     have GL:xs[j.toNat]?=some (xs.getD j.toNat t.zero):=by simp [List.getD,show j.toNat<xs.length by omega]
     have hcell:=h2.at (fun _ _=>ah.length) GL
     refine .pure h (x:=.pointer (some ⟨b,o+j.toNat * k,none⟩)) ?_ (by rw [<-hc1];exact .ip t _ b _ _ (h1.sub (j.toNat * t.sz) t.sz) hcell)
     simp [execOp,Instr.indexAt,B4,nq,asIntOf,run_underlying hu,hsz,Addr.add_mid,Instr.sureAddr,hb.1,h3]
   ·rename_i id off dM
    rw [dM] at rx
    split at ak<;>try (cases ak;done)
    rename_i kk j hie
    rw [hie] at ri
    cases ak
    have hb:=cW _ (List.mem_singleton.2 rfl)
    simp only [decide_eq_true_eq] at hb
    have iP:j<(n:Int):=hb.2
    generalize B4:a.eval i=iv at ri
    cases ri
    generalize nq:a.eval x=xv at rx
    cases rx with
    |ptr _ _ L hL =>
     have hr:=Rel.sp (ι:=ι) id off [(k,n,j)] L hL (fun x hx=>by
      rcases List.mem_singleton.1 hx with rfl
      exact ⟨hb.1,iP⟩)
     simp only [mD,Nat.add_zero,<-Nat.add_assoc] at hr
     refine .pure h (x:=.pointer (some ⟨L.b,L.ba+off+j.toNat * k,none⟩)) ?_ hr
     simp [execOp,Instr.indexAt,B4,nq,asIntOf,run_underlying hu,hsz,Addr.add_mid,Instr.sureAddr,hb.1,iP]
   ·rename_i id off l dM
    rw [dM] at rx
    split at ak<;>try (cases ak;done)
    rename_i kk j hie
    rw [hie] at ri
    cases ak
    have hb:=cW _ (List.mem_singleton.2 rfl)
    simp only [decide_eq_true_eq] at hb
    have iP:j<(n:Int):=hb.2
    generalize B4:a.eval i=iv at ri
    cases ri
    generalize nq:a.eval x=xv at rx
    cases rx with
    |sp _ _ _ L hL hbn =>
     have hr:=Rel.sp (ι:=ι) id off ((k,n,j)::l) L hL (fun x hx=>by
      rcases List.mem_cons.1 hx with rfl|hx
      ·exact ⟨hb.1,iP⟩
      ·exact hbn x hx)
     have e:L.ba+(off+mD ((k,n,j)::l))=L.ba+(off+mD l)+j.toNat * k:=by simp only [mD];omega
     rw [e] at hr
     refine .pure h (x:=.pointer (some ⟨L.b,L.ba+(off+mD l)+j.toNat * k,none⟩)) ?_ hr
     simp [execOp,Instr.indexAt,B4,nq,asIntOf,run_underlying hu,hsz,Addr.add_mid,Instr.sureAddr,hb.1,iP]
   ·rename_i cs dM
    rw [dM] at rx
    split at ak<;>try (cases ak;done)
    rename_i kk m hie
    rw [hie] at ri
    split at ak<;>try (cases ak;done)
    rename_i hmn
    generalize B4:a.eval i=iv at ri
    cases ri
    have hm':(m:Int)<n:=by omega
    split at ak<;>try (cases ak;done)
    rename_i hle
    cases ak
    generalize nq:a.eval x=xv at rx
    cases rx with
    |gx _ b o g h1 h2 h3 =>
     refine .pure h (x:=.pointer (some ⟨b,o+m * k,none⟩)) ?_ (.gx _ b (o+m * k) (fun i=>g (m * k+i)) (fun i hi=>?_) (fun i v hv=>?_) (fun i=>h3 _))
     ·simp [execOp,Instr.indexAt,B4,nq,asIntOf,run_underlying hu,hsz,Addr.add_mid,Instr.sureAddr,hmn]
     ·rw [Nat.add_assoc];exact h1 _ (by simp at hi;omega)
     ·exact h2 _ v (by simpa using hv)
  ·unfold tS at hI
   split at hI<;>try (cases hI;done)
   rename_i g _ _ _
   split at hI<;>try (cases hI;done)
   rename_i n e dK i' hu hg hi
   split at hI<;>try (cases hI;done)
   rename_i hue hk
   split at hI<;>try (cases hI;done)
   rename_i hlen
   cases hI
   obtain ⟨_,_,_,hsz⟩:=kn hk
   have rx:=h.dK.rel μ hg
   have ri:=aB he hi
   simp only [b7,O.ev] at ak
   split at ak<;>try (cases ak;done)
   rename_i kk j hie
   have hie':i'.ev env=V.int kk j:=hie
   rw [hie'] at ri
   split at ak<;>try (cases ak;done)
   cases ak
   have hb:=cW _ (List.mem_cons_self)
   have fF:=cW _ (List.mem_cons_of_mem _ (List.mem_cons_self))
   simp only [decide_eq_true_eq] at hb fF
   generalize B4:a.eval i=iv at ri
   cases ri
   cases rx with
   |mw _ _ b o us h1 h2 =>
    have h3:j<(n:Int):=hb.2
    have GL:dK[j.toNat]?=some (dK.getD j.toNat (Ty.zero (.int .u8))):=by simp [List.getD,show j.toNat<dK.length by omega]
    have hcell:=h2.at (fun _ _=>ah.length) GL
    refine .pure h (x:=.pointer (some ⟨g,0+j.toNat * 1,none⟩)) ?_ (.ip (.int .u8) _ g _ _ (h1.sub (j.toNat * 1) 1) hcell)
    have nq:a.eval (.global g) = .pointer (some ⟨g,0,none⟩):=rfl
    simp [execOp,Instr.indexAt,B4,nq,asIntOf,run_underlying hu,hsz,Addr.add_mid,Instr.sureAddr,hb.1,h3]
 case index t x i =>
  split at hI<;>try (cases hI;done)
  ·rename_i n e x' i' hu hx hi
   split at hI<;>try (cases hI;done)
   rename_i k g hk hg
   cases hI
   simp only [b7,List.map_cons,List.map_nil] at ak
   obtain ⟨rfl,y,hy,hr⟩:=DX (w:=w) hu hk hg (aB he hx) (aB he hi) ak cW
   exact .pure h (by simp only [execOp,Sem.run_bind,hy];rfl) hr
  ·rename_i x' i' hu hx hi
   cases hI
   simp only [b7,List.map_cons,List.map_nil] at ak
   obtain ⟨rfl,y,hy,hr⟩:=DY (w:=w) hu (aB he hx) (aB he hi) ak cW
   exact .pure h (by simp only [execOp,Sem.run_bind,hy];rfl) hr
 case makeMap t r =>
  cases r<;>simp only [DE] at hI<;>try (cases hI;done)
  split at hI<;>try (cases hI;done)
  rename_i kt kg vt vg hm
  cases hI
  simp only [b7,iL,List.map_nil] at ak
  cases ak
  obtain ⟨μ',x,w',r1,r2,r0,r3,r4⟩:=D0 h hn t kt vt kg vg
  exact ⟨ι,μ',x,w',.inl (by simp only [execOp,Option.map_none,Sem.run_bind,r1];rfl),ax.le_refl _,r2,r0,by simpa [bI,I.lays,gI.lays,gp] using r3,r4⟩
 case lookup t x i ok =>
  split at hI<;>try (cases hI;done)
  rename_i kt kg vt vg x' i' hm hx hi
  cases hI
  simp only [b7,List.map_cons,List.map_nil] at ak
  obtain ⟨rfl,y,hy,hr⟩:=GO h hm (aB he hx) (aB he hi) ak
  exact .pure h (by simp only [execOp,Sem.run_bind,hy];rfl) hr
 case mapUpdate t m k x =>
  split at hI<;>try (cases hI;done)
  rename_i kt kg vt vg m' k' x' hm hm' hk hx
  cases hI
  simp only [b7,List.map_cons,List.map_nil] at ak
  obtain ⟨w',hy,hinv,rfl⟩:=GP h hm (aB he hm') (aB he hk) (aB he hx) ak
  exact ⟨ι,μ,undef,w',.inr ⟨by simp only [execOp,Sem.run_bind,hy];rfl,rfl⟩,ax.le_refl _,Mu.le_refl _,fun _ _=>rfl,hinv,.any _⟩
 case nilCheck x =>
  cases hx:dL x<;>simp [hx] at hI
  subst hI
  have rx:=aB he hx
  simp only [b7,iL,List.map_cons,List.map_nil] at ak
  split at ak<;>try (cases ak;done)
  ·rename_i t v heq
   cases ak
   simp only [List.cons.injEq,and_true] at heq
   rw [heq] at rx
   generalize nq:a.eval x=xv at rx
   cases rx with
   |cL _ _ y hr=>exact .pure h (x:=.iface t y) (by simp [execOp,nq]) (.cL t _ _ hr)
  ·rename_i id o heq
   cases ak
   simp only [List.cons.injEq,and_true] at heq
   rw [heq] at rx
   generalize nq:a.eval x=xv at rx
   cases rx with
   |ptr _ _ L hL=>exact .pure h (by simp [execOp,nq]) (.ptr id o L hL)
  ·rename_i cs heq
   cases ak
   simp only [List.cons.injEq,and_true] at heq
   rw [heq] at rx
   generalize nq:a.eval x=xv at rx
   cases rx with
   |gx _ b o g h1 h2 h3=>exact .pure h (by simp [execOp,nq]) (.gx _ b o g h1 h2 h3)
 case makeInterface t x =>
  split at hI<;>try (cases hI;done)
  rename_i d hni hu
  cases hx:dL x<;>simp [hx] at hI
  subst hI
  simp only [b7,iL,List.map_cons,List.map_nil] at ak
  cases ak
  refine .pure h (x:=.iface t (a.eval x)) ?_ (.cL t _ _ (aB he hx))
  have:(Instr.makeInterface t (a.eval x)).run P w = .ok (.iface t (a.eval x)) w:=by
   unfold Instr.makeInterface
   rw [Sem.run_bind,run_underlying hu w]
   cases d<;>first|rfl|exact absurd rfl (hni _)
  simp only [execOp,Sem.run_bind,this];rfl
 case extract x k =>
  cases hx:dL x<;>simp [hx] at hI
  subst hI
  have rx:=aB he hx
  simp only [b7] at ak
  split at ak<;>try (cases ak;done)
  rename_i vs dM
  rw [dM] at rx
  split at ak<;>try (cases ak;done)
  rename_i v' hv
  cases ak
  generalize nq:a.eval x=xv at rx
  cases rx with
  |cS _ xa p1 p2 =>
   have hk:=(List.getElem?_eq_some_iff.1 hv).1
   have hxk:xa[k]?=some (xa[k]'(by omega)):=by simp
   exact .pure h (x:=xa[k]'(by omega)) (by simp only [execOp,nq,Instr.extract,hxk];rfl) (p2 k _ _ hv hxk)
 case call c =>
  obtain ⟨callee,args,argTypes⟩:=c
  cases callee<;>simp only [DE] at hI<;>try (cases hI;done)
  rename_i b
  obtain ⟨args,rfl⟩:∃l:List Operand,l.toArray=args:=⟨args.toList,by simp⟩
  obtain ⟨argTypes,rfl⟩:∃l:List TypeId,l.toArray=argTypes:=⟨argTypes.toList,by simp⟩
  simp only at hI
  unfold trB at hI
  split at hI<;>try (cases hI;done)
  ·-- len
   rename_i t x
   split at hI<;>try (cases hI;done)
   ·rename_i hu
    cases hx:dL x<;>simp [hx] at hI
    subst hI
    have rx:=aB he hx
    simp only [b7] at ak
    generalize nq:a.eval x=xv at rx
    split at ak<;>try (cases ak;done)
    rename_i s dM
    rw [dM] at rx
    cases ak
    cases rx
    exact .pure h (x:=.int .i64 s.size) (by simp [execOp,resolve,invoke,builtin,Builtin.len_,nq,run_underlying hu,goInt]) (.int _ _)
   ·rename_i e hu
    cases hx:dL x<;>simp [hx] at hI
    subst hI
    have rx:=aB he hx
    simp only [b7] at ak
    generalize nq:a.eval x=xv at rx
    split at ak<;>try (cases ak;done)
    ·rename_i _ _ _ m dM
     rw [dM] at rx
     cases ak
     cases rx with
     |sl=>exact .pure h (x:=.int .i64 m) (by simp [execOp,resolve,invoke,builtin,Builtin.len_,nq,run_underlying hu,goInt]) (.int _ _)
     |bH=>exact .pure h (x:=.int .i64 (0:Nat)) (by simp [execOp,resolve,invoke,builtin,Builtin.len_,nq,run_underlying hu,goInt]) (.int _ _)
    ·rename_i t' xs dM
     rw [dM] at rx
     cases ak
     cases rx with
     |fS _ _ _ hd =>
      obtain ⟨b,cap,e',_⟩:=hd
      cases e'
      exact .pure h (x:=.int .i64 xs.length) (by simp [execOp,resolve,invoke,builtin,Builtin.len_,nq,run_underlying hu,goInt]) (.int _ _)
    ·rename_i dM
     rw [dM] at rx
     cases ak
     cases rx
     exact .pure h (x:=.int .i64 0) (by simp [execOp,resolve,invoke,builtin,Builtin.len_,nq,run_underlying hu,goInt]) (.int _ _)
   ·rename_i n e hu
    cases hI;cases ak
    exact .pure h (x:=.int .i64 n) (by simp [execOp,resolve,invoke,builtin,Builtin.len_,run_underlying hu,goInt]) (.int _ _)
   ·rename_i k0 e0 hu
    cases hx:dL x<;>simp [hx] at hI
    subst hI
    simp only [b7,List.map_cons,List.map_nil] at ak
    obtain ⟨rfl,y,hy,hr⟩:=GQ (ty:=ty) h hu (aB he hx) ak
    exact .pure h (by simp [execOp,resolve,invoke,builtin,hy]) hr
   ·rename_i arr hu
    split at hI<;>try (cases hI;done)
    rename_i n e hu2
    cases hI;cases ak
    exact .pure h (x:=.int .i64 n) (by simp [execOp,resolve,invoke,builtin,Builtin.len_,run_underlying hu,run_underlying hu2,goInt]) (.int _ _)
  ·-- append
   rename_i t u' x y
   split at hI<;>try (cases hI;done)
   ·rename_i e e' hu hu'
    split at hI<;>try (cases hI;done)
    rename_i k x' y' hk hx hy
    cases hI
    obtain ⟨μ',z,w',r1,r2,r0,r3,r4⟩:=BW (ty:=ty) h hn hu hu' hk (aB he hx) (aB he hy) ak cW
    exact ⟨ι,μ',z,w',.inl (by simp [execOp,resolve,invoke,builtin,r1]),ax.le_refl _,r2,r0,by simpa [I.lays,gp] using r3,r4⟩
   ·rename_i e ik hu hu'
    split at hI<;>try (cases hI;done)
    rename_i tye k inf DV SB D4
    split at hI<;>try (cases hI;done)
    rename_i z hz
    split at hI<;>try (cases hI;done)
    rename_i Ja
    split at hI<;>try (cases hI;done)
    rename_i x' y' hx hy
    split at hI<;>try (cases hI;done)
    rename_i jN
    cases hI
    simp only [b7,iL,List.map_cons,List.map_nil] at ak
    split at ak<;>try (cases ak;done)
    rename_i kk m heq
    simp only [List.cons.injEq,and_true] at heq
    obtain ⟨dM,hye⟩:=heq
    cases ak
    have rx:=aB he hx
    have ry:=aB he hy
    rw [dM] at rx
    rw [hye] at ry
    have hb:=cW _ (List.mem_singleton.2 rfl)
    simp only [decide_eq_true_eq] at hb
    generalize nq:a.eval x=xv at rx
    generalize hgy:a.eval y=yv at ry
    cases rx with
    |cg ad =>
     cases ry
     obtain ⟨μ',v,w',r1,r2,r0,r3,r4⟩:=GS (tt:=ty) h hn hu hu' SB D4 hz Ja jN.1 (kk:=kk) hb.1 hb.2 ad
     exact ⟨ι,μ',v,w',.inl (by simp [execOp,resolve,invoke,builtin,nq,hgy,r1]),ax.le_refl _,r2,r0,by simpa [bI,I.lays,gI.lays,gp] using r3,r4⟩
  ·-- cap
   rename_i t x
   split at hI<;>try (cases hI;done)
   rename_i e hu
   cases hx:dL x<;>simp [hx] at hI
   subst hI
   simp only [b7,iL,List.map_cons,List.map_nil] at ak
   split at ak<;>try (cases ak;done)
   rename_i dM
   simp only [List.cons.injEq,and_true] at dM
   cases ak
   have rx:=aB he hx
   rw [dM] at rx
   generalize nq:a.eval x=xv at rx
   cases rx with
   |cg ad=>exact .pure h (x:=.int .i64 0) (by simp [execOp,resolve,invoke,builtin,Builtin.cap_,nq,run_underlying hu,goInt]) (.int _ _)
  ·-- clear
   rename_i t x
   split at hI<;>try (cases hI;done)
   rename_i e hu
   split at hI<;>try (cases hI;done)
   rename_i tye k inf DV SB D4
   split at hI<;>try (cases hI;done)
   rename_i z hz
   split at hI<;>try (cases hI;done)
   rename_i Ja
   split at hI<;>try (cases hI;done)
   rename_i jN
   cases hx:dL x<;>simp [hx] at hI
   subst hI
   simp only [b7,List.map_cons,List.map_nil] at ak
   obtain ⟨w',r1,r2,r3⟩:=D2 (k:=k) h hu D4 hz Ja (tt:=ty) (aB he hx) ak
   exact ⟨ι,μ,_,w',.inl (by simp [execOp,resolve,invoke,builtin,r1]),ax.le_refl _,Mu.le_refl _,fun _ _=>rfl,r2,r3⟩
  ·-- max
   rename_i x r
   split at hI<;>try (cases hI;done)
   rename_i x' ys hx hys
   cases hI
   have rx:=aB he hx
   have rys:=jk he hys
   simp only [b7] at ak
   split at ak<;>try (cases ak;done)
   rename_i k m dM
   rw [dM] at rx
   split at ak<;>try (cases ak;done)
   rename_i z hz
   cases ak
   generalize nq:a.eval x=xv at rx
   cases rx
   have:=xz (w:=w) (P:=P) hz rys
   exact .pure h (x:=.int k z) (by simp [execOp,resolve,invoke,builtin,Builtin.max_,nq,this]) (.int _ _)
  ·-- min
   rename_i x r
   split at hI<;>try (cases hI;done)
   rename_i x' ys hx hys
   cases hI
   have rx:=aB he hx
   have rys:=jk he hys
   simp only [b7] at ak
   split at ak<;>try (cases ak;done)
   rename_i k m dM
   rw [dM] at rx
   split at ak<;>try (cases ak;done)
   rename_i z hz
   cases ak
   generalize nq:a.eval x=xv at rx
   cases rx
   have:=xA (w:=w) (P:=P) hz rys
   exact .pure h (x:=.int k z) (by simp [execOp,resolve,invoke,builtin,Builtin.min_,nq,this]) (.int _ _)
theorem ug (h : Inv P Y ι μ H w) {aC : Nat} (hn : μ aC = none) {env : List (Nat × V)} {a : Act} (he : fu ι μ env a.tmps) {o : Oper} {i : I} (hI : DE P o.op = some i) {ob : List Bool} {v : V} {u : eY}
  (ak:wW (bu c1 c2 c3 c4 c5 c6) i env H.bl aC=some (ob,v,u)) (cW:oF ob):K8 P Y ι μ H w aC (execOp a.eval o) v u i.lays:=by
 cases i
 case store k ao xo =>
  obtain ⟨dst,op,ty,pos,after,guard⟩:=o
  simp only at hI
  cases op<;>simp only [DE] at hI<;>try (cases hI;done)
  case store t pa x =>
   split at hI<;>try (cases hI;done)
   rename_i k' a' x' hk ha hx
   cases hI
   obtain ⟨w',hy,hinv,rfl⟩:=BU h hk (aB he hx) (aB he ha) ak cW
   exact ⟨ι,μ,undef,w',.inr ⟨by simp only [execOp,Sem.run_bind,hy];rfl,rfl⟩,ax.le_refl _,Mu.le_refl _,fun _ _=>rfl,hinv,.any _⟩
  all_goals
   exfalso
   repeat' (first|(cases hI;done)|(rename _=Op.store _ _ _=>e;cases e;done)|(simp only [Option.map_eq_some_iff] at hI;obtain ⟨_,_,hI⟩:=hI;cases hI;done)|split at hI|(unfold Au at hI)|(unfold trB at hI)|(unfold tS at hI))
 case eG tt xx =>
  obtain ⟨dst,op,ty,pos,after,guard⟩:=o
  simp only at hI
  cases op<;>simp only [DE] at hI<;>try (cases hI;done)
  case buildSlice t n parts =>
   split at hI<;>try (cases hI;done)
   rename_i e hu
   split at hI<;>try (cases hI;done)
   rename_i tye k xs DV SB hin
   split at hI<;>try (cases hI;done)
   rename_i jN
   obtain ⟨hsz,hlen,l8⟩:=jN
   cases hI
   simp only [wW] at ak
   split at ak<;>try (cases ak;done)
   rename_i x1
   split at ak<;>try (cases ak;done)
   rename_i vs hvs
   split at ak<;>try (cases ak;done)
   rename_i p hp
   split at ak<;>try (cases ak;done)
   rename_i y hvl
   cases ak
   obtain ⟨q1,q2⟩:=oM he hin
   have hof:rK (bu c1 c2 c3 c4 c5 c6) H.bl tt ([x1].map (·.ev env))=some ([y],[]):=by simp [rK,hvs,hvl]
   obtain ⟨z1,z2,z3,z4⟩:=xg hof q1
   have eZ:=z4 ι (ax.le_refl _) (fun id t xs h=>by cases h)
   obtain ⟨inf,zv,hi,hz,_,hzs,nF⟩:=fK SB
   have Zl:(parts.toList.map fun p=>a.eval p.2).length=n:=by have:=q1.1;simp at this;simp;simp at hlen;omega
   obtain ⟨out, f1, f2⟩ := qL (k := k) (parts.toList.map fun p => a.eval p.2) 0
    ((Array.range (n * k)).map fun j=>(if n * k=0 then #[] else zv.cells)[j % (if n * k=0 then #[] else zv.cells).size]!) (fun v hv=>by rw [z3 v hv,hsz]) (by simp [<-Zl])
   obtain ⟨xv,rv,exv,hxv,D5⟩:=q1.bN
   have hrv0:=D5.of_nil;subst hrv0
   obtain ⟨c,hc1,Xo⟩:=xu hp (hxv.cells hvs).1
   have hfm:(List.map (fun (p:Nat×Operand)=>a.eval p.2) parts.toList).flatMap (fun (x:Value)=>x.cells.toList)=xv.cells.toList:=by rw [exv];simp
   obtain ⟨μ',m1,m0,m2,m3⟩:=Tf h hn eZ e (p:=p) (c:=c) (by rw [hfm];exact hc1) Xo
   have Xq:n=1:=by simpa using hlen.symm
   refine ⟨ι,μ',.slice (some ⟨w.heap.size,0,none⟩) n n,(w.alloc (.cells ((List.flatMap (fun (x:Value)=>x.cells.toList) (List.map (fun (p:Nat×Operand)=>a.eval p.2) parts.toList))++[]).toArray e)),.inl ?_,ax.le_refl _,m1,m0,?_,?_⟩
   rotate_left
   ·simpa [bI,I.lays,gp] using m2
   ·simpa [Xq] using m3
   ·have hout:((List.flatMap (fun (x:Value)=>x.cells.toList) (List.map (fun (p:Nat×Operand)=>a.eval p.2) parts.toList))++[]).toArray=out:=by
     apply Array.ext';simp [f2]
    rw [hout]
    rw [<-q2,<-nF] at f1
    have hif:(if n * inf.size=0 then #[] else zv.cells)=(if n * k=0 then #[] else zv.cells):=by rw [nF]
    have hmap:(parts.map fun (i,x)=>(i,a.eval x)).toList=parts.toList.map fun (i,x)=>(i,a.eval x):=by simp
    simp only [execOp,Instr.buildSlice,Sem.run_bind,run_underlying hu,Result.andThen_ok,sizeOf,typeInfo,run_program,hi,Sem.run_pure]
    rw [if_neg (by rw [nF];omega)]
    by_cases h0:n * inf.size=0
    ·have Om : n * k = 0 := by rw [← nF]; exact h0
     rw [nF] at f1
     simp [Om] at f1
     simp [Om,nF,f1,newRow]
    ·have Om : ¬ n * k = 0 := by rw [← nF]; exact h0
     rw [nF] at f1
     simp [Om] at f1
     simp [Om,nF,zeroValue,typeInfo,hi,hz,f1,newRow]
  all_goals
   exfalso
   repeat' (first|(cases hI;done)|(rename _=Op.buildSlice _ _ _=>e;cases e;done)|(simp only [Option.map_eq_some_iff] at hI;obtain ⟨_,_,hI⟩:=hI;cases hI;done)|split at hI|(unfold Au at hI)|(unfold trB at hI)|(unfold tS at hI))
 all_goals (simp [wW] at ak)
end
end Go.AM
end
section
namespace Go.AM
def Ctx.F (Y:Ctx):Fence:={ Fence.wide with round:=Y.ro }
def coll (b:Nat):Deferred:={ target:=.collected b,args:=#[] }
def mb (hid : List Nat) (μ : Mu) : List Nat → List Deferred → Prop
 |[],ds=>ds=hid.map coll
 |id::r,ds=>∃L d ds',ds=d::ds'/\μ id=some L/\d={ target:=.collected L.b,args:=#[] }/\mb hid μ r ds'
structure dX (P:Program) (N:Nat) (Y:Ctx) (ι:ax) (μ:Mu) (S:St) (a:Act) (w:World):Prop where
 env:fu ι μ S.env a.tmps
 sz:a.tmps.size=N
 inv:Inv P Y ι μ S.H w
 ms:mb Y.hid μ S.ms a.defers
def ExR : Ex → Exit → Prop
 | .normal,e=>e = .normal
 | .exit id,e=>e = .exit id
 | .ret,e=>e = .ret
def Ctx.base (Y:Ctx) (b:Nat):Prop:=∀id,b<=id->Y.m0 id=none
def Ctx.vI (Y:Ctx) (w:World) (ι:ax) (r:Nat):Ctx:=⟨w,ι,Y.m0,Y.ro,fun b=>Y.own b/\b≠r,r::Y.hid⟩
inductive Ext (P : Program) : Ctx → Ctx → Prop
 |refl (Y:Ctx):Ext P Y Y
 |step {Y Y1:Ctx} {ι:ax} {μ:Mu} {H:aG} {w:World} {r:Nat} (h:Ext P Y Y1) (ro:Y1.ro=none) (hI:Inv P Y1 ι μ H w) (hr:w.heap[r]?=some (.deferred (some []))) (own:Y1.own r):Ext P Y (Y1.vI w ι r)
def Post (P:Program) (N:Nat) (Y:Ctx) (Q:Ex->St->Prop):Exit->Act->World->Prop:=fun e a w=>∃Y1,Ext P Y Y1/\∃ι μ S e',dX P N Y1 ι μ S a w/\ExR e' e/\Q e' S
def kN (Y : Ctx) : Option Nat → Prop
 |none=>Y.ro=none
 |some id=>∃L,Y.m0 id=some L/\Y.ro=some L.b
def Ny (P:Program) (N:Nat) (out:Option Nat) (base:Nat) (c:Code) (S:St) (Q:Ex->St->Prop):Prop :=
 ∀Y ι μ a w,kN Y out->Y.base base->dX P N Y ι μ S a w->c.wpIn Y.F 0 P (Post P N Y Q) a w
def Enters (P:Program) (f:Nat):Prop:=∀args w,(callFunc f args).run P w = .ok (.enter f args) w
def Oo (P:Program) (Y:Ctx) (ι:ax) (μ:Mu) (Q:V->aG->Prop):Ending->World->Prop:=fun e w' =>
 ∃v ι' μ' r H',e = .returned v/\ι.le ι'/\μ.le μ'/\Inv P Y ι' μ' H' w'/\Rel ι' μ' r v/\Q r H'
def eV (P:Program) (f:Nat) (vs:List V) (H:aG) (Q:V->aG->Prop):Prop :=
 Enters P f/\∀Y ι μ w (args:Array Value),Inv P Y ι μ H w->aM ι μ vs args.toList->CallsIn Fence.wide 0 P f args w (Oo P Y ι μ Q)
def around (P:Program) (id:Nat) (vs:List V) (H:aG) (Q:V->aG->Prop):Prop :=
 ∀Y ι μ w (args:Array Value) L,Inv P Y ι μ H w->aM ι μ vs args.toList->μ id=some L ->
  ∃f tmps as bd w1,(Instr.yield L.b args).run P w = .ok (.round L.b f tmps as bd) w1/\RoundIn Fence.wide 0 P L.b f tmps as bd w1 (Oo P Y ι μ Q)
def dF (ι:ax) (w:World):Prop:=∀b o x,ι b o=some x->w.cell? ⟨b,o,none⟩=some x
def kB (P:Program) (f:Nat) (vs:List V) (r:V):Prop :=
 Enters P f/\∀ι w (args:Array Value),jC P ι->dF ι w->aM ι (fun _=>none) vs args.toList->CallsIn Fence.wide 0 P f args w fun e w' =>
  ∃v ι',e = .returned v/\ι.le ι'/\(∀b o,b<w.heap.size->ι' b o=ι b o)/\dF ι' w'/\Dw w w'/\Rel ι' (fun _=>none) r v
def eW (P : Program) (N : Nat) (out : Option Nat) (base : Nat) : Ar := bu (eV P) (kB P)
 (fun c S K=>∀body,gh P N body=some c->Ny P N out base (.loop body) S K)
 (around P)
 (fun f ps a b S K=>∀fo Du ao bo,dL fo=some f->Du.toList=ps->gh P N ao=some a->gh P N bo=some b->Ny P N out base (.rangeFunc fo Du ao bo) S K)
 (fun c S K=>∀a b,gh P N (.seq a b)=some c->(wZ P N a b).isSome=true->Ny P N out base (.seq a b) S K)
section
variable {P:Program} {N:Nat} {Y:Ctx} {ι ι':ax} {μ μ':Mu} {H:aG} {w w':World} {out:Option Nat} {base:Nat}
theorem Ext.trans {Y Y1 Y2:Ctx} (h:Ext P Y Y1) (h2:Ext P Y1 Y2):Ext P Y Y2:=by
 induction h2 with
 |refl=>exact h
 |step _ ro hI hr own ih=>exact .step ih ro hI hr own
theorem Ext.ro {Y Y1:Ctx} (h:Ext P Y Y1):Y1.ro=Y.ro:=by
 induction h with
 |refl=>rfl
 |step _ _ _ _ _ ih=>exact ih
theorem Ext.m0 {Y Y1:Ctx} (h:Ext P Y Y1):Y1.m0=Y.m0:=by
 induction h with
 |refl=>rfl
 |step _ _ _ _ _ ih=>exact ih
theorem Ext.F {Y Y1:Ctx} (h:Ext P Y Y1):Y1.F=Y.F:=by unfold Ctx.F;rw [h.ro]
theorem Ext.same {Y Y1:Ctx} (h:Ext P Y Y1) (hro:Y.ro≠none):Y1=Y:=by
 cases h with
 |refl=>rfl
 |step h ro _ _ _=>exact absurd (h.ro▸ro) hro
theorem Ext.Zm {Y Y1:Ctx} (h:Ext P Y Y1) (ho:kN Y out):kN Y1 out:=by
 cases out with
 |none=>exact h.ro.trans ho
 |some id=>obtain ⟨L,h1,h2⟩:=ho;exact ⟨L,by rw [h.m0];exact h1,by rw [h.ro];exact h2⟩
theorem Ext.uV {Y Y1:Ctx} (h:Ext P Y Y1) {b:Nat} (hb:Y.base b):Y1.base b:=fun id hid=>by rw [h.m0];exact hb id hid
theorem ef.owns {B B':Nat->Prop} {id:Nat} {b:lD} (h:ef P B ι μ id w b) (hB:∀L,μ id=some L->B L.b->B' L.b):ef P B' ι μ id w b:=by
 have mem:∀{fz:Bool} {L:Loc} {vs:List Value},Mem B ι μ id fz w L vs->Mem B' ι μ id fz w L vs:=fun hM=>⟨hM.mu,hB _ hM.mu hM.old,hM.row,hM.fits,hM.one,hM.GH,hM.rI⟩
 cases b with
 |cells cs fz=>obtain ⟨L',vs,hM,h⟩:=h;exact ⟨L',vs,mem hM,h⟩
 |arr t xs fz =>
  rcases h with h|⟨L',vs,hM,h⟩
  ·exact .inl h
  ·exact .inr ⟨L',vs,mem hM,h⟩
 |loop st j d env ps as bd N =>
  obtain ⟨L',r,Ld,h1,h2,h3⟩:=h
  exact ⟨L',r,Ld,h1,hB _ h1 h2,h3⟩
 |iH =>
  obtain ⟨L',h1,h2,h3⟩:=h
  exact ⟨L',h1,hB _ h1 h2,h3⟩
 |map kt kg vt vg es =>
  obtain ⟨L',ms,clock,dW,h1,h2,h3⟩:=h
  exact ⟨L',ms,clock,dW,h1,hB _ h1 h2,h3⟩
 |oa t xs i p v =>
  obtain ⟨L',us,vs,c,hM,h⟩:=h
  exact ⟨L',us,vs,c,mem hM,h⟩
theorem Inv.Oq (h:Inv P Y ι μ H w) {r:Nat} {H':aG} (h2:Inv P (Y.vI w ι r) ι' μ' H' w'):Inv P Y ι' μ' H' w':=by
 have hs:=h.below.size
 have hx2:∀k,k<Y.w0.heap.size->¬Y.x k->¬(Y.vI w ι r).x k:=fun k hk hx hX=>by
  rcases hX.1 with h|h
  ·omega
  ·exact hx h
 have b2:=h2.below
 refine ⟨⟨b2.os.trans h.below.os,b2.tape.trans h.below.tape,b2.output.trans h.below.output,Nat.le_trans hs b2.size,fun k hk hx=>?_,Nat.le_trans h.below.dr b2.dr,fun k hk=>(h.below.maps k hk).trans (b2.maps k (Nat.lt_of_lt_of_le hk hs))⟩,
  ax.le_trans h.i0 h2.i0,fun b o hb hx=>?_,h2.rd,h2.m0,h2.nx,fun id B hB=>(h2.live id B hB).owns fun L _ ho=>?_,h2.inj,h2.lt,h.gl⟩
 ·exact (b2.block k (Nat.lt_of_lt_of_le hk hs) (hx2 k hk hx)).trans (h.below.block k hk hx)
 ·exact (h2.iB b o (Nat.lt_of_lt_of_le hb hs) (hx2 b hb hx)).trans (h.iB b o hb hx)
 ·rcases ho with ho | ho
  ·exact .inl (Nat.le_trans hs ho)
  ·exact ho.1
theorem Ext.inv {Y Y1:Ctx} (h:Ext P Y Y1):∀{ι:ax} {μ:Mu} {H:aG} {w:World},Inv P Y1 ι μ H w->Inv P Y ι μ H w:=by
 induction h with
 |refl=>exact fun h=>h
 |step _ _ hI _ _ ih=>exact fun h=>ih (hI.Oq h)
theorem Post.ext {Y Y1:Ctx} (hY:Ext P Y Y1) {Q:Ex->St->Prop} {e:Exit} {a:Act} (h:Post P N Y1 Q e a w):Post P N Y Q e a w :=
 let ⟨Y2,h2,h⟩:=h;⟨Y2,hY.trans h2,h⟩
theorem Post.of {Q:Ex->St->Prop} {S:St} {a:Act} {e:Exit} {e':Ex} (hR:dX P N Y ι μ S a w) (h:ExR e' e) (hQ:Q e' S):Post P N Y Q e a w:=⟨Y,.refl Y,ι,μ,S,e',hR,h,hQ⟩
theorem Post.of1 {Y Y1:Ctx} (hY:Ext P Y Y1) {Q:Ex->St->Prop} {S:St} {a:Act} {e:Exit} {e':Ex} (hR:dX P N Y1 ι μ S a w) (h:ExR e' e) (hQ:Q e' S):Post P N Y Q e a w:=⟨Y1,hY,ι,μ,S,e',hR,h,hQ⟩
theorem GU {c:Code} {S:St} {Q:Ex->St->Prop} (h:Ny P N out base c S Q) {Y Y1:Ctx} (hY:Ext P Y Y1) (ho:kN Y out) (hb:Y.base base) {a:Act} (hR:dX P N Y1 ι μ S a w):c.wpIn Y.F 0 P (Post P N Y Q) a w:=by
 have:=h Y1 ι μ a w (hY.Zm ho) (hY.uV hb) hR
 rw [hY.F] at this
 exact wpIn_mono this fun e a w hp=>hp.ext hY
theorem dX.vI {S:St} {a:Act} (hR:dX P N Y ι μ S a w) {id:Nat} (Lg:S.ms=[id]) (hb:ay id S.H.bl=some .iH) (hro:Y.ro=none):∃Y1,Ext P Y Y1/\dX P N Y1 ι μ ⟨S.env,⟨S.H.next,bD id S.H.bl⟩,[]⟩ a w:=by
 obtain ⟨L,h1,h2,h3⟩:=hR.inv.live id _ hb
 have hm:=hR.ms
 rw [Lg] at hm
 obtain ⟨L',d,ds,e1,e2,e3,e4⟩:=hm
 rw [h1] at e2;cases e2
 refine ⟨Y.vI w ι L.b,.step (.refl Y) hro hR.inv h3 h2,hR.env,hR.sz,?_,?_⟩
 ·have h := hR.inv
  refine ⟨I4.refl _ _,ax.le_refl _,fun _ _ _ _=>rfl,h.rd,h.m0,h.nx,fun i B hB=>?_,fun i i' B B' L1 L2 iP fF=>?_,fun i B hB=>?_,h.dK⟩
  ·simp only [bt] at hB
   split at hB
   ·cases hB
   ·rename_i hne
    exact (h.live i B hB).owns fun L1 Zh ho=>.inr ⟨ho,fun e=>hne (h.inj i id B _ L1 L hB hb Zh h1 e)⟩
  ·simp only [bt] at iP fF
   split at iP
   ·cases iP
   split at fF
   ·cases fF
   exact h.inj i i' B B' L1 L2 iP fF
  ·simp only [bt] at hB
   split at hB
   ·cases hB
   exact h.lt i B hB
 ·show a.defers = _
  rw [e1,e3,e4];rfl
theorem mb.mono {hid : List Nat} (hm : μ.le μ') : ∀ {ids : List Nat} {ds : List Deferred}, mb hid μ ids ds → mb hid μ' ids ds
 |[],_,h=>h
 |_::_,_,⟨L,d,ds',h1,h2,h3,h4⟩=>⟨L,d,ds',h1,hm _ _ h2,h3,h4.mono hm⟩
theorem fu.put {env:List (Nat×V)} {a:Act} (he:fu ι μ env a.tmps) (hsz:a.tmps.size=N) {d:Option Nat} (hd:rQ N d=true) {v:V} {x:Value} (hv:Rel ι μ v x) :
  fu ι μ (put d v env) (a.put d x).tmps/\(a.put d x).tmps.size=N/\(a.put d x).defers=a.defers:=by
 cases d with
 |none=>exact ⟨he,hsz,rfl⟩
 |some d =>
  have hd':d<N:=by simpa [rQ] using hd
  refine ⟨fun t=>?_,by simp [Act.put,hsz],rfl⟩
  simp only [AM.put,mF,Act.put]
  by_cases h:d=t
  ·subst h
   rw [if_pos rfl]
   have:(a.tmps.setIfInBounds d x).getD d undef=x:=by simp [Array.getD,hsz,hd']
   rw [this];exact hv
  ·rw [if_neg h]
   have:(a.tmps.setIfInBounds d x).getD t undef=a.tmps.getD t undef:=by
    simp only [Array.getD_eq_getD_getElem?]
    rw [Array.getElem?_setIfInBounds_ne h]
   rw [this];exact he t
theorem dX.put {S : St} {a : Act} (h : dX P N Y ι μ S a w) {d : Option Nat} (hd : rQ N d = true) {ι' : ax} {μ' : Mu} (hi : ι.le ι') (hm : μ.le μ') {H' : aG} {w' : World} (hinv : Inv P Y ι' μ' H' w')
  {v:V} {x:Value} (hv:Rel ι' μ' v x):dX P N Y ι' μ' ⟨AM.put d v S.env,H',S.ms⟩ (a.put d x) w':=by
 obtain ⟨h1,h2,h3⟩:=(h.env.mono hi hm).put h.sz hd hv
 exact ⟨h1,h2,hinv,by rw [h3];exact h.ms.mono hm⟩
theorem xD {env : List (Nat × V)} {a : Act} (he : fu ι μ env a.tmps) {ops : Array Oper} {j d : Nat} {o : Oper} (ho : ops[j]? = some o) (hd : o.dst = some d) {b : Bool}
  (hv:get d env = .tf b\/get d env = .bool b):yielded ops a.tmps j=some b:=by
 have hr:=he d
 have:a.tmps.getD d undef = .bool b:=by
  generalize a.tmps.getD d undef=x at hr
  rcases hv with hv|hv<;>rw [hv] at hr<;>cases hr<;>rfl
 rw [Array.getD_eq_getD_getElem?] at this
 unfold yielded
 simp only [ho,Option.bind_some,hd]
 cases hq:a.tmps[d]? with
 |none=>rw [hq] at this;cases this
 |some x=>rw [hq] at this;simp at this;subst this;rfl
theorem uW {env : List (Nat × V)} {a : Act} (he : fu ι μ env a.tmps) {ops : Array Oper} {j d : Nat} {o : Oper} (ho : ops[j]? = some o) (hd : o.dst = some d) {vs : List V}
  (hv:get d env = .cS vs):yielded ops a.tmps j=none:=by
 have hr:=he d
 have:∃xs,a.tmps.getD d undef = .tuple xs:=by
  generalize a.tmps.getD d undef=x at hr
  rw [hv] at hr;cases hr;exact ⟨_,rfl⟩
 obtain ⟨xs,this⟩:=this
 rw [Array.getD_eq_getD_getElem?] at this
 unfold yielded
 simp only [ho,Option.bind_some,hd]
 cases hq:a.tmps[d]? with
 |none=>rfl
 |some x=>rw [hq] at this;simp at this;subst this;rfl
theorem Rel.und:Rel ι μ (.cS []) undef:=.cS [] _ rfl (fun i v x hv=>by simp at hv)
theorem xE : ∀ {ob : List Bool}, vE ob → oF ob
 |[],_=>fun b h=>by cases h
 |[b],h=>fun b' h'=>by cases List.mem_singleton.1 h';exact h
 |b::c::r,h=>fun b' h'=>by
  rcases List.mem_cons.1 h' with rfl|h'
  ·exact h.1
  ·exact xE h.2 b' h'
theorem AJ {o:Out} {l:Bool} {dst:Option Nat} {S:St} {K:St->Prop} (h:rM o l dst S K):∃ob v u,o=some (ob,v,u)/\oF ob /\
  K ⟨put dst v S.env,⟨gp l S.H.next S.H.next,bI u S.H.bl⟩,S.ms⟩:=by
 have hn:Nx l S.H.next=gp l S.H.next S.H.next:=by
  unfold gp Nx;cases l<;>simp
 unfold rM at h
 split at h
 ·rename_i v u
  rw [hn] at h
  exact ⟨[],v,u,rfl,(fun b hb=>by cases hb),h⟩
 ·rename_i ob v u _
  rw [hn] at h
  exact ⟨ob,v,u,rfl,xE h.1,h.2⟩
 ·exact h.elim
theorem dX.cl {c1 : Nat → List V → aG → (V → aG → Prop) → Prop} {c2 : Nat → List V → V → Prop} {c3 : C → St → (Ex → St → Prop) → Prop}
  {c4:Nat->List V->aG->(V->aG->Prop)->Prop} {c5:O->List Nat->C->C->St->(Ex->St->Prop)->Prop} {c6:C->St->(Ex->St->Prop)->Prop} {S:St} {a:Act} (h:dX P N Y ι μ S a w) {ids:List Nat} {u:eY} (hu:Nw (bu c1 c2 c3 c4 c5 c6) ids S.H.bl=some u) :
  ∃ι',dX P N Y ι' μ ⟨S.env,⟨S.H.next,bI u S.H.bl⟩,S.ms⟩ a w:=by
 obtain ⟨ι',hle,hI⟩:=I7 hu h.inv
 exact ⟨ι',h.env.mono hle (Mu.le_refl _),h.sz,hI,h.ms⟩
def Next (P:Program) (N:Nat) (Y:Ctx) (K:St->Prop) (next:Act->World->Prop):Prop:=∀ι μ S a w,dX P N Y ι μ S a w->K S->next a w
theorem D6 {a : Act} {f : Operand} {args : Array Operand} {tys : Array TypeId} {o : Oper} (ho : o.op = .call { callee := .value f, args := args, argTypes := tys }) {fid : Nat} {xs ys : Array Value}
  (hf:a.eval f = .func (.func fid) xs ys) (cF:Enters P fid) (w:World):(execOp a.eval o).run P w = .ok (.enter fid (xs++args.map a.eval++ys)) w:=by
 have:=cF (xs++args.map a.eval++ys) w
 simp only [Array.append_assoc] at this
 simp [execOp,ho,resolve,hf,Deferred.ofValue,invoke,this]
theorem xF {t f : Nat} : ∀ {l : List (Nat × Nat)}, l.lookup t = some f → (t, f) ∈ l
 |[],h=>by cases h
 |(a,b)::r,h=>by
  rw [List.lookup_cons] at h
  split at h
  ·rename_i e;cases h;rw [beq_iff_eq] at e;subst e;exact List.mem_cons_self ..
  ·exact List.mem_cons_of_mem _ (xF h)
theorem Lh {name:String} {t f:Nat} (h:(S7 P name).lookup t=some f):∃i m pr,P.info? t=some i/\i.methods.find? (·.name==name)=some m/\m.path=#[]/\m.func=some (f,pr) /\
  ((pr=true/\∃e,P.underlying t=some (.pointer e))\/(pr=false/\∃d,P.underlying t=some d/\∀e,d ≠ .pointer e)):=by
 have hm:=xF h
 unfold S7 at hm
 obtain ⟨t',_,ht⟩:=List.mem_filterMap.1 hm
 split at ht<;>try (cases ht;done)
 rename_i i hi
 split at ht<;>try (cases ht;done)
 rename_i m hf
 split at ht<;>try (cases ht;done)
 rename_i hp
 have Ot:m.path=#[]:=by simpa using hp
 split at ht<;>try (cases ht;done)
 ·rename_i f' e hfu hu
  cases ht
  exact ⟨i,m,true,hi,hf,Ot,hfu,.inl ⟨rfl,e,hu⟩⟩
 ·rename_i f' d hnp hfu hu
  cases ht
  exact ⟨i,m,false,hi,hf,Ot,hfu,.inr ⟨rfl,d,hu,fun e he=>by subst he;exact hnp _ rfl⟩⟩
theorem xG {name:String} {t f:Nat} (h:(S7 P name).lookup t=some f) (cF:Enters P f) (v:Value) (args:Array Value) (w:World):(callMethod (.iface t v) name args).run P w = .ok (.enter f (#[v]++args)) w:=by
 obtain ⟨i,m,pr,h1,h2,h3,h4,h5⟩:=Lh h
 have Dv:∀w:World,(typeInfo t).run P w = .ok i w:=fun w=>by simp [typeInfo,h1]
 have adC:∀n,(method (n+1) t v name).run P w = .ok (f,v) w:=fun n=>by
  unfold method
  simp only [Sem.run_bind,Dv,Result.andThen_ok,h2,h3]
  have hfol:(follow (#[]:Array FieldStep).toList t (.val v)).run P w = .ok (t,.val v) w:=rfl
  simp only [hfol,Result.andThen_ok,h4]
  have Tn:(receiverAt t (.val v) pr (if m.path.isEmpty then some ((name.splitOn ".").getLastD name) else none)).run P w = .ok v w:=by
   unfold receiverAt
   rcases h5 with ⟨rfl,e,hu⟩|⟨rfl,d,hu,hd⟩
   ·rw [Sem.run_bind,run_underlying hu w];rfl
   ·rw [Sem.run_bind, run_underlying hu w]
    cases d<;>first|rfl|exact absurd rfl (hd _)
  rw [h3] at Tn
  simp only [Sem.run_bind,Tn,Result.andThen_ok];rfl
 have hsz:∀w:World,(program).run P w = .ok P w:=fun w=>rfl
 show ((do let p <-program;let (f,receiver) <-method (p.types.size+Made.depth) t v name;callFunc f (#[receiver]++args):Sem Go.Next)).run P w=_
 simp only [Sem.run_bind,hsz,Result.andThen_ok]
 rw [show P.types.size+Made.depth=(P.types.size+99)+1 from rfl,adC]
 simp only [Result.andThen_ok]
 exact cF _ _
theorem xH {a : Act} {c : Callee} {args : Array Operand} {tys : Array TypeId} {o : Oper} (hop : o.op = .call { callee := c, args := args, argTypes := tys }) {fo : O} (hc : lI P c = some fo) {env : List (Nat × V)} (he : fu ι μ env a.tmps)
  {fid:Nat} {fs cs:List V} (nt:fo.ev env = .fn fid fs cs) (cF:Enters P fid):∃xs ys:Array Value,aM ι μ fs xs.toList/\aM ι μ cs ys.toList/\∀w,(execOp a.eval o).run P w = .ok (.enter fid (xs++args.map a.eval++ys)) w:=by
 unfold lI at hc
 split at hc<;>try (cases hc;done)
 ·rename_i f
  have rf:=aB he hc
  rw [nt] at rf
  generalize hg:a.eval f=fv at rf
  cases rf with
  |fn _ _ _ xs ys h1 h2 h3 h4 =>
   exact ⟨xs,ys,⟨by simpa using h1,fun i v x hv hx=>h2 i v x hv (by simpa using hx)⟩,⟨by simpa using h3,fun i v x hv hx=>h4 i v x hv (by simpa using hx)⟩,fun w=>D6 hop hg cF w⟩
 ·rename_i t name
  cases hc
  have hr:=he t
  simp only [O.ev] at nt
  generalize hv:get t env=tv at nt hr
  cases tv<;>simp only [NL] at nt<;>try (cases nt;done)
  rename_i ty v0
  split at nt<;>try (cases nt;done)
  rename_i f hf
  cases nt
  have ak:a.eval (.tmp t)=a.tmps.getD t undef:=rfl
  generalize hg:a.tmps.getD t undef=fv at hr ak
  cases hr with
  |cL _ _ x hx =>
   refine ⟨#[x],#[],.cons hx .nil,.nil,fun w=>?_⟩
   have hm:=xG hf cF x (args.map a.eval) w
   simp only [execOp,hop,resolve,ak,Sem.run_bind,Sem.run_pure,Result.andThen_ok,invoke]
   have h0:(#[Value.iface ty x]++Array.map a.eval args)[0]?=some (.iface ty x):=by rw [Array.getElem?_append_left (by simp)];rfl
   have h1:(#[Value.iface ty x]++Array.map a.eval args).extract 1 (#[Value.iface ty x]++Array.map a.eval args).size=Array.map a.eval args:=by
    apply Array.ext'
    have:List.take args.size (List.map a.eval args.toList)=List.map a.eval args.toList:=List.take_of_length_le (by simp)
    simp [List.extract_eq_take_drop,this]
   rw [h0,h1]
   simpa using hm
theorem To {c:Callee} {fo:O} (hc:lI P c=some fo) {env:List (Nat×V)} {id:Nat} (nt:fo.ev env = .yl id):∃f,c = .value f/\dL f=some fo:=by
 unfold lI at hc
 split at hc<;>try (cases hc;done)
 ·exact ⟨_,rfl,hc⟩
 ·cases hc
  simp only [O.ev] at nt
  generalize get _ env=tv at nt
  cases tv<;>simp only [NL] at nt<;>try (cases nt;done)
  split at nt<;>cases nt
theorem uX {F : Fence} (hF : ∀ f, F.fn f) (hdep : F.depth = none) {ops : Array Oper} {i : Nat} {rest : List Nat} {o : Oper} (ho : ops[i]? = some o) {a : Act} {w : World} {Q : Exit → Act → World → Prop}
  (hw:Region.wanted o (yielded ops a.tmps)=true) (hdef:∀c,o.op ≠ .defer c) {x:Value} {w':World}
  (hrun:(execOp a.eval o).run P w = .ok (.value x) w'\/((execOp a.eval o).run P w = .ok .skip w'/\x=undef)) (hk:wpOpsIn F 0 P ops Q rest (a.put o.dst x) w') :
  wpOpsIn F 0 P ops Q (i::rest) a w:=by
 simp only [wpOpsIn,ho,hw,if_true,Oper.wpIn]
 refine ⟨fun f _=>hF f,?_⟩
 rw [Oper.semAt_eq _ _ _ hdef]
 rcases hrun with h|⟨h,rfl⟩<;>rw [h]<;>exact hk
theorem Tp {F : Fence} (hF : ∀ f, F.fn f) {ops : Array Oper} {i : Nat} {rest : List Nat} {o : Oper} (ho : ops[i]? = some o) {a : Act} {w : World} {Q : Exit → Act → World → Prop}
  (hw:Region.wanted o (yielded ops a.tmps)=false) (hk:wpOpsIn F 0 P ops Q rest (a.put o.dst undef) w) :
  wpOpsIn F 0 P ops Q (i::rest) a w:=by
 simp only [wpOpsIn,ho,hw,Bool.false_eq_true,if_false]
 exact ⟨fun f _=>hF f,hk⟩
theorem ko {op:Op} {i:I} (h:DE P op=some i):∀c,op ≠ .defer c:=fun c e=>by subst e;simp [DE] at h
theorem Jc {ops : Array Oper} {i : Nat} {rest : List Nat} {o : Oper} (ho : ops[i]? = some o) {a : Act} {w : World} {Q : Exit → Act → World → Prop} {S : St} (hR : dX P N Y ι μ S a w)
  (hw:Region.wanted o (yielded ops a.tmps)=true) {c:Callee} {args:Array Operand} {tys:Array TypeId} (hop:o.op = .call { callee:=c,args:=args,argTypes:=tys })
  {fo:O} {as:List O} (hf:lI P c=some fo) (ha:vF args.toList=some as) (hd:rQ N o.dst=true) {ts:List (Option Ty)} {K:St->Prop} (hK:BL (eW P N out base) o.dst fo as ts S K)
  (hn:Next P N Y K (wpOpsIn Y.F 0 P ops Q rest)):wpOpsIn Y.F 0 P ops Q (i::rest) a w:=by
 simp only [wpOpsIn,ho,hw,if_true,Oper.wpIn]
 refine ⟨fun f _=>trivial,?_⟩
 rw [Oper.semAt_eq _ _ _ (by rw [hop];simp)]
 have tY:∃ι S',dX P N Y ι μ S' a w/\rN (eW P N out base) o.dst fo as ts S' K:=by
  rcases hK with hK|⟨ids,u,hu,hK⟩
  ·exact ⟨ι,S,hR,hK⟩
  ·obtain ⟨ι', fU⟩ := hR.cl hu
   exact ⟨ι',_,fU,hK⟩
 clear hK hR
 obtain ⟨ι,S,hR,hK⟩:=tY
 have ra:=jk hR.env ha
 unfold rN at hK
 split at hK
 ·rename_i fid fs cs nt
  obtain ⟨cF,ez⟩:=hK
  obtain ⟨xs,ys,r1,r2,hrun⟩:=xH hop hf hR.env nt cF
  rw [hrun]
  have rl:aM ι μ (fs++cu ts (as.map (·.ev S.env))++cs) (xs++args.map a.eval++ys).toList:=by
   have:=(r1.append (j8 (ts:=ts) ra)).append r2
   simpa using this
  refine ⟨fun h=>by simp [Ctx.F,Fence.wide] at h,?_⟩
  refine CallsIn.mono (F:=Y.F) (ez Y ι μ w _ hR.inv rl) ?_
  rintro e w' ⟨v,ι',μ',r,H',rfl,hi,hm,hinv,hv,hq⟩
  exact hn _ _ _ _ _ (hR.put hd hi hm hinv hv) hq
 ·rename_i id nt
  obtain ⟨f,rfl,hf⟩:=To hf nt
  have rf:=aB hR.env hf
  rw [nt] at rf
  generalize hg:a.eval f=fv at rf
  cases rf with
  |yl _ L hL =>
   obtain ⟨f',tmps,as',bd,w1,hy,Zn⟩:=hK Y ι μ w (args.map a.eval) L hR.inv (by simpa using j8 (ts:=ts) ra) hL
   have:(execOp a.eval o).run P w = .ok (.round L.b f' tmps as' bd) w1:=by
    simp [execOp,hop,resolve,hg,Deferred.ofValue,invoke,hy]
   rw [this]
   refine ⟨fun h=>by simp [Ctx.F,Fence.wide] at h,?_⟩
   refine RoundIn.mono (F:=Y.F) Zn ?_
   rintro e w' ⟨v,ι',μ',r,H',rfl,hi,hm,hinv,hv,hq⟩
   exact hn _ _ _ _ _ (hR.put hd hi hm hinv hv) hq
 ·exact hK.elim
theorem xI {ops : Array Oper} {i : Nat} {rest : List Nat} {o : Oper} (ho : ops[i]? = some o) {a : Act} {w : World} {Q : Exit → Act → World → Prop} {S : St} (hR : dX P N Y ι μ S a w)
  {g:Option (Nat×Bool)} (hg:trG ops o.guard=some g) (hd:rQ N o.dst=true) {K:St->Prop} {run:St->Prop} (h:nw g o.dst S K run)
  (hn:Next P N Y K (wpOpsIn Y.F 0 P ops Q rest))
  (hrun:∀S',dX P N Y ι μ S' a w->run S'->Region.wanted o (yielded ops a.tmps)=true->wpOpsIn Y.F 0 P ops Q (i::rest) a w):wpOpsIn Y.F 0 P ops Q (i::rest) a w:=by
 cases Ou:o.guard with
 |none =>
  rw [Ou] at hg;cases hg
  exact hrun S hR h (by simp [Region.wanted,Ou])
 |some jb =>
  obtain ⟨j,b⟩:=jb
  rw [Ou] at hg
  simp only [trG] at hg
  split at hg<;>try (cases hg;done)
  rename_i oj hoj
  split at hg<;>try (cases hg;done)
  rename_i d hdj
  cases hg
  have want:∀c,(get d S.env = .tf c\/get d S.env = .bool c)->Region.wanted o (yielded ops a.tmps)=(c==b):=fun c hc=>by
   simp only [Region.wanted,Ou,xD hR.env hoj hdj hc]
   cases c<;>cases b<;>rfl
  have skip:∀S',dX P N Y ι μ S' a w->Region.wanted o (yielded ops a.tmps)=false->K ⟨put o.dst (.cS []) S'.env,S'.H,S'.ms⟩->wpOpsIn Y.F 0 P ops Q (i::rest) a w:=fun S' fU hw hk =>
   Tp (fun _=>trivial) ho hw (hn _ _ _ _ _ (fU.put hd (ax.le_refl _) (Mu.le_refl _) fU.inv Rel.und) hk)
  have adE:∀c,get d S.env = .bool c->dX P N Y ι μ (S6 d c S) a w:=fun c hc =>
   ⟨fun t=>by
    simp only [S6,mF]
    by_cases ht:d=t
    ·subst ht; rw [if_pos rfl]
     have:=hR.env d;rw [hc] at this
     generalize hx:a.tmps.getD d undef=x at this
     cases this;exact .tf _
    ·rw [if_neg ht];exact hR.env t,hR.sz,hR.inv,hR.ms⟩
  simp only [nw] at h
  split at h
  ·rename_i c hc
   have hw:=want c (.inl hc)
   cases c<;>cases b<;>simp only at h
   ·exact hrun S hR h (by rw [hw];rfl)
   ·exact skip S hR (by rw [hw];rfl) h
   ·exact skip S hR (by rw [hw];rfl) h
   ·exact hrun S hR h (by rw [hw];rfl)
  ·rename_i c hc
   have hw:=want c (.inr hc)
   have DO:=adE c hc
   obtain ⟨h1,h2⟩:=h
   cases c with
   |true =>
    have h1:=h1 rfl
    cases b
    ·exact skip _ DO (by rw [hw];rfl) h1
    ·exact hrun _ DO h1 (by rw [hw];rfl)
   |false =>
    have h2:=h2 rfl
    cases b
    ·exact hrun _ DO h2 (by rw [hw];rfl)
    ·exact skip _ DO (by rw [hw];rfl) h2
  ·rename_i vs hc
   exact skip S hR (by simp only [Region.wanted,Ou,uW hR.env hoj hdj hc];rfl) h
  ·exact h.elim
theorem uh {ops:Array Oper} {Q:Exit->Act->World->Prop} {K:St->Prop} {rest:List Nat} (hend:Next P N Y K (wpOpsIn Y.F 0 P ops Q rest)):∀{os:List Oper} {is:List dw} {k:Nat},dh P N ops os=some is ->
  (∀j,j<os.length->os[j]?=ops[k+j]?)->∀{S:St} {a:Act} {w:World} {ι:ax} {μ:Mu},dX P N Y ι μ S a w->dY (eW P N out base) is S K->wpOpsIn Y.F 0 P ops Q (List.range' k os.length++rest) a w
 |[],is,k,h,_,S,a,w,ι,μ,hR,hK=>by cases h;exact hend _ _ _ _ _ hR hK
 |o::os,is,k,h,hk,S,a,w,ι,μ,hR,hK=>by
  unfold dh at h
  split at h<;>try (cases h;done)
  rename_i it its hit Ov
  cases h
  have ho:ops[k]?=some o:=by have:=hk 0 (by simp);simpa using this.symm
  have hk':∀j,j<os.length->os[j]?=ops[k+1+j]?:=fun j hj=>by have:=hk (j+1) (by simp only [List.length_cons];omega);rw [show k+(j+1)=k+1+j by omega] at this;simpa using this
  have hn:Next P N Y (fun S=>dY (eW P N out base) its S K) (wpOpsIn Y.F 0 P ops Q (List.range' (k+1) os.length++rest)):=fun ι μ S a w hR hK=>uh hend Ov hk' hR hK
  simp only [List.length_cons,List.range'_succ,List.cons_append]
  unfold lJ at hit
  split at hit<;>try (cases hit;done)
  rename_i hd
  split at hit<;>try (cases hit;done)
  rename_i g hg
  split at hit
  ·rename_i f args tys hop
   split at hit<;>try (cases hit;done)
   rename_i fo as hf ha
   cases hit
   refine xI ho hR hg hd hK hn fun S' fU hrun hw=>?_
   exact Jc (c:=.value f) ho fU hw hop hf ha hd hrun hn
  ·rename_i r name args tys hop
   split at hit<;>try (cases hit;done)
   rename_i fo as hf ha
   cases hit
   refine xI ho hR hg hd hK hn fun S' fU hrun hw=>?_
   exact Jc (c:=.invoke r name) ho fU hw hop hf ha hd hrun hn
  ·rename_i op _
   split at hit<;>try (cases hit;done)
   rename_i i hi
   cases hit
   refine xI ho hR hg hd hK hn fun S' fU hrun hw=>?_
   have key:∀{ι:ax} {S':St},dX P N Y ι μ S' a w->rM (b7 (eW P N out base) i S'.env S'.H.bl S'.H.next) i.lays o.dst S' (fun S=>dY (eW P N out base) its S K)->wpOpsIn Y.F 0 P ops Q (k::(List.range' (k+1) os.length++rest)) a w:=by
    intro ι S' fU hrun
    obtain ⟨ob,v,u,ak,cW,hk⟩:=AJ hrun
    have hnone:=fU.inv.nx S'.H.next (Nat.le_refl _)
    obtain ⟨ι',μ',x,w',hx,hi',hm,_,hinv,hv⟩:=uf fU.inv hnone fU.env hi ak cW
    exact uX (fun _=>trivial) rfl ho hw (ko hi) hx (hn _ _ _ _ _ (fU.put hd hi' hm hinv hv) hk)
   rcases hrun with hrun|hrun|⟨ids,u,hu,hrun⟩
   ·exact key fU hrun
   ·obtain ⟨ob, v, u, ak, cW, hk⟩ := AJ hrun
    obtain ⟨ι',μ',x,w',hx,hi',hm,_,hinv,hv⟩:=ug (aC:=S'.H.next) fU.inv (fU.inv.nx S'.H.next (Nat.le_refl _)) fU.env hi ak cW
    exact uX (fun _=>trivial) rfl ho hw (ko hi) hx (hn _ _ _ _ _ (fU.put hd hi' hm hinv hv) hk)
   ·obtain ⟨ι', hR''⟩ := fU.cl hu
    exact key hR'' hrun
theorem rZ {ops : Array Oper} {Q : Exit → Act → World → Prop} {K : St → Prop} (hend : Next P N Y K (Q .normal)) {os : List Oper} {is : List dw} {k : Nat} (hi : dh P N ops os = some is)
  (hk:∀j,os[j]?=ops[k+j]?) {S:St} {a:Act} {w:World} {ι:ax} {μ:Mu} (hR:dX P N Y ι μ S a w) (hK:dY (eW P N out base) is S K):wpOpsIn Y.F 0 P ops Q (List.range' k os.length) a w:=by
 have:=uh (Q:=Q) (rest:=[]) (fun ι μ S a w hR hK=>hend ι μ S a w hR hK) hi (fun j _=>hk j) hR hK
 rwa [List.append_nil] at this
end
end Go.AM
end
section
namespace Go.AM
section
variable {P:Program} {N:Nat} {Y:Ctx} {ι ι':ax} {μ μ':Mu} {H:aG} {w w':World} {out:Option Nat} {base:Nat}
theorem wpIn_loop_ghost {α : Type} {F : Fence} {n : Nat} {c : Code} {Q : Exit → Act → World → Prop} (I : α → Act → World → Prop) (m : α → Nat) {x : α} {a : Act} {w : World} (h₀ : I x a w)
  (round:∀x a w,I x a w->c.wpIn F n P (Exit.then (fun a' w'=>∃y,I y a' w'/\m y<m x) Q) a w):(Code.loop c).wpIn F n P Q a w:=by
 intro b k cs hro hb hr
 have key:∀j x a w,m x=j->I x a w ->
   ∃e a' w',Q e a' w'/\ArrivesIn (Machine.fenced P F) P (lone (b.atR a (.code c :: .inLoop c::k)) cs w) b k cs e a' w':=by
  intro j
  induction j using Nat.strongRecOn with
  |_ j ih =>
   intro x a w hn hI
   obtain ⟨e,a₁,w₁,hq,nE⟩:=round x a w hI b (.inLoop c::k) cs hro hb hr
   cases e with
   |normal =>
    obtain ⟨y,hI₁,hlt⟩:=hq
    obtain ⟨e₂,a₂,w₂,hq₂,adF⟩:=ih (m y) (hn▸hlt) y a₁ w₁ rfl hI₁
    have h0:(lone (b.atR a₁ (.inLoop c::k)) cs w₁).fenced P F:=fenced_calm hb hr rfl
    exact ⟨e₂,a₂,w₂,hq₂,.of_steps (StepsIn.trans nE (.one h0 stepR_inLoop)) adF⟩
   |exit id=>exact ⟨_,a₁,w₁,hq,.pass (x:=.inLoop c) rfl (fun _ _=>.inl (by simp)) nE⟩
   |goto l=>exact ⟨_,a₁,w₁,hq,.pass (x:=.inLoop c) rfl (fun _ _=>.inl (by simp)) nE⟩
   |ret=>exact ⟨_,a₁,w₁,hq,.pass (x:=.inLoop c) rfl (fun _ _=>.inl (by simp)) nE⟩
   |panic ch=>exact ⟨_,a₁,w₁,hq,.pass (x:=.inLoop c) rfl (fun _ _=>.inl (by simp)) nE⟩
   |outgrown=>exact ⟨_,a₁,w₁,hq,.pass (x:=.inLoop c) rfl (fun _ _=>.inl (by simp)) nE⟩
 obtain ⟨e,a',w',hq,nE⟩:=key _ x a w rfl h₀
 exact ⟨e,a',w',hq,.of_steps (.one (fenced_calm hb hr rfl) stepR_loop) nE⟩
theorem gR {b:Frame} {a:Act} {k:List Item} {cs:List Frame} {c:Code}:step P (lone (b.atR a (.code (.scope c)::k)) cs w) = .next (lone (b.atR a (.code c :: .inScope c::k)) cs w) :=
 step_lone_go (by simp [stepG,stepG.exec,Frame.atR])
theorem zU {b:Frame} {a:Act} {k:List Item} {cs:List Frame} {c:Code}:step P (lone (b.atR a (.inScope c::k)) cs w) = .next (lone (b.atR a k) cs w) :=
 step_lone_go (by simp [stepG,stepG.exec,Frame.atR])
theorem kO {F:Fence} {n:Nat} {c:Code} {Q:Exit->Act->World->Prop} {a:Act} {w:World} (h:c.wpIn F n P Q a w) (hg:∀l a w,¬Q (.goto l) a w):(Code.scope c).wpIn F n P Q a w:=by
 intro b k cs hro hb hr
 obtain ⟨e,a₁,w₁,hq,nE⟩:=h b (.inScope c::k) cs hro hb hr
 have h0:∀a w k,(lone (b.atR a (.code (.scope c)::k)) cs w).fenced P F:=fun a w k=>fenced_calm hb hr rfl
 have h1:∀a w k,(lone (b.atR a (.inScope c::k)) cs w).fenced P F:=fun a w k=>fenced_calm hb hr rfl
 cases e with
 |normal=>exact ⟨.normal,a₁,w₁,hq,.head (h0 _ _ _) gR (StepsIn.trans nE (.one (h1 _ _ _) zU))⟩
 |exit id=>exact ⟨.exit id,a₁,w₁,hq,fun k' hk=>.head (h0 _ _ _) gR (nE.1 k' (by simp [exitTo,hk])),fun hro' hk =>
   let ⟨k₁,e1,e2⟩:=nE.2 hro' (by simp [exitTo,hk]);⟨k₁,e1,.head (h0 _ _ _) gR e2⟩⟩
 |goto l=>exact absurd hq (hg _ _ _)
 |ret=>exact ⟨_,a₁,w₁,hq,.of_steps (.one (h0 _ _ _) gR) nE⟩
 |panic ch=>exact ⟨_,a₁,w₁,hq,.of_steps (.one (h0 _ _ _) gR) nE⟩
 |outgrown=>exact ⟨_,a₁,w₁,hq,.of_steps (b:=b) (k:=k) (cs:=cs) (e:=.outgrown) (.one (h0 _ _ _) gR) nE⟩
def Jd (P:Program) (N:Nat) (out:Option Nat) (base:Nat):Prop:=∀(id:Nat) (ops:Array Oper) (Dx Tq:List dw),dh P N ops ops.toList=some (Dx++Tq)->jV (aX ops) (Dx++Tq)=true->fh ops=true ->
 (∀i,Dx.length<=i->i<Dx.length+Tq.length->∀j,j<i->j∈(aX ops).getD i []) ->
 ∀S K,BS (eW P N out base) (aX ops) Dx S (fun S=>dY (eW P N out base) Tq S K)->Ny P N out base (.region id ops true) S fun e S=>match e with | .normal=>K S|_=>False
def Je (P:Program) (N:Nat) (out:Option Nat) (base:Nat):Prop:=∀(id:Nat) (ops:Array Oper) (is:List dw) (c e:Nat),dh P N ops ops.toList=some is->jV (aX ops) is=true->fh ops=true ->
 NX (aX ops) is=some (c,e) ->
 ∀S K,BS (eW P N out base) [] (jD is c e) S (fun S=>dY (eW P N out base) (BO is c e) S K)->Ny P N out base (.region id ops true) S fun e S=>match e with | .normal=>K S|_=>False
def nG (P:Program) (N:Nat) (out:Option Nat) (base:Nat):Prop:=Jd P N out base/\Je P N out base
theorem gT (gU:nG P N out base):∀(code:Code) {c:C},gh P N code=some c->∀{S:St} {K:Ex->St->Prop},rT (eW P N out base) c S K->Ny P N out base code S K:=by
 intro code
 induction code with
 |skip => 
  intro c h S K hK Y ι μ a w ho hb hR
  cases h;exact wpIn_skip (Post.of (e':=.normal) hR rfl hK)
 |label l =>
  intro c h S K hK Y ι μ a w ho hb hR
  cases h;exact wpIn_label (Post.of (e':=.normal) hR rfl hK)
 |ret =>
  intro c h S K hK Y ι μ a w ho hb hR
  cases h;exact wpIn_ret (Post.of (e':=.ret) hR rfl hK)
 |exit id =>
  intro c h S K hK Y ι μ a w ho hb hR
  cases h;exact wpIn_exit (Post.of (e':=.exit id) hR rfl hK)
 |goto l=>intro c h;cases h
 |refuse why=>intro c h;cases h
 |scope b ih =>
  intro c h S K hK Y ι μ a w ho hb hR
  refine kO (ih h hK Y ι μ a w ho hb hR) fun l a w hq=>?_
  obtain ⟨_,_,_,_,_,e',_,he,_⟩:=hq
  cases e'<;>cases he
 |region id ops draw =>
  intro c h S K hK Y ι μ a w ho hb hR
  simp only [gh] at h
  split at h<;>try (cases h;done)
  rename_i is jy
  cases draw with
  |true =>
   simp only at h
   split at h<;>try (cases h;done)
   rename_i B5
   cases h
   split at hK
   ·rename_i c e hl
    simp only [rT] at hK
    refine wpIn_mono (gU.2 id ops is c e jy B5.1 B5.2 hl S _ hK Y ι μ a w ho hb hR) fun e a w hp=>?_
    obtain ⟨Y1,hY,ι',μ',S',e',h1,h2,h3⟩:=hp
    cases e'<;>simp at h3
    exact ⟨Y1,hY,ι',μ',S',.normal,h1,h2,h3⟩
   split at hK
   ·rename_i c hl
    simp only [rT] at hK
    unfold Av at hl
    split at hl<;>try (cases hl;done)
    split at hl<;>try (cases hl;done)
    rename_i hq
    cases hl
    rw [Bool.and_eq_true,decide_eq_true_eq] at hq
    have Ts:(is.take c).length=c:=by simp [hq.2]
    have e:is.take c++is.drop c=is:=List.take_append_drop ..
    refine wpIn_mono (gU.1 id ops (is.take c) (is.drop c) (by rw [e];exact jy) (by rw [e];exact B5.1) B5.2 (fun i hi hi2 j hj=>?_) S _ hK Y ι μ a w ho hb hR) fun e a w hp=>?_
    ·rw [Ts] at hi
     rw [<-List.length_append,e] at hi2
     have:=List.all_eq_true.1 hq.1 i (List.mem_range.2 hi2)
     rw [Bool.or_eq_true,decide_eq_true_eq] at this
     rcases this with h|h
     ·omega
     ·simpa using List.all_eq_true.1 h j (List.mem_range.2 hj)
    ·obtain ⟨Y1, hY, ι', μ', S', e', h1, h2, h3⟩ := hp
     cases e'<;>simp at h3
     exact ⟨Y1,hY,ι',μ',S',.normal,h1,h2,h3⟩
   ·simp only [rT] at hK
    refine wpIn_mono (gU.1 id ops is [] (by rw [List.append_nil];exact jy) (by rw [List.append_nil];exact B5.1) B5.2 (fun i hi hi2=>by simp at hi2;omega) S _ hK Y ι μ a w ho hb hR) fun e a w hp=>?_
    obtain ⟨Y1,hY,ι',μ',S',e',h1,h2,h3⟩:=hp
    cases e'<;>simp at h3
    exact ⟨Y1,hY,ι',μ',S',.normal,h1,h2,h3⟩
  |false =>
   cases h
   simp only [rT] at hK
   refine wpIn_region ?_
   have:=rZ (Y:=Y) (Q:=Post P N Y K) (K:=fun S=>K .normal S) (out:=out) (base:=base) (fun ι μ S a w hR hK=>(Post.of (e':=.normal) hR rfl hK)) (k:=0) jy (fun j=>by simp) hR hK
   rwa [Array.length_toList,<-List.range_eq_range'] at this
 |seq x y ihx ihy =>
  intro c h S K hK Y ι μ a w ho hb hR
  have h0:=h
  simp only [gh] at h
  split at h<;>try (cases h;done)
  rename_i cx cy hx hy
  split at h
  rotate_left
  next hd hmh =>
   split at h<;>try (cases h;done)
   rename_i bd hbd
   cases h
   rcases hK with hK|⟨ids,u,hu,hK⟩
   ·exact hK x y h0 (by rw [hmh];rfl) Y ι μ a w ho hb hR
   ·obtain ⟨ι', fU⟩ := hR.cl hu
    exact hK x y h0 (by rw [hmh];rfl) Y ι' μ a w ho hb fU
  cases h
  simp only [rT] at hK
  refine wpIn_seq (wpIn_mono (ihx hx hK Y ι μ a w ho hb hR) fun e a' w' hp=>?_)
  obtain ⟨Y1,hY,ι',μ',S',e',h1,h2,h3⟩:=hp
  cases e' with
  |normal=>cases h2;exact GU (ihy hy h3) hY ho hb h1
  |exit id=>cases h2;exact ⟨Y1,hY,ι',μ',S',.exit id,h1,rfl,h3⟩
  |ret=>cases h2;exact ⟨Y1,hY,ι',μ',S',.ret,h1,rfl,h3⟩
 |cond c0 x y ihx ihy =>
  intro c h S K hK Y ι μ a w ho hb hR
  simp only [gh] at h
  split at h<;>try (cases h;done)
  rename_i co cx cy hc hx hy
  cases h
  simp only [rT] at hK
  have rc:=aB hR.env hc
  generalize hg:a.eval c0=cv at rc
  split at hK
  ·rename_i hce; rw [hce] at rc; cases rc
   exact wpIn_cond hg (ihx hx hK Y ι μ a w ho hb hR)
  ·rename_i hce; rw [hce] at rc; cases rc
   exact wpIn_cond hg (ihy hy hK Y ι μ a w ho hb hR)
  ·rename_i t hce; rw [hce] at rc; cases rc
   obtain ⟨k1,k2⟩:=hK
   have hrw:dX P N Y ι μ (Ta co t S) a w:=by
    cases co with
    |c v=>exact hR
    |m d dK=>exact hR
    |t d =>
     refine ⟨fun i=>?_,hR.sz,hR.inv,hR.ms⟩
     simp only [Ta,S6,mF]
     by_cases hi:d=i
     ·subst hi; rw [if_pos rfl]
      have:=hR.env d
      have e1:get d S.env = .bool t:=hce
      rw [e1] at this
      generalize a.tmps.getD d undef=x at this
      cases this;exact .tf _
     ·rw [if_neg hi];exact hR.env i
   cases t with
   |true=>exact wpIn_cond hg (ihx hx (k1 rfl) Y ι μ a w ho hb hrw)
   |false=>exact wpIn_cond hg (ihy hy (k2 rfl) Y ι μ a w ho hb hrw)
  ·rename_i t hce; rw [hce] at rc
   cases rc with
   |cb _ b hbt =>
   obtain ⟨k1,k2⟩:=hK
   have hrw:dX P N Y ι μ (Ta co b S) a w:=by
    cases co with
    |c v=>exact hR
    |m d dK=>exact hR
    |t d =>
     refine ⟨fun i=>?_,hR.sz,hR.inv,hR.ms⟩
     simp only [Ta,S6,mF]
     by_cases hi:d=i
     ·subst hi; rw [if_pos rfl]
      have e2:a.tmps.getD d undef = .bool b:=by
       unfold dL at hc
       split at hc<;>try (cases hc;done)
       ·cases hc;exact hg
       ·split at hc<;>cases hc
      rw [e2];exact .tf _
     ·rw [if_neg hi];exact hR.env i
   cases b with
   |true=>exact wpIn_cond hg (ihx hx (k1 (hbt rfl)) Y ι μ a w ho hb hrw)
   |false=>exact wpIn_cond hg (ihy hy k2 Y ι μ a w ho hb hrw)
  ·exact hK.elim
 |block id b ih =>
  intro c h S K hK Y ι μ a w ho hb hR
  simp only [gh] at h
  cases hx:gh P N b<;>simp [hx] at h
  subst h
  simp only [rT] at hK
  refine wpIn_block (wpIn_mono (ih hx hK Y ι μ a w ho hb hR) fun e a' w' hp=>?_)
  obtain ⟨Y1,hY,ι',μ',S',e',h1,h2,h3⟩:=hp
  cases e' with
  |normal=>cases h2;exact ⟨Y1,hY,ι',μ',S',.normal,h1,rfl,h3⟩
  |exit id' =>
   cases h2
   simp only [Exit.inBlock]
   simp only at h3
   split at h3
   ·rename_i B6
    rw [if_pos (Nat.eq_of_beq_eq_true B6)]
    exact ⟨Y1,hY,ι',μ',S',.normal,h1,rfl,h3⟩
   ·rename_i B6
    rw [if_neg (fun e=>by subst e;rw [Nat.beq_refl] at B6;cases B6)]
    exact ⟨Y1,hY,ι',μ',S',.exit id',h1,rfl,h3⟩
  |ret=>cases h2;exact ⟨Y1,hY,ι',μ',S',.ret,h1,rfl,h3⟩
 |loop b ih =>
  intro c h S K hK
  simp only [gh] at h
  cases hx:gh P N b<;>simp [hx] at h
  subst h
  rcases hK with hK|⟨ids,u,hu,hK⟩
  ·exact hK b hx
  ·intro Y ι μ a w ho hb hR
   obtain ⟨ι',fU⟩:=hR.cl hu
   exact hK b hx Y ι' μ a w ho hb fU
 |rangeFunc f ps x y ihx ihy =>
  intro c h S K hK
  simp only [gh] at h
  split at h<;>try (cases h;done)
  rename_i fo cx cy hf hx hy
  cases h
  rcases hK with hK|⟨ids,u,hu,hK⟩
  ·exact hK f ps x y hf rfl hx hy
  ·intro Y ι μ a w ho hb hR
   obtain ⟨ι',fU⟩:=hR.cl hu
   exact hK f ps x y hf rfl hx hy Y ι' μ a w ho hb fU
end
end Go.AM
end
section
namespace Go.AM
def eu:Ar:=bu (fun _ _ _ _=>False) (fun _ _ _=>False) (fun _ _ _=>False) (fun _ _ _ _=>False) (fun _ _ _ _ _ _=>False) (fun _ _ _=>False)
def Jf (ar : Ar) (bl : aq) (g : Bool) (k : Nat) : V → Option V
 | .ptr id off=>match ay id bl with
  |some (.cells cs _)=>match cut off k cs with
   |some vs=>cD g vs
   |none=>none
  |_=>none
 | .gx cs=>match cut 0 k cs with
  |some vs=>cD g vs
  |none=>none
 | .pa id t m=>match ay id bl with
  |some (.arr t' xs _)=>if t=t' then (match DB ar t' xs m 0 with
   |vs=>if vs.length=k then cD g vs else none) else none
  |_=>none
 |_=>none
def vJ (ar : Ar) (S : St) : List RV → Option (List V)
 |[]=>some []
 | .t n::r=>match vJ ar S r with
  |some vs=>some (get n S.env::vs)
  |none=>none
 | .cell n g k::r=>match Jf ar S.H.bl g k (get n S.env) with
  |some v=>match vJ ar S r with
   |some vs=>some (v::vs)
   |none=>none
  |none=>none
def uY : List V → V
 |[v]=>v
 |vs=>.cS vs
def fk : List Nat → aq → Option aq
 |[],bl=>some bl
 |id::r,bl=>match ay id bl with
  |some .iH=>fk r (bD id bl)
  |_=>none
def Li (ar:Ar) (res:List RV) (tys:List (Option Ty)) (K:V->Prop):Ex->St->Prop:=fun e S=>match e with
 | .exit _=>False
 | .normal=>qM ar res tys K S
 | .ret=>qM ar res tys K S
where qM (ar:Ar) (res:List RV) (tys:List (Option Ty)) (K:V->Prop) (S:St):Prop:=match fk S.ms S.H.bl with
 |some bl=>match vJ eu ⟨S.env,⟨S.H.next,bl⟩,[]⟩ res with
  |some vs=>match fin ar bl 8 (uY (cu tys vs)) with
   |some r=>K r
   |none=>False
  |none=>False
 |none=>False
def B7 (res:List RV) (tys:List (Option Ty)) (K:V->aG->Prop):Ex->St->Prop:=fun e S=>match e with
 | .exit _=>False
 | .normal=>qM res tys K S
 | .ret=>qM res tys K S
where qM (res:List RV) (tys:List (Option Ty)) (K:V->aG->Prop) (S:St):Prop:=match fk S.ms S.H.bl with
 |some bl=>match vJ eu ⟨S.env,⟨S.H.next,bl⟩,[]⟩ res with
  |some vs=>K (uY (cu (hTs tys) vs)) ⟨S.H.next,bl⟩
  |none=>False
 |none=>False
section
variable {P : Program} {N : Nat} {Y : Ctx} {ι ι' : ax} {μ μ' : Mu} {H : aG} {w w' : World} {out : Option Nat} {base : Nat}
 {c1:Nat->List V->aG->(V->aG->Prop)->Prop} {c2:Nat->List V->V->Prop} {c3:C->St->(Ex->St->Prop)->Prop}
theorem dN : ∀ {n : Nat} {v : V} {x : Value}, dZ n v = true → Rel ι μ v x → Rel ι μ' v x
 |0,v,x,h,_=>by cases h
 |n+1,v,x,h,hr=>by
  have all:∀{cs:List V} {i:Nat} {v:V},cs.all (dZ n)=true->cs[i]?=some v->dZ n v=true:=fun h hv=>List.all_eq_true.1 h _ (List.mem_of_getElem? hv)
  cases hr<;>simp only [dZ] at h<;>try (cases h;done)
  case any=>exact .any _
  case tf=>exact .tf _
  case bool=>exact .bool _
  case int=>exact .int _ _
  case str=>exact .str _
  case fG=>exact .fG
  case cZ=>exact .cZ
  case gw=>exact .gw
  case fS t xs hd=>exact .fS t xs _ hd
  case cg=>exact .cg _
  case gx cs b o g h1 h2 h3=>exact .gx cs b o g h1 (fun i v hv=>dN (all h hv) (h2 i v hv)) h3
  case ip t x b o us h1 h2=>exact .ip t x b o us h1 h2
  case fn f fs cs xs ys h1 h2 h3 h4 =>
   simp only [Bool.and_eq_true] at h
   exact .fn f fs cs xs ys h1 (fun i v x hv hx=>dN (all h.1 hv) (h2 i v x hv hx)) h3 (fun i v x hv hx=>dN (all h.2 hv) (h4 i v x hv hx))
  case agg cs xs h1 h2 h3=>exact .agg cs xs h1 (fun i v x hv hx=>dN (all h hv) (h2 i v x hv hx)) h3
  case cS cs xs h1 h2=>exact .cS cs xs h1 (fun i v x hv hx=>dN (all h hv) (h2 i v x hv hx))
  case cL t v x hv=>exact .cL t v x (dN h hv)
  case cb c b hc=>exact .cb c b hc
  case cT=>exact .cT
  case mw t xs b o us h1 h2=>exact .mw t xs b o us h1 h2
noncomputable def ax.all (ι:ax) (B:Nat->Prop) (w:World):ax:=by
 classical exact fun b o=>if B b then w.cell? ⟨b,o,none⟩ else ι b o
theorem ax.Tt {ι:ax} {B:Nat->Prop} {w:World} {b o:Nat} (h:B b):ι.all B w b o=w.cell? ⟨b,o,none⟩:=by unfold ax.all;rw [if_pos h]
theorem ax.Tu {ι:ax} {B:Nat->Prop} {w:World} {b o:Nat} (h:¬B b):ι.all B w b o=ι b o:=by unfold ax.all;rw [if_neg h]
theorem ax.GV {ι:ax} {B:Nat->Prop} {w:World} (hr:∀b o x,ι b o=some x->w.cell? ⟨b,o,none⟩=some x) {b o:Nat} {x:Value} (h:ι.all B w b o=some x):w.cell? ⟨b,o,none⟩=some x:=by
 unfold ax.all at h;split at h
 ·exact h
 ·exact hr _ _ _ h
theorem ax.B8 (h:∀b o x,ι b o=some x->w.cell? ⟨b,o,none⟩=some x) {B:Nat->Prop}:ι.le (ι.all B w):=fun b o x hx=>by
 unfold ax.all;split
 ·exact h _ _ _ hx
 ·exact hx
theorem jq {g : V → Option V} (hg : ∀ v r x, g v = some r → Rel ι μ v x → Rel ι' μ' r x) : ∀ {cs ds : List V} {xs : List Value}, ee g cs = some ds → aM ι μ cs xs → aM ι' μ' ds xs
 |[],ds,xs,h,hr=>by cases h;rw [hr.of_nil];exact .nil
 |v::r,ds,xs,h,hr=>by
  unfold ee at h
  obtain ⟨x,xs',rfl,h1,h2⟩:=hr.bN
  split at h<;>try (cases h;done)
  rename_i y hy
  split at h<;>try (cases h;done)
  rename_i ys hys
  cases h
  exact .cons (hg _ _ _ hy h1) (jq hg hys h2)
theorem wk {ar:Ar} (hsub:∀{α:Type} (xs:List α) lo n,ar.sub' xs lo n=(xs.drop lo).take n) {bl:aq} {nx:Nat} (hI:Inv P Y ι μ ⟨nx,bl⟩ w) :
  ∀{n:Nat} {v r:V} {x:Value},fin ar bl n v=some r->Rel ι μ v x->Rel (ι.all Y.own w) (fun _=>none) r x
 |0,v,r,x,h,_=>by cases h
 |n+1,v,r,x,h,hr=>by
  have hle:=ax.B8 (B:=Y.own) hI.rd
  have GW:∀{L:Loc} {vs:List Value} {fz:Bool} {id:Nat},Mem Y.own ι μ id fz w L vs->Reads (ι.all Y.own w) L.b L.ba vs:=fun hM j v hv=>by
   rw [ax.Tt hM.old]
   exact hM.rangeAt j v hv
  have g:∀v r x,fin ar bl n v=some r->Rel ι μ v x->Rel (ι.all Y.own w) (fun _=>none) r x:=fun v r x h hr=>wk hsub hI h hr
  have conv:∀{cs ds:List V} {xs:Array Value},ee (fin ar bl n) cs=some ds->cs.length=xs.size->(∀(i:Nat) v x,cs[i]?=some v->xs[i]?=some x->Rel ι μ v x)->aM (ι.all Y.own w) (fun _=>none) ds xs.toList :=
   fun hm h1 h2=>jq g hm ⟨by simpa using h1,fun i v x hv hx=>h2 i v x hv (by simpa using hx)⟩
  cases hr<;>simp only [fin] at h<;>try (cases h;done)
  case any=>cases h;exact .any _
  case tf=>cases h;exact .tf _
  case bool=>cases h;exact .bool _
  case int=>cases h;exact .int _ _
  case str=>cases h;exact .str _
  case fG=>cases h;exact .fG
  case cZ=>cases h;exact .cZ
  case gw=>cases h;exact .gw
  case fS t xs hd=>cases h;exact .fS t xs _ (ah.mono (t:=.list t) hle hd)
  case cg=>cases h;exact .cg _
  case sl id t lo m cap L hL h1 h2 h3 =>
   split at h<;>try (cases h;done)
   rename_i t' xs fz hb
   split at h<;>try (cases h;done)
   rename_i e;subst e
   cases h
   rw [hsub]
   have hF:jB (ι.all Y.own w) μ id t xs:=by
    rcases hI.live _ _ hb with ⟨e,hn⟩|⟨L',vs,hM,hR,hl⟩
    ·exact .inl ⟨e,hn⟩
    ·exact .inr ⟨L',vs,hM.mu,GW hM,bB.mono (fun _ _=>ah.mono hle) hR,hl⟩
   exact .fS _ _ _ (hF.slice (.sl (ι:=ι) id t lo m cap L hL h1 h2 h3))
  case bH id t lo a =>
   split at h<;>try (cases h;done)
   rename_i t' xs fz hb
   split at h<;>try (cases h;done)
   rename_i e;subst e
   cases h
   rw [hsub]
   exact .fS _ _ _ ⟨a,0,by simp,by simp,.inl (by simp)⟩
  case ptr id off L hL =>
   split at h<;>try (cases h;done)
   rename_i cs fz hb
   split at h<;>try (cases h;done)
   rename_i ds hds
   split at h<;>try (cases h;done)
   rename_i hoff
   cases h
   obtain ⟨L',vs,hM,hR⟩:=hI.live _ _ hb
   rw [hM.mu] at hL;cases hL
   have fU:=jq g hds hR
   have hrd:=GW hM
   refine .gx _ L.b (L.ba+off) (fun i=>vs.getD (off+i) .nilIface) (fun i hi=>?_) (fun i v hv=>?_) (fun i=>?_)
   ·have hlt : off + i < vs.length := by have := fU.1; simp at hi; omega
    have:vs[off+i]?=some (vs.getD (off+i) .nilIface):=by simp [List.getD,hlt]
    rw [Nat.add_assoc];exact hrd _ _ this
   ·have qN : ds[off + i]? = some v := by simpa using hv
    obtain ⟨y,hy,hry⟩:=fU.at qN
    simp only [List.getD,hy,Option.getD_some];exact hry
   ·by_cases hlt : off + i < vs.length
    ·have : vs.getD (off + i) .nilIface = vs[off + i] := by simp [List.getD, hlt]
     rw [this];exact hM.one _ (List.getElem_mem hlt)
    ·have : vs.getD (off + i) .nilIface = .nilIface := by simp [List.getD, List.getElem?_eq_none (show vs.length ≤ off + i by omega)]
     rw [this];rfl
  case gx cs b o gf h1 h2 h3 =>
   split at h<;>try (cases h;done)
   rename_i hall
   cases h
   exact .gx cs b o gf (fun i hi=>hle _ _ _ (h1 i hi)) (fun i v hv=>(dN (List.all_eq_true.1 hall _ (List.mem_of_getElem? hv)) (h2 i v hv)).mono hle (Mu.le_refl _)) h3
  case ip t y b o us h1 h2=>cases h;exact .ip t y b o us (h1.mono hle) (ah.mono hle h2)
  case fn f fs cs xs ys h1 h2 h3 h4 =>
   split at h<;>try (cases h;done)
   rename_i as bs ha hb
   cases h
   have r1:=conv ha h1 h2
   have r2:=conv hb h3 h4
   exact .fn f as bs xs ys (by simpa using r1.1) (fun i v x hv hx=>r1.2 i v x hv (by simpa using hx)) (by simpa using r2.1) (fun i v x hv hx=>r2.2 i v x hv (by simpa using hx))
  case agg cs xs h1 h2 h3 =>
   split at h<;>try (cases h;done)
   rename_i ds hds
   cases h
   have r1:=conv hds h1 h2
   exact .agg ds xs (by simpa using r1.1) (fun i v x hv hx=>r1.2 i v x hv (by simpa using hx)) h3
  case cS cs xs h1 h2 =>
   split at h<;>try (cases h;done)
   rename_i ds hds
   cases h
   have r1:=conv hds h1 h2
   exact .cS ds xs (by simpa using r1.1) (fun i v x hv hx=>r1.2 i v x hv (by simpa using hx))
  case cL t v x hv =>
   split at h<;>try (cases h;done)
   rename_i r' hr'
   cases h
   exact .cL t r' x (g _ _ _ hr' hv)
  case cb c b hc=>cases h;exact .cb c b hc
  case cT=>cases h;exact .cT
  case mw t xs b o us h1 h2=>cases h;exact .mw t xs b o us (h1.mono hle) (bB.mono (fun _ _=>ah.mono hle) h2)
  case pa id t m L hL hm =>
   split at h<;>try (cases h;done)
   rename_i t' xs fz hb
   split at h<;>try (cases h;done)
   rename_i e;subst e
   cases h
   rcases hI.live _ _ hb with ⟨e,hn⟩|⟨L',vs,hM,hR,hl⟩
   ·rw [hn] at hL;cases hL
   ·rw [hM.mu] at hL; cases hL
    exact .mw _ _ _ _ vs (GW hM) (bB.mono (fun _ _=>ah.mono hle) hR)
end
end Go.AM
end
section
namespace Go.AM
section
variable {P:Program} {N:Nat} {Y:Ctx} {ι ι':ax} {μ μ':Mu} {H:aG} {w w':World} {out:Option Nat} {base:Nat}
theorem Inv.shut {bl:aq} {n id:Nat} {L:Loc} (h:Inv P Y ι μ ⟨n,bl⟩ w) (hb:ay id bl=some .iH) (hL:μ id=some L):Inv P Y ι μ ⟨n,bD id bl⟩ (w.putObj L.b (.deferred none)):=by
 obtain ⟨L',h1,h2,h3⟩:=h.live id _ hb
 rw [hL] at h1;cases h1
 have hlt:L.b<w.heap.size:=(Array.getElem?_eq_some_iff.1 h3).1
 have bX:∀k,k≠L.b->(w.putObj L.b (.deferred none)).heap[k]?=w.heap[k]?:=fun k hk=>World.putObj_heap_other hk
 have hsub:=h.del id
 refine ⟨⟨h.below.os, h.below.tape, h.below.output, by rw [World.putObj_size]; exact h.below.size, fun k hk hx => ?_, h.below.dr, fun k hk => (h.below.maps k hk).trans (by
   by_cases e:k=L.b
   ·subst e;exact .no (fun ms c e=>by rw [h3] at e;cases e)
   ·exact .eq (bX k e))⟩,h.i0,h.iB,fun b o x hx=>?_,h.m0,h.nx,fun i B hB=>?_,hsub.inj,hsub.lt,h.gl⟩
 ·rw [bX k (Ctx.l7 h2 hk hx)];exact h.below.block k hk hx
 ·have := h.rd b o x hx
  have hne:b≠L.b:=fun e=>by subst e;simp [World.cell?,h3] at this
  unfold World.cell? at this ⊢
  simp only at this ⊢
  rw [bX b hne];exact this
 ·simp only at hB
  rw [bt] at hB
  split at hB
  ·cases hB
  ·rename_i e
   refine (h.live i B hB).mono (ax.le_refl _) (Mu.le_refl _) (fun h=>h) (fun L' hL'=>bX _ (fun e'=>e (h.inj i id B _ L' L hB hb hL' hL e'))) (fun _ _ h=>h)
theorem Ow {ar:Ar} {bl:aq} {g:Bool} {k:Nat} {v y:V} (h:Jf ar bl g k v=some y):b7 ar (.load g k (.c v)) [] bl 0=some ([],y,[]):=by
 unfold Jf at h
 simp only [b7,O.ev]
 split at h<;>try (cases h;done)
 ·split at h <;> try (cases h; done)
  rename_i hb
  split at h<;>try (cases h;done)
  rename_i hc
  simp only [hb,hc,h]
 ·split at h <;> try (cases h; done)
  rename_i hc
  simp only [hc,h]
 ·split at h <;> try (cases h; done)
  rename_i hb
  split at h<;>try (cases h;done)
  rename_i e
  subst e
  dsimp only at h
  split at h<;>try (cases h;done)
  rename_i hk
  simp only [hb,if_true,if_pos hk,h]
def xJ (tmps : Array Value) : ResultVar → Sem Value
 | .tmp t=>pure (tmps.getD t undef)
 | .cell a t=>do loadVar t (<-asAddr (tmps.getD a undef))
theorem GX (fn : Func) (tmps : Array Value) : results fn tmps = (do
  let vs <-fn.results.mapM (xJ tmps)
  pure (if h:vs.size=1 then vs[0] else .tuple vs)):=rfl
theorem xK (hI:Inv P Y ι μ H w) {env:List (Nat×V)} {ms:List Nat} {tmps:Array Value} (he:fu ι μ env tmps):∀{rs:List ResultVar} {res:List RV} {vs:List V},N4 P rs=some res->vJ eu ⟨env,H,ms⟩ res=some vs ->
  ∃xs,(rs.mapM (xJ tmps)).run P w = .ok xs w/\aM ι μ vs xs
 |[],res,vs,h,hv=>by cases h;cases hv;exact ⟨[],rfl,.nil⟩
 | .tmp t::rs,res,vs,h,hv=>by
  simp only [N4] at h
  cases hr:N4 P rs<;>simp [hr] at h
  subst h
  simp only [vJ] at hv
  split at hv<;>try (cases hv;done)
  rename_i vs' hvs
  cases hv
  obtain ⟨xs,h1,h2⟩:=xK hI he hr hvs
  exact ⟨tmps.getD t undef::xs,by simp only [List.mapM_cons,xJ,Sem.run_bind,Sem.run_pure,Result.andThen_ok,h1],.cons (he t) h2⟩
 | .cell a t::rs,res,vs,h,hv=>by
  simp only [N4] at h
  split at h<;>try (cases h;done)
  rename_i k g rs' hk hg hr
  cases h
  simp only [vJ] at hv
  split at hv<;>try (cases hv;done)
  rename_i v hl
  split at hv<;>try (cases hv;done)
  rename_i vs' hvs
  cases hv
  obtain ⟨xs,h1,h2⟩:=xK hI he hr hvs
  have ak:=Ow (ar:=eu) hl
  obtain ⟨_,y,hy,hry⟩:=xk (env:=[]) (x:=.c (get a env)) hI hk hg (he a) ak (fun b hb=>by cases hb)
  have hp:∃ad,tmps.getD a undef = .pointer (some ad):=by
   have:=he a
   unfold Jf at hl
   split at hl<;>try (cases hl;done)
   ·rename_i hge;rw [hge] at this;generalize tmps.getD a undef=x at this;cases this;exact ⟨_,rfl⟩
   ·rename_i hge;rw [hge] at this;generalize tmps.getD a undef=x at this;cases this;exact ⟨_,rfl⟩
   ·rename_i hge;rw [hge] at this;generalize tmps.getD a undef=x at this;cases this;exact ⟨_,rfl⟩
  obtain ⟨ad,hp⟩:=hp
  rw [hp] at hy
  have hy':(loadVar t ad).run P w = .ok y w:=by simpa [Instr.loadAt,Instr.sureAddr] using hy
  exact ⟨y::xs,by simp only [List.mapM_cons,xJ,Sem.run_bind,hp,asAddr,Sem.run_pure,Result.andThen_ok,hy',h1],.cons hry h2⟩
theorem D7 (hI : Inv P Y ι μ H w) {env : List (Nat × V)} {ms : List Nat} {tmps : Array Value} (he : fu ι μ env tmps) {func : Func} {res : List RV} {vs : List V} (h : N4 P func.results.toList = some res)
  (hv:vJ eu ⟨env,H,ms⟩ res=some vs):∃x,(results func tmps).run P w = .ok x w/\∀tys,Rel ι μ (uY (cu tys vs)) x:=by
 obtain ⟨xs,h1,h2⟩:=xK hI he h hv
 have hm:(func.results.mapM (xJ tmps)).run P w = .ok xs.toArray w:=by
  rw [Array.mapM_eq_mapM_toList]
  simp [h1]
 refine ⟨if h:xs.toArray.size=1 then xs.toArray[0] else .tuple xs.toArray,?_,?_⟩
 ·rw [GX, Sem.run_bind, hm]
  rfl
 ·intro tys
  replace h2:=j8 (ts:=tys) h2
  generalize cu tys vs=vs at h2
  match xs,vs,h2 with
  |[],vs,h2 => 
   have:vs=[]:=List.length_eq_zero_iff.1 h2.1
   subst this
   exact .cS _ _ rfl (fun i v x hv=>by simp at hv)
  |[x],[v],h2 => 
   obtain ⟨x',r,e,h3,_⟩:=h2.bN
   cases e;exact h3
  |x::y::r,v::v'::r',h2 =>
   rw [dif_neg (by simp)]
   exact .cS _ _ (by simpa using h2.1) (fun i v x hv hx=>h2.2 i v x hv (by simpa using hx))
  |[x],[],h2=>exact absurd h2.1 (by simp)
  |[x],v::v'::r',h2=>exact absurd h2.1 (by simp)
  |x::y::r,[],h2=>exact absurd h2.1 (by simp)
  |x::y::r,[v],h2=>exact absurd h2.1 (by simp)
theorem Inv.taken (h:Inv P Y ι μ H w) {r:Nat} (hr:w.heap[r]?=some (.deferred (some []))) (hown:Y.own r) (hne:∀id B L,ay id H.bl=some B->μ id=some L->L.b≠r) (o:Obj):Inv P Y ι μ H (w.putObj r o):=by
 have bX:∀k,k≠r->(w.putObj r o).heap[k]?=w.heap[k]?:=fun k hk=>World.putObj_heap_other hk
 refine ⟨⟨h.below.os,h.below.tape,h.below.output,by rw [World.putObj_size];exact h.below.size,fun k hk hx=>?_,h.below.dr,fun k hk=>(h.below.maps k hk).trans ?_⟩,h.i0,h.iB,fun b o2 x hx=>?_,h.m0,h.nx,fun i B hB=>?_,h.inj,h.lt,h.gl⟩
 ·rw [bX k (Ctx.l7 hown hk hx)];exact h.below.block k hk hx
 ·by_cases e : k = r
  ·subst e;rw [hr];exact .no fun _ _ e=>by cases e
  ·exact .eq (bX k e)
 ·have := h.rd b o2 x hx
  have hne:b≠r:=fun e=>by subst e;simp [World.cell?,hr] at this
  unfold World.cell? at this ⊢
  simp only at this ⊢
  rw [bX b hne];exact this
 ·exact (h.live i B hB).mono (ax.le_refl _) (Mu.le_refl _) (fun h=>h) (fun L' hL'=>bX _ (hne i B L' hB hL')) (fun _ _ h=>h)
theorem GY {func:Func} {R:Ending->World->Prop} {tmps:Array Value} {Y Y1:Ctx} (hY:Ext P Y Y1) (hid:Y.hid=[]):∀{H:aG} {w:World},Inv P Y1 ι μ H w ->
  (∀w',Inv P Y ι μ H w'->LeavesInM Fence.wide 0 P func tmps R [] .returning w')->LeavesInM Fence.wide 0 P func tmps R (Y1.hid.map coll) .returning w:=by
 induction hY with
 |refl=>intro H w hI h;rw [hid];exact h w hI
 |step hY ro hI0 hr own ih =>
  rename_i Y1 ι0 μ0 H0 w0 r
  intro H w hI h
  have hlt:=(Array.getElem?_eq_some_iff.1 hr).1
  have DO:w.heap[r]?=some (.deferred (some [])):=(hI.below.block r hlt fun h=>h.2 rfl).trans hr
  have hne:∀id B L,ay id H.bl=some B->μ id=some L->L.b≠r:=fun id B L hB hL e=>by
   rcases ((hI.live id B hB).loc hL).1 with h|h
   ·have : w0.heap.size ≤ L.b := h
    omega
   ·exact h.2 e
  have oD:=(hI0.Oq hI).taken DO own hne (.deferred none)
  exact ⟨by simp [coll],.inl ⟨r,_,rfl,run_takeDeferred DO,ih oD h⟩⟩
theorem uj {func:Func} {res:List RV} (hres:N4 P func.results.toList=some res) {R:Ending->World->Prop} {tmps:Array Value} {env:List (Nat×V)} {n:Nat} {vs:List V} {Y Y1:Ctx} (hY:Ext P Y Y1) (hid:Y.hid=[]) :
  ∀{ms:List Nat} {bl bP:aq} {ds:List Deferred} {w:World},Inv P Y1 ι μ ⟨n,bl⟩ w->fu ι μ env tmps->mb Y1.hid μ ms ds->fk ms bl=some bP->vJ eu ⟨env,⟨n,bP⟩,[]⟩ res=some vs ->
   (∀x w',Inv P Y ι μ ⟨n,bP⟩ w'->(∀tys,Rel ι μ (uY (cu tys vs)) x)->R (.returned x) w')->LeavesInM Fence.wide 0 P func tmps R ds .returning w
 |[],bl,bP,ds,w,hI,he,hm,hs,hv,hR=>by
  cases hs
  rw [show ds=Y1.hid.map coll from hm]
  refine GY hY hid hI fun w' hI'=>?_
  obtain ⟨x,h1,h2⟩:=D7 hI' he hres hv
  exact ⟨x,h1,hR x w' hI' h2⟩
 |id::ms,bl,bP,ds,w,hI,he,⟨L,d,ds',e1,hL,e2,hm⟩,hs,hv,hR=>by
  subst e1;subst e2
  unfold fk at hs
  split at hs<;>try (cases hs;done)
  rename_i hb
  obtain ⟨L',h1,h2,h3⟩:=hI.live id _ hb
  rw [hL] at h1;cases h1
  exact ⟨by simp,.inl ⟨L.b,_,rfl,run_takeDeferred h3,uj hres hY hid (hI.shut hb hL) he hm hs hv hR⟩⟩
theorem xL : ∀ {vs : List V} {n t : Nat}, get t (args n vs) = if n ≤ t then vs.getD (t - n) .any else .any
 |[],n,t=>by simp [args,get]
 |v::r,n,t=>by
  rw [args,cz]
  by_cases h:n=t
  ·subst h;simp
  ·rw [if_neg h, xL]
   by_cases h2:n<=t
   ·rw [if_pos (by omega),if_pos h2,show t - n=(t - (n+1))+1 by omega];rfl
   ·rw [if_neg (by omega),if_neg h2]
theorem Jg {f : Nat} {func : Func} {fn : Fn} (hf : P.funcs[f]? = some func) (htr : cw P func = some fn) (gU : nG P fn.N none base) {vs : List V} {H : aG} (hlen : vs.length ≤ fn.np) {Q : Ex → St → Prop}
  (h:rT (eW P fn.N none base) fn.body ⟨args 0 vs,H,[]⟩ Q) {Y:Ctx} {ι:ax} {μ:Mu} {w:World} {as:Array Value} (hro:Y.ro=none) (B9:Y.hid=[]) (hbase:Y.base base) (hI:Inv P Y ι μ H w) (hr:aM ι μ vs as.toList)
  {R:Ending->World->Prop} (hR:∀Y1 ι' μ' S' a' w' e',Ext P Y Y1->dX P fn.N Y1 ι' μ' S' a' w'->Q e' S'->(e' = .normal\/e' = .ret)/\LeavesInM Fence.wide 0 P func a'.tmps R a'.defers .returning w') :
  CallsIn Fence.wide 0 P f as w R:=by
 unfold cw at htr
 split at htr<;>try (cases htr;done)
 rename_i c hb
 split at htr<;>try (cases htr;done)
 rename_i b rs hc SC
 split at htr<;>try (cases htr;done)
 rename_i hnp
 cases htr
 simp only at *
 have hF:Y.F=Fence.wide:=by simp [Ctx.F,hro,Fence.wide]
 have hsize:as.size=vs.length:=by have:=hr.1;simp at this;omega
 have kL:dX P func.ntmps Y ι μ ⟨args 0 vs,H,[]⟩ { tmps:=as++Array.replicate (func.ntmps - as.size) undef,defers:=[] } w:=by
  refine ⟨fun t=>?_,by simp;omega,hI,by rw [B9];rfl⟩
  simp only [xL,Nat.zero_le,if_true,Nat.sub_zero]
  by_cases ht:t<vs.length
  ·have hv : vs[t]? = some (vs.getD t .any) := by simp [List.getD, ht]
   obtain ⟨x,hx,hrx⟩:=hr.at hv
   have:(as++Array.replicate (func.ntmps - as.size) undef).getD t undef=x:=by
    rw [Array.getD_eq_getD_getElem?,Array.getElem?_append_left (by omega)]
    simp at hx;simp [hx]
   rw [this];exact hrx
  ·have : vs.getD t .any = .any := by simp [List.getD, List.getElem?_eq_none (show vs.length ≤ t by omega)]
   rw [this];exact .any _
 refine callsIn_of_wp_marks hf hb trivial ?_
 have hwp:=gT gU c hc h Y ι μ _ w hro hbase kL
 rw [hF] at hwp
 refine wpIn_mono hwp fun e a' w' hp=>?_
 obtain ⟨Y1,hY,ι',μ',S',e',h1,h2,h3⟩:=hp
 obtain ⟨h4,h5⟩:=hR Y1 ι' μ' S' a' w' e' hY h1 h3
 rcases h4 with rfl|rfl<;>cases h2<;>exact h5
end
end Go.AM
end
section
namespace Go.AM
def uk (π : List Nat) : Nat → V → Option V
 |0,_=>none
 |n+1,v=>match v with
  | .sl id t lo m=>match π[id]? with
   |some i=>some (.sl i t lo m)
   |none=>none
  | .ptr id o=>match π[id]? with
   |some i=>some (.ptr i o)
   |none=>none
  | .ep id t j p=>match π[id]? with
   |some i=>some (.ep i t j p)
   |none=>none
  | .yl id=>match π[id]? with
   |some i=>some (.yl i)
   |none=>none
  | .mp id=>match π[id]? with
   |some i=>some (.mp i)
   |none=>none
  | .pa id t m=>match π[id]? with
   |some i=>some (.pa i t m)
   |none=>none
  | .sp _ _ _=>none
  | .gx cs=>match ee (uk π n) cs with
   |some cs=>some (.gx cs)
   |none=>none
  | .fn f a b=>match ee (uk π n) a with
   |some a=>match ee (uk π n) b with
    |some b=>some (.fn f a b)
    |none=>none
   |none=>none
  | .agg cs=>match ee (uk π n) cs with
   |some cs=>some (.agg cs)
   |none=>none
  | .cS cs=>match ee (uk π n) cs with
   |some cs=>some (.cS cs)
   |none=>none
  | .cL t v=>match uk π n v with
   |some v=>some (.cL t v)
   |none=>none
  |v=>some v
def Tv (π : List Nat) : lD → Option lD
 | .cells cs fz=>match ee (uk π 8) cs with
  |some cs=>some (.cells cs fz)
  |none=>none
 | .arr t xs fz=>some (.arr t xs fz)
 | .iH=>some .iH
 | .map kt kg vt vg es=>some (.map kt kg vt vg es)
 | .loop _ _ _ _ _ _ _ _=>none
 | .oa _ _ _ _ _=>none
section
variable {P:Program} {N:Nat} {Y:Ctx} {ι ι':ax} {μ μ':Mu} {H:aG} {w w':World} {out:Option Nat} {base:Nat} {π:List Nat}
def Mu.kq (μ:Mu) (π:List Nat):Mu:=fun id=>(π[id]?).bind μ
theorem GZ {f:Nat} {vs:List V} {r:V} (h:kB P f vs r) (hd:vs.all (dZ 8)=true) {K:V->aG->Prop} (hK:K r H):eV P f vs H K:=by
 refine ⟨h.1,fun Y ι μ w as hI hr=>?_⟩
 have hr':aM ι (fun _=>none) vs as.toList:=⟨hr.1,fun i v x hv hx=>dN (List.all_eq_true.1 hd _ (List.mem_of_getElem? hv)) (hr.2 i v x hv hx)⟩
 refine (h.2 ι w as hI.dK hI.rd hr').mono ?_
 rintro e w' ⟨v,ι',rfl,hi,hib,hrd,jW,D5⟩
 refine ⟨v,ι',μ,r,H,rfl,hi,Mu.le_refl _,?_,D5.mono (ax.le_refl _) (fun _ _ h=>by cases h),hK⟩
 have hsz:=hI.below.size
 refine ⟨hI.below.then jW,ax.le_trans hI.i0 hi,fun b o hb hx=>by rw [hib b o (by omega)];exact hI.iB b o hb hx,hrd,hI.m0,hI.nx,fun id B hB=>?_,hI.inj,hI.lt,hI.gl⟩
 have lN:=hI.live id B hB
 refine lN.mono hi (Mu.le_refl _) (fun h=>h) (fun L hL=>jW.b.block _ (lN.loc hL).2) (fun L hL ho o=>?_)
 rw [hib _ _ (lN.loc hL).2];exact ho o
end
end Go.AM
end
section
namespace Go.AM
def AK (e e':List (Nat×V)):Prop:=∀t,get t e=get t e'
def EqB (b b':aq):Prop:=∀id,ay id b=ay id b'
theorem D8 {x:O} {env env':List (Nat×V)} (h:∀t∈IY x,get t env=get t env'):x.ev env=x.ev env':=by
  cases x with
  |t n=>exact h n (by simp [IY])
  |c v=>rfl
  |m n dK=>simp only [O.ev,h n (by simp [IY])]
section
variable {ar:Ar} {bl bP:aq}
theorem gL : ∀ {t : Ty} {vs : List V}, (∀ v ∈ vs, ∀ id ∈ vG v, ay id bl = ay id bP) → bA ar bl t vs = bA ar bP t vs ∧ ∀ x u r, bA ar bl t vs = some (x, u, r) → ∀ v ∈ r, v ∈ vs
  | .unit,vs,h=>⟨by simp [bA],fun x u r e v hv=>by simp [bA] at e;obtain ⟨_,_,rfl⟩:=e;exact hv⟩
  | .prod a b,vs,h=>by
    obtain ⟨h1,h2⟩:=gL (t:=a) h
    constructor
    · simp only [bA]
      rw [<-h1]
      split
      · rename_i x u r hr
        obtain ⟨h3,_⟩:=gL (t:=b) (vs:=r) (fun v hv=>h v (h2 _ _ _ hr v hv))
        rw [h3]
      · rfl
    · intro x u r e v hv
      simp only [bA] at e
      split at e<;>try (cases e;done)
      rename_i x' u' r' hr
      split at e<;>try (cases e;done)
      rename_i y u'' r'' hr'
      cases e
      obtain ⟨_,h4⟩:=gL (t:=b) (vs:=r') (fun v hv=>h v (h2 _ _ _ hr v hv))
      exact h2 _ _ _ hr v (h4 _ _ _ hr' v hv)
  | .bool,[],h=>⟨rfl,fun x u r e=>by cases e⟩
  | .str,[],h=>⟨rfl,fun x u r e=>by cases e⟩
  | .int _,[],h=>⟨rfl,fun x u r e=>by cases e⟩
  | .list _,[],h=>⟨rfl,fun x u r e=>by cases e⟩
  | .cL _ _ _,[],h=>⟨rfl,fun x u r e=>by cases e⟩
  | .cL d g t,c::cs,h=>by
    cases c
    case cL d' v =>
      refine ⟨by simp only [bA],fun x u r e=>?_⟩
      simp only [bA] at e
      repeat' split at e
      all_goals first|(cases e;done)|(cases e;exact fun v hv=>List.mem_cons_of_mem _ hv)
    all_goals
      refine ⟨rfl,fun x u r e=>?_⟩
      cases e
  | .bool,c::cs,h=>by
    cases c<;>(refine ⟨rfl,fun x u r e=>?_⟩;first|(cases e;done)|(cases e;exact fun v hv=>List.mem_cons_of_mem _ hv))
  | .str,c::cs,h=>by
    cases c<;>(refine ⟨rfl,fun x u r e=>?_⟩;first|(cases e;done)|(cases e;exact fun v hv=>List.mem_cons_of_mem _ hv))
  | .int k,c::cs,h=>by
    cases c<;>(refine ⟨rfl,fun x u r e=>?_⟩;first|(cases e;done)|(simp only [bA] at e;split at e<;>first|(cases e;done)|(cases e;exact fun v hv=>List.mem_cons_of_mem _ hv)))
  | .list t,c::cs,h=>by
    cases c
    case sl id t' lo n =>
      have hb:=h _ (List.mem_cons_self ..) id (by simp [vG])
      refine ⟨by simp only [bA,hb],fun x u r e=>?_⟩
      simp only [bA] at e
      repeat' split at e
      all_goals first|(cases e;done)|(cases e;exact fun v hv=>List.mem_cons_of_mem _ hv)
    all_goals
      refine ⟨rfl,fun x u r e=>?_⟩
      first
        |(cases e;done)
        | (simp only [bA] at e; repeat' split at e
           all_goals first|(cases e;done)|(cases e;exact fun v hv=>List.mem_cons_of_mem _ hv))
theorem kP {v:V} {cs:List V} (h:v.cells?=some cs):∀c∈cs,∀id∈vG c,id∈rR v:=by
  intro c hc id hid
  cases v<;>simp only [V.cells?] at h<;>cases h
  case agg=>simp only [rR,List.mem_flatMap];exact ⟨c,hc,hid⟩
  all_goals (simp at hc;subst hc;exact hid)
theorem xM {t : Ty} : ∀ {vs : List V}, (∀ id ∈ vs.flatMap rR, ay id bl = ay id bP) → rK ar bl t vs = rK ar bP t vs
  |[],_=>rfl
  |v::r,h=>by
    have ih:=xM (t:=t) (vs:=r) (fun id hid=>h id (by simp only [List.flatMap_cons,List.mem_append];exact .inr hid))
    simp only [rK]
    cases hc:v.cells? with
    |none=>rfl
    |some cs =>
      have:=(gL (ar:=ar) (t:=t) (vs:=cs) (fun c hc' id hid=>h id (by simp only [List.flatMap_cons,List.mem_append];exact .inl (kP hc c hc' id hid)))).1
      simp only [this,ih]
theorem nH : ∀ {t : Ty} {x : t.den} {p : List Bool} {vs : List V}, (∀ v ∈ vs, ∀ id ∈ vG v, ay id bl = ay id bP) → cU ar bl t x p vs = cU ar bP t x p vs
  |t,x,[],vs,h=>by
    have:=(gL (ar:=ar) (t:=t) h).1
    cases t<;>simp only [cU,this]
  | .prod a b,x,false::p,vs,h=>by simp only [cU,nH (t:=a) h]
  | .prod a b,x,true::p,vs,h=>by simp only [cU,nH (t:=b) h]
  | .unit,_,_::_,_,h=>by simp [cU]
  | .bool,_,_::_,_,h=>by simp [cU]
  | .str,_,_::_,_,h=>by simp [cU]
  | .int _,_,_::_,_,h=>by simp [cU]
  | .list _,_,_::_,_,h=>by simp [cU]
  | .cL _ _ _,_,_::_,_,h=>by simp [cU]
theorem qO {t : Ty} : ∀ {n : Nat} {vs : List V}, (∀ v ∈ vs, ∀ id ∈ vG v, ay id bl = ay id bP) → mB ar bl t n vs = mB ar bP t n vs
  |0,vs,h=>by cases vs<;>rfl
  |n+1,vs,h=>by
    obtain ⟨h1,h2⟩:=gL (ar:=ar) (t:=t) h
    simp only [mB]
    rw [<-h1]
    split
    · rename_i x u r hr
      rw [qO (n:=n) (vs:=r) (fun v hv=>h v (h2 _ _ _ hr v hv))]
    · rfl
theorem uZ {t:Ty} {v:V} (h:∀id∈vG v,ay id bl=ay id bP):elems ar bl t v=elems ar bP t v:=by
  cases v<;>try rfl
  rename_i id t' lo n
  simp only [elems,h id (by simp [vG])]
theorem Lk {e:gI} {vs:List V} {aC:Nat} (h:∀id∈vs.flatMap rR,ay id bl=ay id bP):iL ar e vs bl aC=iL ar e vs bP aC:=by
  have one:∀{v:V} {r:List V},vs=v::r->∀id∈rR v,ay id bl=ay id bP:=fun hv id hid=>h id (by subst hv;simp [hid])
  cases e<;>simp only [iL]
  case text =>
    split
    · rename_i v;rw [uZ (fun id hid=>one rfl id (by cases v<;>simp_all [rR,vG]))]
    · rfl
  case clear t =>
    split
    · rename_i id t' lo n;rw [one rfl id (by simp [rR,vG])]
    · rfl
  case gJ kt kg vt vg ok =>
    split
    · rename_i m k
      split
      · rename_i x _
        cases m<;>try rfl
        rename_i id
        simp only [jK,one rfl id (by simp [rR,vG])]
      · rfl
    · rfl
  case iG kt kg vt vg =>
    split
    · rename_i id k v
      simp only [jK,one rfl id (by simp [rR,vG])]
    · rfl
  case SX =>
    split
    · rename_i id;rw [one rfl id (by simp [rR,vG])]
    · rfl
    · rfl
  case SY t n =>
    split
    · rename_i cs
      rw [qO (fun v hv id hid=>one rfl id (by simp only [rR,List.mem_flatMap];exact ⟨v,hv,hid⟩))]
    · rfl
theorem u5 {env env' : List (Nat × V)} : ∀ {ps : List (Nat × Nat × O)} {cs : List V}, (∀ x ∈ ps.map (·.2.2), x.ev env = x.ev env') → uP ps env cs = uP ps env' cs
  |[],_,_=>rfl
  |(off,k,x)::r,cs,h=>by
    simp only [uP,h x (by simp)]
    cases (x.ev env').cells? with
    |none=>rfl
    |some vs =>
      simp only
      split
      · cases rL off vs cs with
        |none=>rfl
        |some cs'=>exact u5 (fun y hy=>h y (by simp at hy ⊢;exact .inr hy))
      · rfl
theorem dG {env env':List (Nat×V)} {xs:List O} (h:∀x∈xs,x.ev env=x.ev env'):xs.map (·.ev env)=xs.map (·.ev env'):=List.map_congr_left h
theorem r8 {env env':List (Nat×V)} {d:Int} {x:Option O} (h:∀y,x=some y->y.ev env=y.ev env'):cH env d x=cH env' d x:=by
  cases x with
  |none=>rfl
  |some y=>simp only [cH,h y rfl]
theorem Ll {i:I} {env env':List (Nat×V)} {aC:Nat} (he:∀x∈i.os,x.ev env=x.ev env') (hb:∀id∈nA i env,ay id bl=ay id bP) :
    b7 ar i env bl aC=b7 ar i env' bP aC/\nA i env=nA i env':=by
  cases i
  case load g k x =>
    have hx:=he x (by simp [I.os])
    simp only [nA,hx] at hb ⊢
    refine ⟨?_,trivial⟩
    simp only [b7,hx]
    generalize x.ev env'=v at hb ⊢
    cases v<;>try rfl
    all_goals (simp only [hb _ (by simp only [vG];exact List.mem_singleton_self _)])
  case store k a x =>
    have ha:=he a (by simp [I.os])
    have hx:=he x (by simp [I.os])
    simp only [nA,hx,ha,List.mem_append] at hb ⊢
    refine ⟨?_,trivial⟩
    simp only [b7,hx,ha]
    generalize a.ev env'=v at hb ⊢
    generalize x.ev env'=y at hb ⊢
    cases hc:y.cells? with
    |none=>rfl
    |some vs =>
      have hsp:∀(t:Ty) (z:t.den) p,cU ar bl t z p vs=cU ar bP t z p vs:=fun t z p=>nH (fun v hv id hid=>hb id (.inr (kP hc v hv id hid)))
      cases v<;>try rfl
      case ptr id o=>simp only [hb id (.inl (by simp [vG]))]
      case ep id t i p=>simp only [hb id (.inl (by simp [vG])),hsp]
      case pa id t n=>simp only [hb id (.inl (by simp [vG])),fun t n=>qO (ar:=ar) (t:=t) (n:=n) (vs:=vs) (fun v hv id hid=>hb id (.inr (kP hc v hv id hid)))]
  case eG t xs =>
    have hx:=dG (xs:=xs) (fun x hx=>he x (by simpa [I.os] using hx))
    simp only [nA,hx] at hb ⊢
    exact ⟨by simp only [b7,hx,xM hb],trivial⟩
  case append ff x y =>
    have hx:=he x (by simp [I.os])
    have hy:=he y (by simp [I.os])
    simp only [nA,hx,hy,List.mem_append] at hb ⊢
    refine ⟨?_,trivial⟩
    simp only [b7,hx,hy]
    generalize x.ev env'=v at hb ⊢
    generalize y.ev env'=z at hb ⊢
    have hel:∀t,elems ar bl t z=elems ar bP t z:=fun t=>uZ (fun id hid=>hb id (.inr hid))
    cases v<;>try rfl
    case cg=>simp only [hel]
    case sl id t lo n=>simp only [hel,hb id (.inl (by simp [vG]))]
  case ex e xs =>
    have hx:=dG (xs:=xs) (fun x hx=>he x (by simpa [I.os] using hx))
    simp only [nA,hx] at hb ⊢
    exact ⟨by simp only [b7,hx];exact Lk hb,trivial⟩
  case build z ps =>
    exact ⟨by simp only [b7,u5 (ps:=ps) (fun x hx=>he x (by simpa [I.os] using hx))],rfl⟩
  case BD f a b =>
    exact ⟨by simp only [b7,dG (xs:=a) (fun x hx=>he x (by simp [I.os,hx])),dG (xs:=b) (fun x hx=>he x (by simp [I.os,hx]))],rfl⟩
  case l5 mx x ys =>
    exact ⟨by simp only [b7,he x (by simp [I.os]),dG (xs:=ys) (fun y hy=>he y (by simp [I.os,hy]))],rfl⟩
  case slice ff x lo hi mx =>
    refine ⟨?_,rfl⟩
    have hx:=he x (by simp [I.os])
    have h1:∀d,cH env d lo=cH env' d lo:=fun d=>r8 fun y hy=>he y (by simp [I.os,hy])
    have h2:∀d,cH env d hi=cH env' d hi:=fun d=>r8 fun y hy=>he y (by simp [I.os,hy])
    cases mx with
    |none=>simp only [b7,hx,h1,h2]
    |some m =>
      have hm:=he m (by simp [I.os])
      cases hi with
      |none=>simp only [b7]
      |some h=>simp only [b7,hx,h1,hm,he h (by simp [I.os])]
  case bin op x y=>exact ⟨by simp only [b7,he x (by simp [I.os]),he y (by simp [I.os])],rfl⟩
  case SZ n x y=>exact ⟨by simp only [b7,he x (by simp [I.os]),he y (by simp [I.os])],rfl⟩
  case eqs n ks x y=>exact ⟨by simp only [b7,he x (by simp [I.os]),he y (by simp [I.os])],rfl⟩
  case idx ff x y=>exact ⟨by simp only [b7,he x (by simp [I.os]),he y (by simp [I.os])],rfl⟩
  case zQ n ff x y=>exact ⟨by simp only [b7,he x (by simp [I.os]),he y (by simp [I.os])],rfl⟩
  case pick c x y=>exact ⟨by simp only [b7,he x (by simp [I.os]),he y (by simp [I.os]),he c (by simp [I.os])],rfl⟩
  case alloc=>exact ⟨rfl,rfl⟩
  case zR=>exact ⟨rfl,rfl⟩
  case mv x=>exact ⟨by simp only [b7,he x (by simp [I.os])],rfl⟩
  case box x=>exact ⟨by simp only [b7,he x (by simp [I.os])],rfl⟩
  case neg x=>exact ⟨by simp only [b7,he x (by simp [I.os])],rfl⟩
  case not x=>exact ⟨by simp only [b7,he x (by simp [I.os])],rfl⟩
  case conv k x=>exact ⟨by simp only [b7,he x (by simp [I.os])],rfl⟩
  case nu a b x=>exact ⟨by simp only [b7,he x (by simp [I.os])],rfl⟩
  case field a b c x=>exact ⟨by simp only [b7,he x (by simp [I.os])],rfl⟩
  case ext k x=>exact ⟨by simp only [b7,he x (by simp [I.os])],rfl⟩
  case len x=>exact ⟨by simp only [b7,he x (by simp [I.os])],rfl⟩
  case lens x=>exact ⟨by simp only [b7,he x (by simp [I.os])],rfl⟩
  case jc t n=>exact ⟨by simp only [b7,he n (by simp [I.os])],rfl⟩
theorem xN : ∀ {t : Ty} {vs : List V} {q : List Bool} {v : V} {vs' : List V}, l6 t vs = some (q, v, vs') → ∀ x ∈ vs', x ∈ vs ∨ x = .cg
  | .list s,[],q,v,vs',h=>by simp [l6] at h
  | .list s,y::r,q,v,vs',h=>by
    cases y<;>simp [l6] at h
    obtain ⟨rfl,rfl,rfl⟩:=h
    intro x hx
    rcases List.mem_cons.1 hx with rfl|hx
    · exact .inr rfl
    · exact .inl (List.mem_cons_of_mem _ hx)
  | .prod a b,vs,q,v,vs',h=>by
    simp only [l6] at h
    split at h
    · rename_i h1;cases h;exact xN h1
    · split at h <;> try (cases h; done)
      rename_i h1
      cases h
      intro x hx
      rcases List.mem_append.1 hx with hx|hx
      · exact .inl (List.mem_of_mem_take hx)
      · exact (xN h1 x hx).imp List.mem_of_mem_drop id
  | .unit,vs,q,v,vs',h=>by simp [l6] at h
  | .bool,vs,q,v,vs',h=>by simp [l6] at h
  | .str,vs,q,v,vs',h=>by simp [l6] at h
  | .int k,vs,q,v,vs',h=>by simp [l6] at h
  | .cL _ _ _,vs,q,v,vs',h=>by simp [l6] at h
theorem Lm {i:I} {env env':List (Nat×V)} {aC:Nat} (he:∀x∈i.os,x.ev env=x.ev env') (hb:∀id∈nA i env,ay id bl=ay id bP):wW ar i env bl aC=wW ar i env' bP aC:=by
  cases i<;>try rfl
  case eG t xs =>
    cases xs with
    |nil=>rfl
    |cons x r =>
      cases r with
      |cons _ _=>rfl
      |nil =>
        have hx:=he x (by simp [I.os])
        simp only [nA,List.map_cons,List.map_nil,hx,List.flatMap_cons,List.flatMap_nil,List.append_nil] at hb
        simp only [wW,hx]
        generalize x.ev env'=y at hb ⊢
        cases hc:y.cells? with
        |none=>rfl
        |some vs =>
          simp only
          rw [(gL (ar:=ar) (bl:=bl) (bP:=bP) (t:=t) (vs:=vs) (fun v hv id hid=>hb id (kP hc v hv id hid))).1]
  case store k a x =>
    have ha:=he a (by simp [I.os])
    have hx:=he x (by simp [I.os])
    simp only [nA,hx,ha,List.mem_append] at hb
    simp only [wW,hx,ha]
    generalize a.ev env'=v at hb ⊢
    generalize x.ev env'=y at hb ⊢
    cases hc:y.cells? with
    |none=>rfl
    |some vs =>
      cases v<;>try rfl
      case ep id t i p =>
        simp only [hb id (.inl (by simp [vG]))]
        split<;>try rfl
        split<;>try rfl
        split<;>try rfl
        split<;>try rfl
        rename_i t1 hat
        split<;>try rfl
        rename_i q v vs' hop
        rw [nH (bl:=bl) (bP:=bP) (fun v hv id hid=>?_)]
        rcases xN hop v hv with h|rfl
        · exact hb id (.inr (kP hc v h id hid))
        · simp [vG] at hid
theorem um {n:Nat} (hg:∀v,(∀id∈gm bl n v,ay id bl=ay id bP)->fin ar bl n v=fin ar bP n v/\gm bl n v=gm bP n v) :
    ∀{vs:List V},(∀id∈vs.flatMap (gm bl n),ay id bl=ay id bP)->ee (fin ar bl n) vs=ee (fin ar bP n) vs/\vs.flatMap (gm bl n)=vs.flatMap (gm bP n)
  |[],_=>⟨rfl,rfl⟩
  |v::r,h=>by
    simp only [List.flatMap_cons,List.mem_append] at h
    obtain ⟨h1,h2⟩:=hg v (fun id hid=>h id (.inl hid))
    obtain ⟨h3,h4⟩:=um hg (vs:=r) (fun id hid=>h id (.inr hid))
    exact ⟨by simp only [ee,h1,h3],by simp only [List.flatMap_cons,h2,h4]⟩
theorem uo : ∀ {n : Nat} {v : V}, (∀ id ∈ gm bl n v, ay id bl = ay id bP) → fin ar bl n v = fin ar bP n v ∧ gm bl n v = gm bP n v
  |0,v,_=>⟨rfl,rfl⟩
  |n+1,v,h=>by
    have ih:=fun vs h=>um (ar:=ar) (bl:=bl) (bP:=bP) (n:=n) (fun v h=>uo h) (vs:=vs) h
    cases v<;>simp only [gm] at h<;>try (exact ⟨rfl,rfl⟩)
    case sl id t lo m=>exact ⟨by simp only [fin,h id (by simp)],rfl⟩
    case pa id t m=>exact ⟨by simp only [fin,h id (by simp)],rfl⟩
    case ptr id off =>
      have hb:=h id (by simp)
      simp only [fin,gm,<-hb]
      cases hq:ay id bl with
      |none=>exact ⟨rfl,rfl⟩
      |some B =>
        rw [hq] at h
        cases B<;>try (exact ⟨rfl,rfl⟩;done)
        rename_i cs fz
        obtain ⟨h1,h2⟩:=ih cs (fun id hid=>h id (List.mem_cons_of_mem _ hid))
        exact ⟨by simp only [h1],by simp only [h2]⟩
    case fn f a b =>
      simp only [List.mem_append] at h
      obtain ⟨h1,h2⟩:=ih a (fun id hid=>h id (.inl hid))
      obtain ⟨h3,h4⟩:=ih b (fun id hid=>h id (.inr hid))
      exact ⟨by simp only [fin,h1,h3],by simp only [gm,h2,h4]⟩
    case agg cs =>
      obtain ⟨h1,h2⟩:=ih cs h
      exact ⟨by simp only [fin,h1],by simp only [gm,h2]⟩
    case cS cs =>
      obtain ⟨h1,h2⟩:=ih cs h
      exact ⟨by simp only [fin,h1],by simp only [gm,h2]⟩
    case cL t v =>
      obtain ⟨h1,h2⟩:=uo (n:=n) (v:=v) h
      exact ⟨by simp only [fin,h1],by simp only [gm,h2]⟩
end
end Go.AM
end
section
namespace Go.AM
inductive Ac where
 |skip
 |op (v:V) (u:eY)
 |call (v:V) (u:eY)
structure TR where
 k:Nat
 it:dw
 ac:Ac
 rd:List Nat
def Ac.val : Ac → V
 | .skip=>.cS []
 | .op v _=>v
 | .call v _=>v
def Ac.Ln : Ac → eY
 | .op _ u=>u
 | .call _ u=>u
 |_=>[]
def TR.wr (t:TR):List Nat:=t.ac.Ln.map (·.1)
def TR.dr (t:TR):DR:=⟨t.k,t.rd,t.wr⟩
def vOk (v0 v:V):Prop:=v=v0\/∃c,v0 = .bool c/\v = .tf c
def En (ar:Ar) (b:Nat) (t:TR) (env:List (Nat×V)) (bl:aq):Prop :=
 match t.ac,t.it with
 | .skip,it=>GF it.Xm env=some false/\t.rd=[]
 | .op v u,.op _ g i=>GF g env=some true/\∃ob v0,(b7 ar i env bl (b+t.k)=some (ob,v0,u)\/wW ar i env bl (b+t.k)=some (ob,v0,u))/\oF ob/\vOk v0 v/\nA i env=t.rd
 | .call v u,.call _ g f a tys=>GF g env=some true/\∃fid fs cs vs' v0,f.ev env = .fn fid fs cs/\ee (fin ar bl 8) (fs++cu tys (a.map (·.ev env))++cs)=some vs'/\ar.kB fid vs' v0 /\
   I3 (DH v0||(fs++cu tys (a.map (·.ev env))++cs).all (dZ 8)) (jL bl (fs++cu tys (a.map (·.ev env))++cs)) bl=some u/\vOk v0 v/\jL bl (fs++cu tys (a.map (·.ev env))++cs)=t.rd
 |_,_=>False
def TR.D9 (t:TR) (env:List (Nat×V)):List (Nat×V):=put t.it.dst t.ac.val env
def TR.oN (t:TR) (bl:aq):aq:=bI t.ac.Ln bl
def jX (ar : Ar) (b : Nat) : List TR → List (Nat × V) → aq → (List (Nat × V) → aq → Prop) → Prop
 |[],env,bl,F=>F env bl
 |t::ts,env,bl,F=>En ar b t env bl/\jX ar b ts (t.D9 env) (t.oN bl) F
def xP (F:List (Nat×V)->aq->Prop):Prop:=∀env env' bl bP,AK env env'->EqB bl bP->F env bl->F env' bP
theorem AK.trans {e e' e'':List (Nat×V)} (h:AK e e') (h':AK e' e''):AK e e'':=fun t=>(h t).trans (h' t)
theorem r9 {d:Option Nat} {v:V} {env:List (Nat×V)} (t:Nat):get t (put d v env)=if d=some t then v else get t env:=by
 cases d with
 |none=>simp [put]
 |some s=>simp only [put,mF,Option.some.injEq]
theorem AK.put {d:Option Nat} {v:V} {e e':List (Nat×V)} (h:AK e e'):AK (put d v e) (put d v e'):=fun t=>by rw [r9,r9,h t]
theorem gH : ∀ {u : eY} {b b' : aq} {id : Nat}, ay id b = ay id b' → ay id (bI u b) = ay id (bI u b')
 |[],_,_,_,h=>h
 |(s,none)::r,b,b',id,h=>gH (u:=r) (by rw [bt,bt,h])
 |(s,some B)::r,b,b',id,h=>gH (u:=r) (by rw [bC,bC,bt,bt,h])
theorem bV : ∀ {u : eY} {b : aq} {id : Nat}, id ∉ u.map (·.1) → ay id (bI u b) = ay id b
 |[],_,_,_=>rfl
 |(s,none)::r,b,id,h=>by
  simp at h
  simp only [bI]
  rw [bV (u:=r) (by simpa using h.2),bt,if_neg h.1]
 |(s,some B)::r,b,id,h=>by
  simp at h
  simp only [bI]
  rw [bV (u:=r) (by simpa using h.2),bC,if_neg (fun e=>h.1 e.symm),bt,if_neg h.1]
theorem qv : ∀ {u : eY} {b b' : aq} {id : Nat}, id ∈ u.map (·.1) → ay id (bI u b) = ay id (bI u b')
 |[],_,_,_,h=>by simp at h
 |(s,o)::r,b,b',id,h=>by
  by_cases hr:id∈r.map (·.1)
  ·cases o<;>exact qv (u:=r) hr
  ·have e : id = s := by simp at h hr; rcases h with h | ⟨x, h⟩; exact h; exact absurd h (hr x)
   subst e
   cases o with
   |none=>simp only [bI];rw [bV hr,bV hr,bt,bt];simp
   |some B=>simp only [bI];rw [bV hr,bV hr,bC,bC];simp
theorem Lp {g:Option (Nat×Bool)} {env env':List (Nat×V)} (h:∀s b,g=some (s,b)->get s env=get s env'):GF g env=GF g env':=by
 cases g with
 |none=>rfl
 |some p=>obtain ⟨s,b⟩:=p;simp only [GF,h s b rfl]
theorem Jh {it:dw} {env env':List (Nat×V)} (h:∀t∈it.uses,get t env=get t env'):(∀x∈it.os,x.ev env=x.ev env')/\GF it.Xm env=GF it.Xm env':=by
 refine ⟨fun x hx=>D8 fun t ht=>h t ?_,Lp fun s b e=>h s ?_⟩
 ·simp only [dw.uses, List.mem_append, List.mem_flatMap]
  exact .inl ⟨x,hx,ht⟩
 ·simp only [dw.uses, e, List.mem_append]
  exact .inr (List.mem_singleton_self _)
theorem xQ : ∀ {ids : List Nat} {bl bP : aq}, (∀ id ∈ ids, ay id bl = ay id bP) → w6 ids bl = w6 ids bP
 |[],_,_,_=>rfl
 |id::r,bl,bP,h=>by
  have key:∀B,w6 r ((id,B)::bD id bl)=w6 r ((id,B)::bD id bP):=fun B=>xQ fun i hi=>by
   by_cases e:id=i
   ·subst e;rw [bC,bC];simp
   ·rw [bC, bC, if_neg e, if_neg e, bt, bt, if_neg (fun h => e h.symm), if_neg (fun h => e h.symm)]
    exact h i (List.mem_cons_of_mem _ hi)
  simp only [w6,h id (List.mem_cons_self ..),key]
theorem Ea {b:Bool} {ids:List Nat} {bl bP:aq} (h:∀id∈ids,ay id bl=ay id bP):I3 b ids bl=I3 b ids bP:=by
 cases b with
 |true=>rfl
 |false=>exact xQ h
theorem mI {ar:Ar} {b:Nat} {t:TR} {env env':List (Nat×V)} {bl bP:aq} (he:∀s∈t.it.uses,get s env=get s env') (hb:∀id∈t.rd,ay id bl=ay id bP) (h:En ar b t env bl):En ar b t env' bP:=by
 obtain ⟨k,it,ac,rd⟩:=t
 obtain ⟨h1,h2⟩:=Jh he
 unfold En at h ⊢
 cases ac with
 |skip=>exact ⟨by rw [<-h2];exact h.1,h.2⟩
 |op v u =>
  cases it with
  |call=>exact h.elim
  |op d g i =>
   simp only [dw.Xm] at h2
   obtain ⟨hg,ob,v0,ak,cW,hv,hr⟩:=h
   have:=Ll (ar:=ar) (i:=i) (aC:=b+k) (fun x hx=>h1 x hx) (fun id hid=>hb id (by rw [hr] at hid;exact hid))
   have adI:=Lm (ar:=ar) (i:=i) (aC:=b+k) (fun x hx=>h1 x hx) (fun id hid=>hb id (by rw [hr] at hid;exact hid))
   exact ⟨by rw [<-h2];exact hg,ob,v0,by rw [<-this.1,<-adI];exact ak,cW,hv,by rw [<-this.2];exact hr⟩
 |call v u =>
  cases it with
  |op=>exact h.elim
  |call d g f a tys =>
   simp only [dw.Xm] at h2
   obtain ⟨hg,fid,fs,cs,vs',v0,hf,hm,hp,hs,hv,hr⟩:=h
   have ha:a.map (·.ev env)=a.map (·.ev env'):=dG fun x hx=>h1 x (by simp [dw.os,hx])
   have nt:=h1 f (by simp [dw.os])
   simp only [ha] at hm hs hr
   obtain ⟨q1,q2⟩:=um (ar:=ar) (bl:=bl) (bP:=bP) (n:=8) (fun v h=>uo h) (vs:=fs++cu tys (a.map (·.ev env'))++cs) (fun id hid=>hb id (by rw [<-hr];exact hid))
   exact ⟨by rw [<-h2];exact hg,fid,fs,cs,vs',v0,by rw [<-nt];exact hf,by rw [<-q1];exact hm,hp,by rw [show jL bP (fs++cu tys (a.map (·.ev env'))++cs)=jL bl (fs++cu tys (a.map (·.ev env'))++cs) from q2.symm,<-Ea (bl:=bl) (fun id hid=>hb id (by rw [<-hr];exact hid))];exact hs,hv,by rw [<-hr];exact q2.symm⟩
theorem qP {ar : Ar} {b : Nat} {F : List (Nat × V) → aq → Prop} (hF : xP F) : ∀ {ts : List TR} {env env' : List (Nat × V)} {bl bP : aq}, AK env env' → EqB bl bP → jX ar b ts env bl F → jX ar b ts env' bP F
 |[],_,_,_,_,he,hb,h=>hF _ _ _ _ he hb h
 |t::ts,_,_,_,_,he,hb,h=>⟨mI (fun s _=>he s) (fun id _=>hb id) h.1,qP hF (AK.put he) (fun id=>gH (hb id)) h.2⟩
structure Ox (a b:TR):Prop where
 slots:iN a.it b.it=true
 wr:∀id∈a.wr,id∉b.rd/\id∉b.wr
 rw:∀id∈b.wr,id∉a.rd
theorem nI {d:Option Nat} {l:List Nat} {v:V} {env:List (Nat×V)} (h:ny d l=true):∀t∈l,get t (put d v env)=get t env:=fun t ht=>by
 rw [r9,if_neg]
 rintro rfl
 simp [ny] at h
 exact h ht
theorem pull {ar:Ar} {b:Nat} {F:List (Nat×V)->aq->Prop} (hF:xP F) {t:TR} {L2:List TR}:∀{L1:List TR} {env:List (Nat×V)} {bl:aq},(∀a∈L1,Ox a t)->jX ar b (L1++t::L2) env bl F ->
  En ar b t env bl/\jX ar b (L1++L2) (t.D9 env) (t.oN bl) F
 |[],_,_,_,h=>h
 |a::L1,env,bl,hA,h=>by
  obtain ⟨h1,h2⟩:=h
  obtain ⟨h3,h4⟩:=pull hF (fun x hx=>hA x (List.mem_cons_of_mem _ hx)) h2
  have hap:=hA a (List.mem_cons_self ..)
  have hs:=hap.slots
  simp only [iN,Bool.and_eq_true] at hs
  obtain ⟨⟨s1,s2⟩,s3⟩:=hs
  refine ⟨mI (fun s hs=>nI s1 s hs) (fun id hid=>bV fun hw=>(hap.wr id hw).1 hid) h3,?_,?_⟩
  ·exact mI (fun s hs=>(nI s2 s hs).symm) (fun id hid=>(bV fun hw=>hap.rw id hw hid).symm) h1
  ·refine qP hF (fun s => ?_) (fun id => ?_) h4
   ·simp only [TR.D9, r9]
    by_cases q1:t.it.dst=some s
    ·by_cases q2 : a.it.dst = some s
     ·rw [q2] at s3;simp [q1] at s3
     ·simp [q1,q2]
    ·simp [q1]
   ·simp only [TR.oN]
    by_cases q1:id∈t.ac.Ln.map (·.1)
    ·have q2 : id ∉ a.ac.Ln.map (·.1) := fun hw => (hap.wr id hw).2 q1
     rw [qv (b':=bl) q1,bV q2]
    ·rw [bV q1]
     exact gH (bV q1).symm
def sg (t:TR):Option DR:=match t.rd,t.wr with
 |[],[]=>none
 |_,_=>some t.dr
theorem Ji (k:Nat) (it:dw) (ac:Ac) (rd:List Nat) (cA:List DR):w5 k rd (ac.Ln.map (·.1)) cA=cA++([(⟨k,it,ac,rd⟩:TR)].filterMap sg):=by
 cases rd with
 |cons x r=>rfl
 |nil =>
  cases hu:ac.Ln.map (·.1) with
  |nil=>simp [w5,sg,TR.wr,hu]
  |cons x r=>simp [w5,sg,TR.wr,TR.dr,hu]
theorem Eb {gs:List Nat} {d:Option Nat} {v:V} {env:List (Nat×V)} {K:List (Nat×V)->Prop} (h:DI gs d v env K):∃v',vOk v v'/\K (put d v' env):=by
 unfold DI at h
 cases d with
 |none=>exact ⟨v,.inl rfl,h⟩
 |some t =>
  simp only at h
  split at h
  ·exact ⟨v,.inl rfl,h⟩
  ·split at h
   ·rename_i c
    cases c with
    |true=>exact ⟨.tf true,.inr ⟨_,rfl,rfl⟩,h.1 rfl⟩
    |false=>exact ⟨.tf false,.inr ⟨_,rfl,rfl⟩,h.2 rfl⟩
   ·exact ⟨v,.inl rfl,h⟩
theorem mJ {ar:Ar} {gs:List Nat} {b:Nat}:∀{is:List dw} {k:Nat} {env:List (Nat×V)} {bl:aq} {cA:List DR} {K:List (Nat×V)->aq->List DR->Prop},rS ar gs b is k env bl cA K ->
  ∃ts:List TR,ts.map (·.it)=is/\ts.map (·.k)=List.range' k is.length/\jX ar b ts env bl fun env' bP=>K env' bP (cA++ts.filterMap sg)
 |[],k,env,bl,cA,K,h=>⟨[],rfl,rfl,by simpa [jX,rS] using h⟩
 | .op d g i::r,k,env,bl,cA,K,h=>by
  simp only [rS] at h
  split at h
  ·rename_i hg
   have h':∃ob v u,(b7 ar i env bl (b+k)=some (ob,v,u)\/wW ar i env bl (b+k)=some (ob,v,u))/\vE ob/\DI gs d v env fun env'=>rS ar gs b r (k+1) env' (bI u bl) (w5 k (nA i env) (u.map (·.1)) cA) K:=by
    rcases h with h|h
    ·obtain ⟨ob,v,u,h1,h2,h3⟩:=w9 h;exact ⟨ob,v,u,.inl h1,h2,h3⟩
    ·obtain ⟨ob,v,u,h1,h2,h3⟩:=w9 h;exact ⟨ob,v,u,.inr h1,h2,h3⟩
   clear h
   obtain ⟨ob,v,u,ak,cW,h⟩:=h'
   obtain ⟨v',qN,h⟩:=Eb h
   obtain ⟨ts,h1,h2,h3⟩:=mJ h
   refine ⟨⟨k,.op d g i,.op v' u,nA i env⟩::ts,by simp [h1],by simp [h2,List.range'_succ],⟨hg,ob,v,ak,xE cW,qN,rfl⟩,?_⟩
   rw [show u.map (·.1)=(Ac.op v' u).Ln.map (·.1) from rfl,Ji k (.op d g i) (.op v' u)] at h3
   rw [<-List.singleton_append,List.filterMap_append,<-List.append_assoc]
   exact h3
  ·rename_i hg
   obtain ⟨ts,h1,h2,h3⟩:=mJ h
   exact ⟨⟨k,.op d g i,.skip,[]⟩::ts,by simp [h1],by simp [h2,List.range'_succ],⟨hg,rfl⟩,h3⟩
  ·exact h.elim
 | .call d g f a tys::r,k,env,bl,cA,K,h=>by
  simp only [rS] at h
  split at h
  ·rename_i hg
   split at h
   ·rename_i f' fs cs hf
    split at h
    ·rename_i vs' hm
     obtain ⟨x,u,hp,hs,h⟩:=h
     obtain ⟨v',qN,h⟩:=Eb h
     obtain ⟨ts,h1,h2,h3⟩:=mJ h
     refine ⟨⟨k,.call d g f a tys,.call v' u,jL bl (fs++cu tys (a.map (·.ev env))++cs)⟩::ts,by simp [h1],by simp [h2,List.range'_succ],⟨hg,f',fs,cs,vs',x,hf,hm,hp,hs,qN,rfl⟩,?_⟩
     rw [show u.map (·.1)=(Ac.call v' u).Ln.map (·.1) from rfl,Ji k (.call d g f a tys) (.call v' u)] at h3
     rw [<-List.singleton_append,List.filterMap_append,<-List.append_assoc]
     exact h3
    ·exact h.elim
   ·exact h.elim
  ·rename_i hg
   obtain ⟨ts,h1,h2,h3⟩:=mJ h
   exact ⟨⟨k,.call d g f a tys,.skip,[]⟩::ts,by simp [h1],by simp [h2,List.range'_succ],⟨hg,rfl⟩,h3⟩
  ·exact h.elim
theorem sj {x : Nat} : ∀ {l : List Nat}, BQ x l = true ↔ x ∈ l
 |[]=>by simp [BQ]
 |y::r=>by
  have ih:=sj (x:=x) (l:=r)
  simp only [BQ,List.mem_cons]
  split
  ·rename_i h;have:=Nat.eq_of_beq_eq_true h;simp [this]
  ·rename_i h; have : x ≠ y := fun e => by subst e; rw [Nat.beq_refl] at h; cases h
   rw [ih];simp [this]
theorem pW {l' : List Nat} : ∀ {l : List Nat}, Aw l l' = true → ∀ x ∈ l, x ∉ l'
 |[],_=>by simp
 |y::r,h=>by
  simp only [Aw] at h
  split at h
  ·cases h
  ·rename_i hm
   intro x hx
   rcases List.mem_cons.1 hx with rfl|hx
   ·intro hx';rw [sj.2 hx'] at hm;cases hm
   ·exact pW h x hx
def DrP (b8:List (List Nat)) (a b:TR):Prop:=a.k∈b8.getD b.k []\/((∀id∈a.wr,id∉b.rd/\id∉b.wr)/\∀id∈b.wr,id∉a.rd)
theorem Oy {b8:List (List Nat)} {a b:TR} (h:BR b8 a.dr b.dr=true):DrP b8 a b:=by
 unfold BR at h
 split at h
 ·rename_i hm;exact .inl (sj.1 hm)
 ·split at h <;> try (cases h; done)
  rename_i h1
  split at h<;>try (cases h;done)
  rename_i h2
  exact .inr ⟨fun id hid=>⟨pW h1 id hid,pW h2 id hid⟩,fun id hid hr=>pW h id hr hid⟩
theorem AL {b8 : List (List Nat)} {a : DR} : ∀ {l : List DR}, I1 b8 a l = true → ∀ b ∈ l, BR b8 a b = true
 |[],_=>by simp
 |c::r,h=>by
  simp only [I1] at h
  split at h
  ·rename_i hc
   intro b hb
   rcases List.mem_cons.1 hb with rfl|hb
   ·exact hc
   ·exact AL h b hb
  ·cases h
theorem oO (t:TR):(t.rd=[]/\t.wr=[]/\sg t=none)\/sg t=some t.dr:=by
 unfold sg
 split
 ·rename_i h1 h2;exact .inl ⟨h1,h2,rfl⟩
 ·exact .inr rfl
theorem qQ {b8 : List (List Nat)} : ∀ {ts : List TR}, N5 b8 (ts.filterMap sg) = true → ts.Pairwise (DrP b8)
 |[],_=>.nil
 |t::ts,h=>by
  rcases oO t with ⟨h1,h2,h3⟩|h3
  ·simp only [List.filterMap_cons, h3] at h
   exact .cons (fun b _=>.inr ⟨fun id hid=>by rw [h2] at hid;simp at hid,fun id _=>by rw [h1];simp⟩) (qQ h)
  ·simp only [List.filterMap_cons, h3, N5] at h
   split at h<;>try (cases h;done)
   rename_i ho
   refine .cons (fun b hb=>?_) (qQ h)
   rcases oO b with ⟨q1,q2,_⟩|q3
   ·exact .inr ⟨fun id _=>by rw [q1,q2];simp,fun id hid=>by rw [q2] at hid;simp at hid⟩
   ·exact Oy (AL ho _ (List.mem_filterMap.2 ⟨b,hb,q3⟩))
section
variable {c1 : Nat → List V → aG → (V → aG → Prop) → Prop} {c2 : Nat → List V → V → Prop} {c3 : C → St → (Ex → St → Prop) → Prop}
 {c4:Nat->List V->aG->(V->aG->Prop)->Prop} {c5:O->List Nat->C->C->St->(Ex->St->Prop)->Prop} {c6:C->St->(Ex->St->Prop)->Prop} {bl:aq}
theorem nJ {g h : V → Option V} (e : ∀ v, g v = h v) : ∀ vs, ee g vs = ee h vs
 |[]=>rfl
 |v::r=>by simp only [ee,e v,nJ e r]
theorem xR : ∀ {n : Nat} {v : V}, fin (bu c1 c2 c3 c4 c5 c6) bl n v = fin eu bl n v
 |0,v=>rfl
 |n+1,v=>by
  have:=nJ (fun v=>xR (n:=n) (v:=v))
  cases v<;>first|rfl|(simp only [fin,this];done)|(simp only [fin,xR];done)|(simp only [fin];rfl)
end
section
variable {P:Program} {N:Nat} {out:Option Nat} {base:Nat}
def u7 : List Nat → aq → Option aq
 |[],bl=>some bl
 |id::r,bl=>match ay id bl with
  |some (.arr t xs _)=>u7 r ((id,.arr t xs true)::bD id bl)
  |some (.cells cs _)=>u7 r ((id,.cells cs true)::bD id bl)
  |_=>none
def zV (ι : ax) (μ : Mu) (id : Nat) : Option lD → Prop
 |some (.arr t xs _)=>jB ι μ id t xs
 |some (.cells cs _)=>∃L vs,μ id=some L/\Reads ι L.b L.ba vs/\aM ι μ cs vs/\∀v∈vs,v.oneCell'=true
 |_=>True
theorem zV.mono {ι ι':ax} {μ:Mu} {id:Nat} {o:Option lD} (h:zV ι μ id o) (hi:ι.le ι'):zV ι' μ id o:=by
 unfold zV at h ⊢
 split at h
 ·exact jB.mono hi h
 ·obtain ⟨L, vs, h1, h2, h3, h4⟩ := h
  exact ⟨L,vs,h1,h2.mono hi,h3.mono hi (Mu.le_refl _),h4⟩
 ·trivial
theorem Inv.Tw {Y:Ctx} {ι:ax} {μ:Mu} {H:aG} {w:World} (h:Inv P Y ι μ H w) {id:Nat} {cs:List V} {fz:Bool} (hb:ay id H.bl=some (.cells cs fz)) :
  ∃ι',ι.le ι'/\Inv P Y ι' μ ⟨H.next,(id,.cells cs true)::bD id H.bl⟩ w/\zV ι' μ id (some (.cells cs fz)):=by
 obtain ⟨L,vs,hM,hR⟩:=h.live id _ hb
 cases fz with
 |true=>exact ⟨ι,ax.le_refl _,h.same hb ⟨L,vs,hM,hR⟩,L,vs,hM.mu,hM.GH rfl,hR,hM.one⟩
 |false =>
  have hfree:=hM.rI rfl
  have hle:=ax.GJ (vs:=vs) hfree
  have fU:aM (ι.add L vs) μ cs vs:=hR.mono hle (Mu.le_refl _)
  refine ⟨ι.add L vs,hle,?_,L,vs,hM.mu,Reads.add,fU,hM.one⟩
  refine ⟨h.below,ax.le_trans h.i0 hle,fun b o hb' hx=>?_,fun b o x hx=>?_,h.m0,h.nx,fun i B hB=>?_,?_,?_,h.gl⟩
  ·unfold ax.add;rw [if_neg (fun e=>Ctx.l7 hM.old hb' hx e)];exact h.iB b o hb' hx
  ·unfold ax.add at hx
   split at hx
   ·rename_i e; subst e
    split at hx
    ·rename_i ho
     obtain ⟨c,e,h1,h2,h3⟩:=hM.row
     have:=h3 _ _ hx
     rw [show L.ba+(o - L.ba)=o by omega] at this
     simp [World.cell?,h1,this]
    ·cases hx
   ·exact h.rd b o x hx
  ·rw [aH] at hB
   split at hB
   ·rename_i e; subst e; cases hB
    exact ⟨L,vs,⟨hM.mu,hM.old,hM.row,hM.fits,hM.one,fun _=>Reads.add,fun e=>by cases e⟩,fU⟩
   ·rename_i e
    refine (h.live i B hB).mono hle (Mu.le_refl _) (fun h=>h) (fun _ _=>rfl) (fun L' hL' ho o=>?_)
    unfold ax.add
    rw [if_neg (fun e'=>e (h.inj i id B _ L' L hB hb hL' hM.mu e'))]
    exact ho o
  ·intro i i' B B' L1 L2 h1 h2 gz hm2 e
   have:∀{j B},ay j ((id,.cells cs true)::bD id H.bl)=some B->∃Zb,ay j H.bl=some Zb:=fun {j B} hj=>by
    rw [aH] at hj
    split at hj
    ·rename_i e;subst e;exact ⟨_,hb⟩
    ·exact ⟨B,hj⟩
   obtain ⟨C,hC⟩:=this h1
   obtain ⟨C',Tb⟩:=this h2
   exact h.inj i i' C C' L1 L2 hC Tb gz hm2 e
  ·intro i B hB
   rw [aH] at hB
   split at hB
   ·rename_i e;subst e;exact h.lt _ _ hb
   ·exact h.lt i B hB
theorem wm {Y:Ctx} {μ:Mu} {w:World} {nx:Nat}:∀{ids:List Nat} {bl bP:aq} {ι:ax},Inv P Y ι μ ⟨nx,bl⟩ w->u7 ids bl=some bP ->
  ∃ι',ι.le ι'/\Inv P Y ι' μ ⟨nx,bP⟩ w/\∀id∈ids,zV ι' μ id (ay id bl)
 |[],bl,bP,ι,hI,h=>by cases h;exact ⟨ι,ax.le_refl _,hI,fun id hid=>by simp at hid⟩
 |i::r,bl,bP,ι,hI,h=>by
  simp only [u7] at h
  split at h
  ·rename_i t xs fz hb
   obtain ⟨ι1,h1,h2,h3⟩:=hI.freeze hb
   obtain ⟨ι2,h4,h5,h6⟩:=wm h2 h
   refine ⟨ι2,ax.le_trans h1 h4,h5,fun id hid=>?_⟩
   by_cases e:id=i
   ·subst e
    rw [show ay id bl=some (.arr t xs fz) from hb]
    exact jB.mono h4 h3
   ·rcases List.mem_cons.1 hid with rfl | hid
    ·exact absurd rfl e
    ·have := h6 id hid
     have e2:ay id ((i,lD.arr t xs true)::bD i bl)=ay id bl:=by rw [bC,if_neg (fun h=>e h.symm),bt,if_neg e]
     rw [show ay id ((i,lD.arr t xs true)::bD i (aG.bl ⟨nx,bl⟩))=ay id bl from e2] at this
     exact this
  ·rename_i cs fz hb
   obtain ⟨ι1,h1,h2,h3⟩:=hI.Tw hb
   obtain ⟨ι2,h4,h5,h6⟩:=wm h2 h
   refine ⟨ι2,ax.le_trans h1 h4,h5,fun id hid=>?_⟩
   by_cases e:id=i
   ·subst e
    rw [show ay id bl=some (.cells cs fz) from hb]
    exact h3.mono h4
   ·rcases List.mem_cons.1 hid with rfl | hid
    ·exact absurd rfl e
    ·have := h6 id hid
     have e2:ay id ((i,lD.cells cs true)::bD i bl)=ay id bl:=by rw [bC,if_neg (fun h=>e h.symm),bt,if_neg e]
     rw [show ay id ((i,lD.cells cs true)::bD i (aG.bl ⟨nx,bl⟩))=ay id bl from e2] at this
     exact this
  ·cases h
theorem Ca {ι : ax} {μ : Mu} {bl : aq} : ∀ {n : Nat} {v r : V} {x : Value}, fin eu bl n v = some r → (∀ id ∈ gm bl n v, zV ι μ id (ay id bl)) → Rel ι μ v x → Rel ι (fun _ => none) r x
 |0,v,r,x,h,_,_=>by cases h
 |n+1,v,r,x,h,hF,hr=>by
  have conv:∀{cs ds:List V} {xs:List Value},ee (fin eu bl n) cs=some ds->(∀id∈cs.flatMap (gm bl n),zV ι μ id (ay id bl))->aM ι μ cs xs->aM ι (fun _=>none) ds xs:=by
   intro cs
   induction cs with
   |nil=>intro ds xs hm _ hl;cases hm;rw [hl.of_nil];exact .nil
   |cons c cs ih =>
    intro ds xs hm hf hl
    unfold ee at hm
    obtain ⟨y,ys,rfl,h1,h2⟩:=hl.bN
    split at hm<;>try (cases hm;done)
    rename_i u hu
    split at hm<;>try (cases hm;done)
    rename_i us Gk
    cases hm
    simp only [List.flatMap_cons,List.mem_append] at hf
    exact .cons (Ca hu (fun id hid=>hf id (.inl hid)) h1) (ih Gk (fun id hid=>hf id (.inr hid)) h2)
  cases hr<;>simp only [fin] at h<;>try (cases h;done)
  case any=>cases h;exact .any _
  case tf=>cases h;exact .tf _
  case bool=>cases h;exact .bool _
  case int=>cases h;exact .int _ _
  case str=>cases h;exact .str _
  case fG=>cases h;exact .fG
  case cZ=>cases h;exact .cZ
  case gw=>cases h;exact .gw
  case fS t xs hd=>cases h;exact .fS t xs _ hd
  case cg=>cases h;exact .cg _
  case sl id t lo m cap L hL h1 h2 h3 =>
   split at h<;>try (cases h;done)
   rename_i t' xs fz hb
   split at h<;>try (cases h;done)
   rename_i e;subst e
   cases h
   have hf:=hF id (by simp [gm])
   rw [hb] at hf
   exact .fS _ _ _ (jB.slice hf (.sl (ι:=ι) id t lo m cap L hL h1 h2 h3))
  case bH id t lo a =>
   split at h<;>try (cases h;done)
   rename_i t' xs fz hb
   split at h<;>try (cases h;done)
   rename_i e;subst e
   cases h
   exact .fS _ _ _ ⟨a,0,by simp [bu,eu],by simp [bu,eu],.inl (by simp [bu,eu])⟩
  case ptr id off L hL =>
   split at h<;>try (cases h;done)
   rename_i cs fz hb
   split at h<;>try (cases h;done)
   rename_i ds hds
   split at h<;>try (cases h;done)
   rename_i hoff
   cases h
   have hf:=hF id (by simp [gm])
   rw [hb] at hf
   obtain ⟨L',vs,hM,hrd,hR,hone⟩:=hf
   rw [hM] at hL;cases hL
   have fU:=conv hds (fun i hi=>hF i (by simp only [gm,hb,List.mem_cons];exact .inr hi)) hR
   refine .gx _ L.b (L.ba+off) (fun i=>vs.getD (off+i) .nilIface) (fun i hi=>?_) (fun i v hv=>?_) (fun i=>?_)
   ·have hlt : off + i < vs.length := by have := fU.1; simp at hi; omega
    have:vs[off+i]?=some (vs.getD (off+i) .nilIface):=by simp [List.getD,hlt]
    rw [Nat.add_assoc];exact hrd _ _ this
   ·have qN : ds[off + i]? = some v := by simpa using hv
    obtain ⟨y,hy,hry⟩:=fU.at qN
    simp only [List.getD,hy,Option.getD_some];exact hry
   ·by_cases hlt : off + i < vs.length
    ·have : vs.getD (off + i) .nilIface = vs[off + i] := by simp [List.getD, hlt]
     rw [this];exact hone _ (List.getElem_mem hlt)
    ·have : vs.getD (off + i) .nilIface = .nilIface := by simp [List.getD, List.getElem?_eq_none (show vs.length ≤ off + i by omega)]
     rw [this];rfl
  case gx cs b o gf h1 h2 h3 =>
   split at h<;>try (cases h;done)
   rename_i hall
   cases h
   exact .gx cs b o gf h1 (fun i v hv=>dN (List.all_eq_true.1 hall _ (List.mem_of_getElem? hv)) (h2 i v hv)) h3
  case ip t y b o us h1 h2=>cases h;exact .ip t y b o us h1 h2
  case fn f fs cs xs ys h1 h2 h3 h4 =>
   split at h<;>try (cases h;done)
   rename_i as bs ha hb
   cases h
   have r1:=conv ha (fun i hi=>hF i (by simp only [gm,List.mem_append];exact .inl hi)) (xs:=xs.toList) ⟨by simpa using h1,fun i v x hv hx=>h2 i v x hv (by simpa using hx)⟩
   have r2:=conv hb (fun i hi=>hF i (by simp only [gm,List.mem_append];exact .inr hi)) (xs:=ys.toList) ⟨by simpa using h3,fun i v x hv hx=>h4 i v x hv (by simpa using hx)⟩
   exact .fn f as bs xs ys (by simpa using r1.1) (fun i v x hv hx=>r1.2 i v x hv (by simpa using hx)) (by simpa using r2.1) (fun i v x hv hx=>r2.2 i v x hv (by simpa using hx))
  case agg cs xs h1 h2 h3 =>
   split at h<;>try (cases h;done)
   rename_i ds hds
   cases h
   have r1:=conv hds (fun i hi=>hF i (by simpa [gm] using hi)) (xs:=xs.toList) ⟨by simpa using h1,fun i v x hv hx=>h2 i v x hv (by simpa using hx)⟩
   exact .agg ds xs (by simpa using r1.1) (fun i v x hv hx=>r1.2 i v x hv (by simpa using hx)) h3
  case cS cs xs h1 h2 =>
   split at h<;>try (cases h;done)
   rename_i ds hds
   cases h
   have r1:=conv hds (fun i hi=>hF i (by simpa [gm] using hi)) (xs:=xs.toList) ⟨by simpa using h1,fun i v x hv hx=>h2 i v x hv (by simpa using hx)⟩
   exact .cS ds xs (by simpa using r1.1) (fun i v x hv hx=>r1.2 i v x hv (by simpa using hx))
  case cL t v x hv =>
   split at h<;>try (cases h;done)
   rename_i r' hr'
   cases h
   exact .cL t r' x (Ca hr' (fun i hi=>hF i (by simpa [gm] using hi)) hv)
  case cb c b hc=>cases h;exact .cb c b hc
  case cT=>cases h;exact .cT
  case mw t xs b o us h1 h2=>cases h;exact .mw t xs b o us h1 h2
  case pa id t m L hL hm =>
   split at h<;>try (cases h;done)
   rename_i t' xs fz hb
   split at h<;>try (cases h;done)
   rename_i e;subst e
   cases h
   have hf:=hF id (by simp [gm])
   rw [hb] at hf
   rcases hf with ⟨e,hn⟩|⟨L',vs,hM,hrd,hR,hl⟩
   ·rw [hn] at hL;cases hL
   ·rw [hM] at hL; cases hL
    exact .mw _ _ _ _ vs hrd hR
theorem Cb : ∀ {ids : List Nat} {bl : aq} {u : eY}, w6 ids bl = some u → u7 ids bl = some (bI u bl)
 |[],_,_,h=>by cases h;rfl
 |id::r,bl,u,h=>by
  simp only [w6] at h
  simp only [u7]
  split at h
  ·rename_i hb
   split at h<;>try (cases h;done)
   rename_i hu
   cases h
   rw [hb]
   exact Cb hu
  ·rename_i hb
   split at h<;>try (cases h;done)
   rename_i hu
   cases h
   rw [hb]
   exact Cb hu
  ·cases h
theorem Tx {ι ι':ax} {μ:Mu} {bl:aq} (h1:ι.le ι'):∀{vs vs':List V} {xs:List Value},ee (fin eu bl 8) vs=some vs'->(∀id∈jL bl vs,zV ι' μ id (ay id bl))->aM ι μ vs xs->aM ι' (fun _=>none) vs' xs:=by
 intro vs
 induction vs with
 |nil=>intro vs' xs hm _ hl;cases hm;rw [hl.of_nil];exact .nil
 |cons v r ih =>
  intro vs' xs hm hfz hl
  unfold ee at hm
  split at hm<;>try (cases hm;done)
  rename_i u hu
  split at hm<;>cases hm
  rename_i us Gk
  obtain ⟨x,xs',rfl,r1,r2⟩:=hl.bN
  simp only [jL,List.flatMap_cons,List.mem_append] at hfz
  exact .cons (Ca hu (fun id hid=>hfz id (.inl hid)) (r1.mono h1 (Mu.le_refl _))) (ih Gk (fun id hid=>hfz id (.inr hid)) r2)
end
end Go.AM
end
