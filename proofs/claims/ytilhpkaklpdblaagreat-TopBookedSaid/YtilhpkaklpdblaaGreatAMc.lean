/- A region whose order is drawn: whatever the order, it ends as the canonical one. Calls in the caller's heap, loops unrolled, loops over functions. A call of yield: a round of the loop. The small machine, run. The way in: what an argument reads as is data of the machine. States that stand for as much, in general: names may change, nil slices may stand for empty lists, blocks that nobody reads are forgotten. The small machine's code as a function: tests, needs and calls stay open, all else is reckoned. Patterns: what stands in slots and blocks, with places for data; read out of a state, and laid again. Code that is the same, as a test. -/
import Derived.Test.YtilhpkaklpdblaaGreatAMb
import Derived.OrdersIn
import Derived.ProofKit
import Derived.OpenShut
import Derived.Maps.RangeRun
set_option linter.unusedSectionVars false
set_option linter.unusedVariables false
set_option linter.unusedSimpArgs false
section
namespace Go.AM
section
variable {P:Program} {N:Nat} {Y:Ctx} {ι ι':aj} {μ μ':Mu} {H:aF} {w w':World} {out:Option Nat} {base:Nat} {ops:Array Oper}
def mV (acc:Array Nat) (o:Oper):Array Nat:=acc.push (o.after.foldl (fun s e=>if Region.binds .any e then s ||| 2 ^ e.on ||| acc.getD e.on 0 else s) 0)
theorem Bk:Region.before ops=ops.toList.foldl mV #[]:=by
 unfold Region.before
 rw [<-Array.foldl_toList];rfl
theorem yz {acc:Array Nat} {j:Nat}:∀{l:List Edge} {s:Nat},(l.foldl (fun s e=>if Region.binds .any e then s ||| 2 ^ e.on ||| acc.getD e.on 0 else s) s).testBit j=true ->
  s.testBit j=true\/∃e∈l,Region.binds .any e=true/\(j=e.on\/(acc.getD e.on 0).testBit j=true)
 |[],s,h=>.inl h
 |e::r,s,h=>by
  simp only [List.foldl_cons] at h
  rcases yz h with h1|⟨e',he',h2⟩
  ·split at h1
   ·rename_i hb
    simp only [Nat.testBit_or,Bool.or_eq_true,Nat.testBit_two_pow,decide_eq_true_eq] at h1
    rcases h1 with (h1|h1)|h1
    ·exact .inl h1
    ·exact .inr ⟨e,List.mem_cons_self ..,hb,.inl h1.symm⟩
    ·exact .inr ⟨e,List.mem_cons_self ..,hb,.inr h1⟩
   ·exact .inl h1
  ·exact .inr ⟨e',List.mem_cons_of_mem _ he',h2⟩
theorem yA : ∀ (l : List Oper) (acc : Array Nat), (l.foldl mV acc).size = acc.size + l.length
 |[],acc=>by simp
 |o::r,acc=>by simp only [List.foldl_cons,yA r,mV,Array.size_push,List.length_cons];omega
theorem yB {j:Nat}:∀(l:List Oper) (acc:Array Nat) (pre:List Oper),acc.size=pre.length ->
  (∀i,(acc.getD i 0).testBit j=true->∃o,pre[i]?=some o/\∃e∈o.after,Region.binds .any e=true/\(j=e.on\/(acc.getD e.on 0).testBit j=true)) ->
  ∀i,((l.foldl mV acc).getD i 0).testBit j=true->∃o,(pre++l)[i]?=some o/\∃e∈o.after,Region.binds .any e=true/\(j=e.on\/((l.foldl mV acc).getD e.on 0).testBit j=true)
 |[],acc,pre,hs,h,i,hi=>by simpa using h i hi
 |o::r,acc,pre,hs,h,i,hi=>by
  have:=yB r (mV acc o) (pre++[o]) (by simp [mV,hs]) (fun i hi=>?_) i hi
  ·simpa using this
  ·have keep:∀k,(acc.getD k 0).testBit j=true->((mV acc o).getD k 0).testBit j=true:=fun k hk=>by
    have hlt:k<acc.size:=by
     rcases Nat.lt_or_ge k acc.size with h|h
     ·exact h
     ·simp [Array.getD,Nat.not_lt.2 h] at hk
    simpa [mV,Array.getD,hlt,Array.getElem_push,Nat.lt_succ_of_lt hlt] using (by simpa [Array.getD,hlt] using hk:acc[k].testBit j=true)
   by_cases hlt:i<acc.size
   ·have hi':(acc.getD i 0).testBit j=true:=by
     simpa [mV,Array.getD,hlt,Array.getElem_push,Nat.lt_succ_of_lt hlt] using hi
    obtain ⟨o',ho',e,he,hb,hj⟩:=h i hi'
    exact ⟨o',by rw [List.getElem?_append_left (List.getElem?_eq_some_iff.1 ho').1];exact ho',e,he,hb,hj.imp id (keep _)⟩
   ·by_cases heq : i = acc.size
    ·subst heq
     have hi':(o.after.foldl (fun s e=>if Region.binds .any e then s ||| 2 ^ e.on ||| acc.getD e.on 0 else s) 0).testBit j=true:=by
      simpa [mV,Array.getD,Array.getElem_push] using hi
     rw [<-Array.foldl_toList] at hi'
     rcases yz hi' with h1|⟨e,he,hb,hj⟩
     ·simp at h1
     ·exact ⟨o,by rw [hs];simp,e,by simpa using he,hb,hj.imp id (keep _)⟩
    ·have : ¬ i < (mV acc o).size := by simp [mV]; omega
     simp [Array.getD,this] at hi
theorem oV {i j:Nat} (h:((Region.before ops).getD i 0).testBit j=true) :
  ∃o,ops[i]?=some o/\∃e∈o.after,Region.binds .any e=true/\(j=e.on\/((Region.before ops).getD e.on 0).testBit j=true):=by
 rw [Bk] at h ⊢
 obtain ⟨o,ho,h⟩:=yB (j:=j) ops.toList #[] [] rfl (fun i hi=>by simp at hi) i h
 exact ⟨o,by simpa using ho,h⟩
theorem oW:(Region.before ops).size=ops.size:=by rw [Bk,yA];simp
theorem kj {i j:Nat}:j∈(aU ops).getD i []↔j<ops.size/\((Region.before ops).getD i 0).testBit j=true:=by
 unfold aU
 simp only [List.getD,List.getElem?_map]
 by_cases hi:i<ops.size
 ·have h:(Region.before ops).toList[i]?=some ((Region.before ops).getD i 0):=by
   have:i<(Region.before ops).size:=by rw [oW];exact hi
   simp [Array.getD,this]
  simp [h,List.mem_filter,List.mem_range]
 ·have h1 : (Region.before ops).toList[i]? = none := List.getElem?_eq_none (by simp [oW]; omega)
  have h2:(Region.before ops).getD i 0=0:=by simp [Array.getD,oW,hi]
  simp [h1,h2]
theorem dQ : ∀ {os : List Oper} {is : List dn}, de P N ops os = some is → is.length = os.length ∧ ∀ (k : Nat) o it, os[k]? = some o → is[k]? = some it → lQ P N ops o = some it
 |[],is,h=>by cases h;exact ⟨rfl,fun k o it h=>by simp at h⟩
 |o::os,is,h=>by
  unfold de at h
  split at h<;>try (cases h;done)
  rename_i it its hit O5
  cases h
  obtain ⟨h1,h2⟩:=dQ O5
  refine ⟨by simp [h1],fun k o' it' ho hi=>?_⟩
  cases k with
  |zero=>simp at ho hi;subst ho;subst hi;exact hit
  |succ k=>exact h2 k o' it' (by simpa using ho) (by simpa using hi)
theorem Inv.qg (h:Inv P Y ι μ H w) {n:Nat} (hn:H.next<=n):Inv P Y ι μ ⟨n,H.bl⟩ w :=
 ⟨h.below,h.i0,h.iB,h.rd,h.m0,fun id hid=>h.nx id (Nat.le_trans hn hid),h.live,h.inj,fun id B hB=>Nat.lt_of_lt_of_le (h.lt id B hB) hn,h.gl⟩
theorem Inv.eqB (h:Inv P Y ι μ H w) {bl:ah} (he:EqB bl H.bl):Inv P Y ι μ ⟨H.next,bl⟩ w :=
 ⟨h.below,h.i0,h.iB,h.rd,h.m0,h.nx,fun id B hB=>h.live id B (by rw [<-he id];exact hB),fun id id' B B' L L' hb hb'=>h.inj id id' B B' L L' (by rw [<-he id];exact hb) (by rw [<-he id'];exact hb'),
  fun id B hB=>h.lt id B (by rw [<-he id];exact hB),h.gl⟩
theorem dZ.O9 {B:Nat->Prop} {id:Nat} {b:lJ} (h:dZ P B ι μ id w b) (hw:w'.heap=w.heap):dZ P B ι μ id w' b:=by
 cases b with
 |cells cs fz=>obtain ⟨L,vs,hM,h⟩:=h;exact ⟨L,vs,⟨hM.mu,hM.old,by rw [hw];exact hM.row,hM.fits,hM.one,hM.HR,hM.sk⟩,h⟩
 |arr t xs fz =>
  rcases h with h|⟨L,vs,hM,h⟩
  ·exact .inl h
  ·exact .inr ⟨L,vs,⟨hM.mu,hM.old,by rw [hw];exact hM.row,hM.fits,hM.one,hM.HR,hM.sk⟩,h⟩
 |loop st j d env ps as bd N=>unfold dZ at h ⊢;rw [hw];exact h
 |iy=>unfold dZ at h ⊢;rw [hw];exact h
 |map kt kg vt vg es=>unfold dZ at h ⊢;rw [hw];exact h
 |ov t xs i p v =>
  obtain ⟨L,us,vs,c,hM,h⟩:=h
  exact ⟨L,us,vs,c,⟨hM.mu,hM.old,by rw [hw];exact hM.row,hM.fits,hM.one,hM.HR,hM.sk⟩,h⟩
theorem Inv.drawn (h:Inv P Y ι μ H w):Inv P Y ι μ H { w with drawn:=w.drawn+1 } :=
 ⟨⟨h.below.os,h.below.tape,h.below.output,h.below.size,h.below.block,Nat.le_succ_of_le h.below.dr,h.below.maps⟩,h.i0,h.iB,h.rd,h.m0,h.nx,fun id B hB=>(h.live id B hB).O9 rfl,h.inj,h.lt,h.gl⟩
theorem Inv.called (hI:Inv P Y ι μ H w) (hi:ι.le ι') (hib:∀b o,b<w.heap.size->ι' b o=ι b o) (hrd:dA ι' w') (jQ:Dw w w'):Inv P Y ι' μ H w':=by
 have hsz:=hI.below.size
 refine ⟨hI.below.then jQ,aj.le_trans hI.i0 hi,fun b o hb hx=>by rw [hib b o (by omega)];exact hI.iB b o hb hx,hrd,hI.m0,hI.nx,fun id B hB=>?_,hI.inj,hI.lt,hI.gl⟩
 have lT:=hI.live id B hB
 refine lT.mono hi (Mu.le_refl _) (fun h=>h) (fun L hL=>jQ.b.block _ (lT.loc hL).2) (fun L hL ho o=>?_)
 rw [hib _ _ (lT.loc hL).2];exact ho o
theorem dA.kept (h:dA ι w) (jQ:Dw w w'):dA ι w':=fun b o x hx=>by
 have h1:=h b o x hx
 have hlt:b<w.heap.size:=by
  rcases Nat.lt_or_ge b w.heap.size with h'|h'
  ·exact h'
  ·simp [World.cell?,Array.getElem?_eq_none h'] at h1
 unfold World.cell? at h1 ⊢
 simp only at h1 ⊢
 rw [jQ.b.block b hlt];exact h1
theorem Bm {v:V} {x:Value} (h:JB v=true) (hr:Rel ι μ v x):Rel ι' μ' v x:=by
 cases hr<;>simp only [JB] at h<;>try (cases h;done)
 case tf=>exact .tf _
 case bool=>exact .bool _
 case int=>exact .int _ _
 case str=>exact .str _
theorem Mr {v:V} {x:Value} (h:OO v=true) (hr:Rel ι μ v x):Rel ι' μ' v x:=by
 cases hr<;>simp only [OO] at h<;>try (cases h;done)
 case tf=>exact .tf _
 case bool=>exact .bool _
 case int=>exact .int _ _
 case str=>exact .str _
 case agg cs xs h1 h2 h3=>exact .agg cs xs h1 (fun i v x hv hx=>Bm (List.all_eq_true.1 h _ (List.mem_of_getElem? hv)) (h2 i v x hv hx)) h3
theorem Fk {v:V} {x:Value} (h:EM v=true) (hr:Rel ι μ v x):Rel ι' μ' v x:=by
 cases hr<;>simp only [EM] at h<;>try (cases h;done)
 case tf=>exact .tf _
 case bool=>exact .bool _
 case int=>exact .int _ _
 case str=>exact .str _
 case agg cs xs h1 h2 h3=>exact .agg cs xs h1 (fun i v x hv hx=>Bm (List.all_eq_true.1 h _ (List.mem_of_getElem? hv)) (h2 i v x hv hx)) h3
 case dc cs xs h1 h2=>exact .dc cs xs h1 fun i v x hv hx=>Mr (List.all_eq_true.1 h _ (List.mem_of_getElem? hv)) (h2 i v x hv hx)
theorem CQ {g : V → Option V} : ∀ {vs : List V}, (∀ v ∈ vs, g v = some v) → dY g vs = some vs
 |[],_=>rfl
 |v::r,h=>by simp only [dY,h v (List.mem_cons_self ..),CQ (vs:=r) (fun v hv=>h v (List.mem_cons_of_mem _ hv))]
theorem yC {ar : Ar} {bl : ah} : ∀ {n : Nat} {v : V}, dX n v = true → fin ar bl n v = some v
 |0,v,h=>by cases h
 |n+1,v,h=>by
  have all:∀{cs:List V},cs.all (dX n)=true->dY (fin ar bl n) cs=some cs:=fun h=>CQ fun v hv=>yC (List.all_eq_true.1 h v hv)
  cases v<;>simp only [dX] at h<;>try (cases h;done)
  case fe cs=>simp only [fin,h,if_true]
  case fn f a b=>simp only [Bool.and_eq_true] at h;simp only [fin,all h.1,all h.2]
  case agg cs=>simp only [fin,all h]
  case dc cs=>simp only [fin,all h]
  case cL t v=>simp only [fin,yC h]
  all_goals rfl
theorem sM {v0 v:V} {x:Value} (h:vOk v0 v) (hr:Rel ι μ v0 x):Rel ι μ v x:=by
 rcases h with rfl|⟨c,rfl,rfl⟩
 ·exact hr
 ·cases hr;exact .tf _
theorem mW {S:List (Nat×V)} {a:Act} (he:fu ι μ S a.tmps) {o:Oper} {g:Option (Nat×Bool)} (hg:trG ops o.guard=some g) {c:Bool} (h:HQ g S=some c):Region.wanted o (yielded ops a.tmps)=c:=by
 cases O4:o.guard with
 |none=>rw [O4] at hg;cases hg;cases h;simp [Region.wanted,O4]
 |some jb =>
  obtain ⟨j,b⟩:=jb
  rw [O4] at hg
  simp only [trG] at hg
  split at hg<;>try (cases hg;done)
  rename_i oj hoj
  split at hg<;>try (cases hg;done)
  rename_i d hdj
  cases hg
  simp only [HQ] at h
  split at h<;>try (cases h;done)
  rotate_left
  ·rename_i vs hc
   cases h
   simp only [Region.wanted,O4,vI he hoj hdj hc]
   rfl
  rename_i c' hc
  simp only [Region.wanted,O4,yc he hoj hdj (.inl hc)]
  revert h
  cases c'<;>cases b<;>intro h<;>cases h<;>rfl
theorem JS {b n : Nat} {t : TR} {env : List (Nat × V)} {bl : ah} {ms : List Nat} {a : Act} (hn : t.k < n) {o : Oper} (ho : ops[t.k]? = some o) (hit : lQ P N ops o = some t.it)
  (Bn:En (eL P N out base) b t env bl) (hR:dU P N Y ι μ ⟨env,⟨b+n,bl⟩,ms⟩ a w) (hfree:μ (b+t.k)=none) {Q:Exit->Act->World->Prop} {K:Act->World->Prop}
  (hK:∀ι' μ' a' w',dU P N Y ι' μ' ⟨t.Fh env,⟨b+n,t.oT bl⟩,ms⟩ a' w'->(∀id,id≠b+t.k->μ' id=μ id)->K a' w'):wpOpIn Y.F 0 P ops Q t.k K a w:=by
 obtain ⟨k,it,ac,rd⟩:=t
 simp only at hn ho hit hfree hK
 unfold lQ at hit
 split at hit<;>try (cases hit;done)
 rename_i hd
 split at hit<;>try (cases hit;done)
 rename_i g hg
 have hgrd:it.XK=g/\it.dst=o.dst:=by
  split at hit<;>(split at hit<;>try (cases hit;done))<;>(cases hit;exact ⟨rfl,rfl⟩)
 unfold wpOpIn
 simp only [ho]
 unfold En at Bn
 cases ac with
 |skip =>
  simp only at Bn
  rw [hgrd.1] at Bn
  rw [if_neg (by rw [mW hR.env hg Bn.1];simp)]
  refine ⟨fun _ _=>trivial,hK ι μ _ _ ?_ fun _ _=>rfl⟩
  have:=hR.put hd (aj.le_refl _) (Mu.le_refl _) hR.inv Rel.und
  simpa [TR.Fh,TR.oT,hgrd.2,Ac.val,Ac.qe,bF] using this
 |op v u =>
  split at hit
  ·split at hit <;> try (cases hit; done)
   cases hit;exact Bn.elim
  ·split at hit <;> try (cases hit; done)
   cases hit;exact Bn.elim
  ·rename_i op _ _
   split at hit<;>try (cases hit;done)
   rename_i i hi
   cases hit
   obtain ⟨Es,ob,v0,ag,cV,hv,_⟩:=Bn
   have hw:=mW hR.env hg Es
   rw [if_pos hw]
   have hop:Me P Y ι μ ⟨b+n,bl⟩ w (b+k) (execOp a.eval o) v0 u i.lays:=by
    rcases ag with ag|ag
    ·exact uG hR.inv hfree hR.env hi ag cV
    ·exact uH hR.inv hfree hR.env hi ag cV
   obtain ⟨ι',μ',x,w',hx,hi',hm,hne,hinv,Fc⟩:=hop
   refine ⟨fun _ _=>trivial,?_⟩
   rw [Oper.semAt_eq _ _ _ (j9 hi)]
   have JT:gj i.lays (b+n) (b+k)=b+n:=by unfold gj;cases i.lays<;>simp<;>omega
   have mQ:dU P N Y ι' μ' ⟨AM.put o.dst v env,⟨b+n,bF u bl⟩,ms⟩ (a.put o.dst x) w':=by
    refine hR.put hd hi' hm ?_ (sM hv Fc)
    have:=hinv;simp only [JT] at this;exact this
   rcases hx with h|⟨h,rfl⟩<;>rw [h]<;>exact hK _ _ _ _ mQ hne
 |call v u =>
  obtain ⟨c,args,tys,fo,as,hop,hf,ha,rfl⟩:∃(c:Callee) (args:Array Operand) (tys:Array TypeId) (fo:O) (as:List O),o.op = .call { callee:=c,args:=args,argTypes:=tys }/\lP P c=some fo/\wE args.toList=some as/\it = .call o.dst g fo as (fP P fo tys):=by
   split at hit
   ·rename_i f args tys hop
    split at hit<;>try (cases hit;done)
    rename_i fo as hf ha
    cases hit
    exact ⟨.value f,args,tys,fo,as,hop,hf,ha,rfl⟩
   ·rename_i r name args tys hop
    split at hit<;>try (cases hit;done)
    rename_i fo as hf ha
    cases hit
    exact ⟨.invoke r name,args,tys,fo,as,hop,hf,ha,rfl⟩
   ·split at hit <;> try (cases hit; done)
    cases hit;exact Bn.elim
  obtain ⟨Es,fid,fs,cs,vs',v0,qd,hmo,hp,hs,hv,_⟩:=Bn
  have hw:=mW hR.env hg Es
  rw [if_pos hw]
  refine ⟨fun _ _=>trivial,?_⟩
  rw [Oper.semAt_eq _ _ _ (by rw [hop];simp)]
  have ra:=jd hR.env ha
  obtain ⟨cF,eF⟩:=hp
  obtain ⟨xs,ys,r1,r2,hrun⟩:=yg hop hf hR.env qd cF
  rw [hrun]
  have rl:aJ ι μ (fs++cq (fP P fo tys) (as.map (·.ev env))++cs) (xs++args.map a.eval++ys).toList:=by
   have:=(r1.append (jZ (ts:=fP P fo tys) ra)).append r2
   simpa using this
  refine ⟨fun h=>by simp [Ctx.F,Fence.wide] at h,?_⟩
  rcases Bool.eq_false_or_eq_true (EM v0||(fs++cq (fP P fo tys) (as.map (·.ev env))++cs).all (dX 8)) with hb|hb
  rotate_left
  ·rw [hb] at hs
   obtain ⟨ι2,i1,i2,i3⟩:=w8 hR.inv (CO hs)
   have hmo':dY (fin bW bl 8) (fs++cq (fP P fo tys) (as.map (·.ev env))++cs)=some vs':=(nN (fun v=>by unfold eL;exact yy.symm) _).trans hmo
   refine CallsIn.mono (F:=Y.F) (eF ι2 w _ i2.dH (fun b o x hx=>i2.rd b o x hx) (TE i1 hmo' i3 rl)) ?_
   rintro e w' ⟨v',ι',rfl,hi,hib,hrd,jQ,Fc⟩
   have hinv':Inv P Y ι' μ ⟨b+n,bF u bl⟩ w':=i2.called hi hib hrd jQ
   exact hK _ _ _ _ (hR.put hd (aj.le_trans i1 hi) (Mu.le_refl _) hinv' (sM hv (Fc.mono (aj.le_refl _) (fun _ _ h=>by cases h)))) fun _ _=>rfl
  rw [hb] at hs
  cases hs
  replace hs:=hb
  rw [Bool.or_eq_true] at hs
  rcases hs with hs|hs
  ·refine CallsIn.mono (F := Y.F) (eF (ι.all Y.own w) w _ (hR.inv.dH.mono (aj.CL hR.inv.rd)) (fun b o x hx => ?_) (ji (fun v r x h hr => w6 (fun _ _ _ => rfl) hR.inv h hr) hmo rl)) ?_
   ·exact aj.H9 hR.inv.rd hx
   ·rintro e w' ⟨v', ι', rfl, _, _, _, jQ, Fc⟩
    have hinv':Inv P Y ι μ ⟨b+n,bl⟩ w':=hR.inv.called (aj.le_refl _) (fun _ _ _=>rfl) (dA.kept (fun b o x hx=>hR.inv.rd b o x hx) jQ) jQ
    exact hK _ _ _ _ (hR.put hd (aj.le_refl _) (Mu.le_refl _) hinv' (sM hv (Fk hs Fc))) fun _ _=>rfl
  ·have hid:dY (fin (eL P N out base) bl 8) (fs++cq (fP P fo tys) (as.map (·.ev env))++cs)=some (fs++cq (fP P fo tys) (as.map (·.ev env))++cs) :=
    CQ fun v hv=>yC (List.all_eq_true.1 hs v hv)
   rw [hid] at hmo;cases hmo
   have rl':aJ ι (fun _=>none) (fs++cq (fP P fo tys) (as.map (·.ev env))++cs) (xs++args.map a.eval++ys).toList :=
    ⟨rl.1,fun i v x hv hx=>dP (List.all_eq_true.1 hs _ (List.mem_of_getElem? hv)) (rl.2 i v x hv hx)⟩
   refine CallsIn.mono (F:=Y.F) (eF ι w _ hR.inv.dH (fun b o x hx=>hR.inv.rd b o x hx) rl') ?_
   rintro e w' ⟨v',ι',rfl,hi,hib,hrd,jQ,Fc⟩
   have hinv':Inv P Y ι' μ ⟨b+n,bl⟩ w':=hR.inv.called hi hib hrd jQ
   exact hK _ _ _ _ (hR.put hd hi (Mu.le_refl _) hinv' (sM hv (Fc.mono (aj.le_refl _) (fun _ _ h=>by cases h)))) fun _ _=>rfl
structure Good (ops:Array Oper) (m:Nat) (is:List dn) (R:List TR) (listed:Array Bool):Prop where
 sz:listed.size=ops.size
 mem:∀t∈R,t.k<m/\is[t.k]?=some t.it/\listed.getD t.k true=false
 cov:∀i,i<m->listed.getD i true=false->∃t∈R,t.k=i
 XQ:R.Pairwise (fun a b=>a.k<b.k)
 dr:R.Pairwise (DrP (aU ops))
 clo:∀i,listed.getD i false=true->∀j∈(aU ops).getD i [],listed.getD j false=true
 le:m<=ops.size
 tl:∀i,m<=i->i<ops.size->listed.getD i true=false
theorem sN {l:Array Bool} {i:Nat} (h:l.getD i true=false):l.getD i false=false/\i<l.size:=by
 rcases Nat.lt_or_ge i l.size with h'|h'
 ·simp [h'] at h ⊢;exact h
 ·simp [Array.getElem?_eq_none h'] at h
theorem nO {l:Array Bool} {i:Nat} (h:i<l.size) (d d':Bool):l.getD i d=l.getD i d':=by simp [h]
theorem nP {cm:List (List Nat)} {is:List dn} (h:jO cm is=true) {i j:Nat} (hij:i<j) {a b:dn} (ha:is[i]?=some a) (hb:is[j]?=some b):i∈cm.getD j []\/iJ a b=true:=by
 unfold jO at h
 have hj:j<is.length:=(List.getElem?_eq_some_iff.1 hb).1
 have:=List.all_eq_true.1 (List.all_eq_true.1 h j (List.mem_range.2 hj)) i (List.mem_range.2 hij)
 simp only [ha,hb,Bool.or_eq_true] at this
 rcases this with h|h
 ·exact .inl (by simpa using h)
 ·exact .inr h
theorem jk {m:Nat} {is:List dn} {R:List TR} {listed:Array Bool} (hG:Good ops m is R listed) {i:Nat} (hi:i∈Region.ready .any ops listed):∀j∈(aU ops).getD i [],listed.getD j false=true:=by
 intro j hj
 obtain ⟨_,o,ho,hall⟩:=mem_ready.1 hi
 obtain ⟨hjs,ht⟩:=kj.1 hj
 obtain ⟨o',ho',e,he,hb,h⟩:=oV ht
 rw [ho] at ho';cases ho'
 have hl:=hall e he hb
 rcases h with rfl|h
 ·exact hl
 ·exact hG.clo _ hl j (kj.2 ⟨hjs,h⟩)
theorem Pa {m:Nat} {is:List dn} {R:List TR} {listed:Array Bool} (hG:Good ops m is R listed) (b7:fh ops=true) {k:Nat} (h1:k<ops.size) (h3:listed.getD k true=false) (oZ:∀i,i<k->listed.getD i true=true):k∈Region.ready .any ops listed:=by
 refine mem_ready.2 ⟨h3,ops[k],by simp [h1],fun e he hb=>?_⟩
 have hlt:e.on<k:=by
  unfold fh at b7
  have hmem:(ops[k],k)∈ops.toList.zipIdx:=by
   rw [List.mem_zipIdx_iff_getElem?];simp [h1]
  have:=List.all_eq_true.1 b7 _ hmem
  simp only at this
  have:=Array.all_eq_true_iff_forall_mem.1 this e he
  simpa [hb] using this
 have hlt':e.on<listed.size:=by rw [hG.sz];omega
 rw [nO hlt' false true];exact oZ _ hlt
theorem nQ {m:Nat} {is:List dn} {t:TR} {R:List TR} {listed:Array Bool} (hG:Good ops m is (t::R) listed) (b7:fh ops=true):t.k∈Region.ready .any ops listed:=by
 obtain ⟨h1,_,h3⟩:=hG.mem t (List.mem_cons_self ..)
 refine Pa hG b7 (by have:=hG.le;omega) h3 fun i hi=>?_
 rcases Bool.eq_false_or_eq_true (listed.getD i true) with h|h
 ·exact h
 ·obtain ⟨t', ht', hk⟩ := hG.cov i (by omega) h
  rcases List.mem_cons.1 ht' with rfl|ht'
  ·omega
  ·have := (List.pairwise_cons.1 hG.XQ).1 t' ht'
   omega
theorem Good.step {m:Nat} {is:List dn} {L1 L2:List TR} {t:TR} {listed:Array Bool} (hG:Good ops m is (L1++t::L2) listed) (hr:t.k∈Region.ready .any ops listed):Good ops m is (L1++L2) (listed.setIfInBounds t.k true):=by
 have hsub:(L1++L2).Sublist (L1++t::L2):=(List.Sublist.refl L1).append (List.sublist_cons_self t L2)
 have hne:∀x∈L1++L2,x.k≠t.k:=fun x hx=>by
  have:=List.pairwise_append.1 hG.XQ
  rcases List.mem_append.1 hx with h|h
  ·exact Nat.ne_of_lt (this.2.2 x h t (List.mem_cons_self ..))
  ·exact Nat.ne_of_gt ((List.pairwise_cons.1 this.2.1).1 x h)
 refine ⟨by simp [hG.sz],fun x hx=>?_,fun i hi SV=>?_,hG.XQ.sublist hsub,hG.dr.sublist hsub,fun i hi j hj=>?_,hG.le,fun i hi hi2=>?_⟩
 ·obtain ⟨h1, h2, h3⟩ := hG.mem x (hsub.subset hx)
  exact ⟨h1,h2,by rw [getD_set_ne true (Ne.symm (hne x hx))];exact h3⟩
 ·have hki:t.k≠i:=fun e=>by
   subst e
   have:t.k<listed.size:=by rw [hG.sz];exact Nat.lt_of_lt_of_le hi hG.le
   simp [this] at SV
  rw [getD_set_ne true hki] at SV
  obtain ⟨x,hx,hk⟩:=hG.cov i hi SV
  refine ⟨x,?_,hk⟩
  rcases List.mem_append.1 hx with h|h
  ·exact List.mem_append_left _ h
  ·rcases List.mem_cons.1 h with rfl | h
   ·exact absurd hk hki
   ·exact List.mem_append_right _ h
 ·refine getD_set_true ?_
  by_cases hki:t.k=i
  ·subst hki;exact jk hG hr j hj
  ·rw [getD_set_ne false hki] at hi
   exact hG.clo i hi j hj
 ·have hk := (hG.mem t (List.mem_append_right _ (List.mem_cons_self ..))).1
  rw [getD_set_ne true (by omega)]
  exact hG.tl i hi hi2
theorem vO {os:List Oper} {is:List dn} {k:Nat} (h:de P N ops os=some is):de P N ops (os.drop k)=some (is.drop k):=by
 induction k generalizing os is with
 |zero=>simpa using h
 |succ k ih =>
  cases os with
  |nil=>cases h;rfl
  |cons o os =>
   unfold de at h
   split at h<;>try (cases h;done)
   rename_i it its hit O5
   cases h
   simpa using ih O5
theorem yD {m:Nat} (b7:fh ops=true) (jl:∀i,m<=i->i<ops.size->∀j,j<i->j∈(aU ops).getD i []) {Q:Exit->Act->World->Prop}:∀(n k:Nat) {listed:Array Bool} {a:Act} {w:World},
  m<=k->k+n=ops.size->listed.size=ops.size->(∀i,i<k->listed.getD i true=true)->(∀i,k<=i->i<ops.size->listed.getD i true=false) ->
  (∀i,listed.getD i false=true->∀j∈(aU ops).getD i [],listed.getD j false=true)->wpOpsIn Y.F 0 P ops Q (List.range' k n) a w->wpAnyIn Y.F 0 P .any ops Q n listed a w
 |0,k,listed,a,w,hm,hk,hsz,oZ,JU,uN,h=>by
  refine ⟨?_,h⟩
  cases hr:Region.ready .any ops listed with
  |nil=>rfl
  |cons i r =>
   have hi:i∈Region.ready .any ops listed:=by rw [hr];exact List.mem_cons_self ..
   obtain ⟨h0,o,ho,_⟩:=mem_ready.1 hi
   have:=(Array.getElem?_eq_some_iff.1 ho).1
   rw [oZ i (by omega)] at h0;cases h0
 |n+1,k,listed,a,w,hm,hk,hsz,oZ,JU,uN,h=>by
  have hks:k<ops.size:=by omega
  have hrk:k∈Region.ready .any ops listed:=by
   refine mem_ready.2 ⟨JU k (Nat.le_refl _) hks,ops[k],by simp [hks],fun e he hb=>?_⟩
   have hlt:e.on<k:=by
    unfold fh at b7
    have hmem:(ops[k],k)∈ops.toList.zipIdx:=by
     rw [List.mem_zipIdx_iff_getElem?];simp [hks]
    have:=List.all_eq_true.1 b7 _ hmem
    simp only at this
    have:=Array.all_eq_true_iff_forall_mem.1 this e he
    simpa [hb] using this
   have hlt':e.on<listed.size:=by rw [hsz];omega
   rw [nO hlt' false true];exact oZ _ hlt
  have hrp:∀i,i∈Region.ready .any ops listed->∀j∈(aU ops).getD i [],listed.getD j false=true:=by
   intro i hi j hj
   obtain ⟨_,o,ho,hall⟩:=mem_ready.1 hi
   obtain ⟨hjs,ht⟩:=kj.1 hj
   obtain ⟨o',ho',e,he,hb,h⟩:=oV ht
   rw [ho] at ho';cases ho'
   have hl:=hall e he hb
   rcases h with rfl|h
   ·exact hl
   ·exact uN _ hl j (kj.2 ⟨hjs,h⟩)
  refine ⟨fun h0=>(by rw [h0] at hrk;cases hrk),fun i hi=>?_⟩
  obtain ⟨h0,o,ho,_⟩:=mem_ready.1 hi
  have jr:=(Array.getElem?_eq_some_iff.1 ho).1
  have hik:i=k:=by
   rcases Nat.lt_trichotomy i k with h1|h1|h1
   ·rw [oZ i h1] at h0;cases h0
   ·exact h1
   ·have := hrp i hi k (jl i (by omega) jr k h1)
    rw [(sN (JU k (Nat.le_refl _) hks)).1] at this;cases this
  subst hik
  rw [List.range'_succ,wpOpsIn_cons] at h
  refine wpOpIn_mono (fun a' w' h'=>yD b7 jl n (i+1) (by omega) (by omega) (by simpa using hsz) (fun j hj=>?_) (fun j hj hj2=>?_) (fun x hx j hj=>?_) h') h
  ·by_cases e : i = j
   ·subst e;simp [hsz,hks]
   ·rw [getD_set_ne true e];exact oZ j (by omega)
  ·rw [getD_set_ne true (by omega)];exact JU j (by omega) hj2
  ·refine getD_set_true ?_
   by_cases e:i=x
   ·subst e;exact hrp i hi j hj
   ·rw [getD_set_ne false e] at hx
    exact uN x hx j hj
theorem Pb {is : List dn} {m : Nat} (jl : ∀ i, m ≤ i → i < ops.size → ∀ j, j < i → j ∈ (aU ops).getD i []) (jr : de P N ops ops.toList = some is) (dw : jO (aU ops) is = true) (b7 : fh ops = true) {b : Nat} {ms : List Nat} {F : List (Nat × V) → ah → Prop} (hF : yw F)
  {Q:Exit->Act->World->Prop} (hend:∀ι μ env bl a w,dU P N Y ι μ ⟨env,⟨b+m,bl⟩,ms⟩ a w->F env bl->wpOpsIn Y.F 0 P ops Q (List.range' m (ops.size - m)) a w) :
  ∀(fuel:Nat) {R:List TR} {listed:Array Bool} {a:Act} {w:World} {ι:aj} {μ:Mu} {env:List (Nat×V)} {bl:ah},fuel=R.length+(ops.size - m)->Good ops m is R listed->jR (eL P N out base) b R env bl F ->
   dU P N Y ι μ ⟨env,⟨b+m,bl⟩,ms⟩ a w->(∀t∈R,μ (b+t.k)=none)->wpAnyIn Y.F 0 P .any ops Q fuel listed a w
 |fuel,R,listed,a,w,ι,μ,env,bl,hl,hG,hrun,hR,hfr=>by
  rcases Decidable.em (R=[]) with mz|mz
  ·subst mz
   have hle:=hG.le
   have hf:fuel=ops.size - m:=by simpa using hl
   rw [hf]
   refine yD b7 jl (ops.size - m) m (Nat.le_refl _) (by omega) hG.sz (fun i hi=>?_) hG.tl hG.clo (hend _ _ _ _ _ _ hR hrun)
   rcases Bool.eq_false_or_eq_true (listed.getD i true) with h|h
   ·exact h
   ·obtain ⟨t,ht,_⟩:=hG.cov i hi h;simp at ht
  obtain ⟨fuel,rfl⟩:∃f,fuel=f+1:=⟨fuel - 1,by have:=List.length_pos_iff.2 mz;omega⟩
  ·refine ⟨fun h0 => ?_, fun i hi => ?_⟩
   ·cases R with
    |nil=>exact absurd rfl mz
    |cons t R=>have:=nQ hG b7;rw [h0] at this;simp at this
   ·obtain ⟨h0, o, ho, _⟩ := mem_ready.1 hi
    have him:i<m:=by
     rcases Nat.lt_or_ge i m with h|h
     ·exact h
     ·exfalso
      have wG:=(Array.getElem?_eq_some_iff.1 ho).1
      cases R with
      |nil=>exact mz rfl
      |cons t R =>
       have JV:=hG.mem t (List.mem_cons_self ..)
       have:=jk hG hi _ (jl i h wG t.k (by omega))
       rw [(sN JV.2.2).1] at this;cases this
    obtain ⟨t,ht,hk⟩:=hG.cov i him h0
    subst hk
    obtain ⟨L1,L2,rfl⟩:=List.append_of_mem ht
    have hAp:∀x∈L1,O7 x t:=fun x hx=>by
     have hp:=(List.pairwise_append.1 hG.XQ).2.2 x hx t (List.mem_cons_self ..)
     have hd:=(List.pairwise_append.1 hG.dr).2.2 x hx t (List.mem_cons_self ..)
     have Mh:=hG.mem x (List.mem_append_left _ hx)
     have JV:=hG.mem t ht
     have hnot:x.k∉(aU ops).getD t.k []:=fun h=>by
      have:=jk hG hi _ h
      rw [(sN Mh.2.2).1] at this;cases this
     rcases nP dw hp Mh.2.1 JV.2.1 with h|h
     ·exact absurd h hnot
     ·rcases hd with h' | h'
      ·exact absurd h' hnot
      ·exact ⟨h,h'.1,h'.2⟩
    obtain ⟨Bn,qC⟩:=pull hF hAp hrun
    have JV:=hG.mem t ht
    have hit:=(dQ jr).2 t.k o t.it (by simpa using ho) JV.2.1
    refine JS JV.1 ho hit Bn hR (hfr t ht) fun ι' μ' a' w' fO hne=>?_
    have hG':=hG.step hi
    refine Pb jl jr dw b7 hF hend fuel (R:=L1++L2) (by simp at hl ⊢;omega) hG' qC fO fun x hx=>?_
    have hx':x∈L1++t::L2:=((List.Sublist.refl L1).append (List.sublist_cons_self t L2)).subset hx
    have h1:=(hG'.mem x hx).2.2
    have hnk:x.k≠t.k:=fun e=>by
     rw [e] at h1
     have:t.k<listed.size:=by rw [hG.sz];have:=hG.le;omega
     simp [this] at h1
    rw [hne _ (by omega)];exact hfr x hx'
theorem uO {ar : Ar} {b : Nat} {F G : List (Nat × V) → ah → Prop} (h : ∀ e bl, F e bl → G e bl) : ∀ {ts : List TR} {env : List (Nat × V)} {bl : ah}, jR ar b ts env bl F → jR ar b ts env bl G
 |[],_,_,hr=>h _ _ hr
 |_::_,_,_,hr=>⟨hr.1,uO h hr.2⟩
theorem yE {ar : Ar} {b : Nat} {p : Prop} {F : List (Nat × V) → ah → Prop} : ∀ {ts : List TR} {env : List (Nat × V)} {bl : ah}, jR ar b ts env bl (fun e bl => p ∧ F e bl) → p ∧ jR ar b ts env bl F
 |[],_,_,hr=>hr
 |_::_,_,_,hr=>let ⟨h1,h2⟩:=yE hr.2;⟨h1,hr.1,h2⟩
theorem TF {ar:Ar} {e:iS} {vs:List V} {bl:ah} {n n':Nat} (h:e.lays=false):iH ar e vs bl n=iH ar e vs bl n':=by
 cases e<;>first|rfl|(cases h;done)
theorem JW {ar:Ar} {i:I} {env:List (Nat×V)} {bl:ah} {n n':Nat} (h:i.lays=false):cg ar i env bl n=cg ar i env bl n':=by
 cases i<;>first|rfl|exact TF h|(cases h;done)
theorem JX {ar:Ar} {i:I} {env:List (Nat×V)} {bl:ah} {n n':Nat} (h:i.lays=false):xK ar i env bl n=xK ar i env bl n':=by
 cases i<;>first|rfl|(cases h;done)
structure Pu (t:TR):Prop where
 rd:t.rd=[]
 up:t.ac.qe=[]
 it:hpure t.it=true
theorem Pu.oT {t:TR} (h:Pu t) {bl:ah}:t.oT bl=bl:=by unfold TR.oT;rw [h.up];rfl
theorem vP {it:dn} (h:hpure it=true):∃d i,it = .op d none i/\i.lays=false:=by
 cases it with
 |call=>cases h
 |op d g i =>
  cases g with
  |some=>cases h
  |none=>exact ⟨d,i,rfl,by simpa [hpure] using h⟩
theorem Pu.en {ar:Ar} {b b':Nat} {t:TR} (h:Pu t) {env:List (Nat×V)} {bl bP:ah} {k':Nat} (he:En ar b t env bl):En ar b' { t with k:=k' } env bP:=by
 have he2:En ar b t env bP:=mS (fun _ _=>rfl) (fun id hid=>by rw [h.rd] at hid;cases hid) he
 obtain ⟨k,it,ac,rd⟩:=t
 obtain ⟨d,i,rfl,hl⟩:=vP h.it
 unfold En at he2 ⊢
 cases ac with
 |skip=>exact he2
 |call=>exact he2.elim
 |op v u =>
  obtain ⟨Es,ob,v0,ag,cV,hv,hrd⟩:=he2
  exact ⟨Es,ob,v0,ag.imp (fun h=>by rw [JW (n':=b+k) hl];exact h) (fun h=>by rw [JX (n':=b+k) hl];exact h),cV,hv,hrd⟩
theorem JY {ar : Ar} {b b' : Nat} {bP : ah} (f : TR → Nat) : ∀ {ts : List TR} {env : List (Nat × V)} {bl : ah} {F : List (Nat × V) → ah → Prop}, (∀ t ∈ ts, Pu t) → jR ar b ts env bl F → jR ar b' (ts.map fun t => { t with k := f t }) env bP fun e _ => F e bl
 |[],_,_,_,_,h=>h
 |t::ts,env,bl,F,hp,h=>by
  have ht:=hp t (List.mem_cons_self ..)
  obtain ⟨h1,h2⟩:=h
  rw [ht.oT] at h2
  have h3:=JY (b':=b') (bP:=bP) f (fun x hx=>hp x (List.mem_cons_of_mem _ hx)) h2
  refine ⟨ht.en h1,?_⟩
  have e:TR.oT { t with k:=f t } bP=bP:=ht.oT
  rw [e];exact h3
theorem Pc {t : TR} (hp : Pu t) {o : Oper} (ho : ops[t.k]? = some o) (hit : lQ P N ops o = some t.it) {b : Nat} {env : List (Nat × V)} {Hx : ah} (Bn : En (eL P N out base) b t env Hx) {ms : List Nat} {a : Act}
  (hR:dU P N Y ι μ ⟨env,H,ms⟩ a w) {Q:Exit->Act->World->Prop} {K:Act->World->Prop}
  (hK:∀ι' μ' a' w',dU P N Y ι' μ' ⟨t.Fh env,H,ms⟩ a' w'->K a' w'):wpOpIn Y.F 0 P ops Q t.k K a w:=by
 have TG:En (eL P N out base) b t env H.bl:=mS (fun _ _=>rfl) (fun id hid=>by rw [hp.rd] at hid;cases hid) Bn
 obtain ⟨k,it,ac,rd⟩:=t
 obtain ⟨d,i,rfl,hl⟩:=vP hp.it
 have hu:=hp.up
 simp only at ho hit hK hu
 unfold lQ at hit
 split at hit<;>try (cases hit;done)
 rename_i hd
 split at hit<;>try (cases hit;done)
 rename_i g hg
 split at hit
 ·split at hit<;>cases hit
 ·split at hit<;>cases hit
 ·split at hit <;> try (cases hit; done)
  rename_i i' hi
  cases hit
  unfold En at TG
  cases ac with
  |skip=>exact absurd TG.1 (by simp [dn.XK,HQ])
  |call=>exact TG.elim
  |op v u =>
   simp only [Ac.qe] at hu
   subst hu
   obtain ⟨Es,ob,v0,ag,cV,hv,hrd⟩:=TG
   have hw:=mW hR.env hg Es
   unfold wpOpIn
   simp only [ho]
   rw [if_pos hw]
   have hop:Me P Y ι μ H w H.next (execOp a.eval o) v0 [] i.lays:=by
    rcases ag with ag|ag
    ·rw [JW (n' := H.next) hl] at ag
     exact uG hR.inv (hR.inv.nx _ (Nat.le_refl _)) hR.env hi ag cV
    ·rw [JX (n' := H.next) hl] at ag
     exact uH hR.inv (hR.inv.nx _ (Nat.le_refl _)) hR.env hi ag cV
   obtain ⟨ι',μ',x,w',hx,hi',hm,hne,hinv,Fc⟩:=hop
   refine ⟨fun _ _=>trivial,?_⟩
   rw [Oper.semAt_eq _ _ _ (j9 hi)]
   have mQ:dU P N Y ι' μ' ⟨AM.put o.dst v env,H,ms⟩ (a.put o.dst x) w':=by
    refine hR.put hd hi' hm ?_ (sM hv Fc)
    rw [hl] at hinv
    exact hinv
   rcases hx with h|⟨h,rfl⟩<;>rw [h]<;>exact hK _ _ _ _ mQ
theorem aeq {k : Nat} {o : Oper} (ho : ops[k]? = some o) {d : Option Nat} {fid : Nat} {fs cs : List V} {as : List O} {tys : List (Option Ty)} (hit : lQ P N ops o = some (.call d none (.c (.fn fid fs cs)) as tys))
  {env:List (Nat×V)} {ms:List Nat} {a:Act} (hR:dU P N Y ι μ ⟨env,H,ms⟩ a w) {Qc:V->aF->Prop} (eF:eW P fid (fs++cq tys (as.map (·.ev env))++cs) H Qc) {Q:Exit->Act->World->Prop} {K:Act->World->Prop}
  (hK:∀ι' μ' v H' a' w',dU P N Y ι' μ' ⟨put d v env,H',ms⟩ a' w'->Qc v H'->K a' w'):wpOpIn Y.F 0 P ops Q k K a w:=by
 unfold lQ at hit
 split at hit<;>try (cases hit;done)
 rename_i hd
 split at hit<;>try (cases hit;done)
 rename_i g hg
 obtain ⟨cl,args,Pd,fo,as0,hop,hf,ha,heq⟩:∃(c:Callee) (args:Array Operand) (Pd:Array TypeId) (fo:O) (as0:List O),o.op = .call { callee:=c,args:=args,argTypes:=Pd }/\lP P c=some fo/\wE args.toList=some as0/\(.call d none (.c (.fn fid fs cs)) as tys:dn) = .call o.dst g fo as0 (fP P fo Pd):=by
  split at hit
  ·rename_i f args tys hop
   split at hit<;>try (cases hit;done)
   rename_i fo as hf ha
   exact ⟨.value f,args,tys,fo,as,hop,hf,ha,(Option.some.inj hit).symm⟩
  ·rename_i r name args tys hop
   split at hit<;>try (cases hit;done)
   rename_i fo as hf ha
   exact ⟨.invoke r name,args,tys,fo,as,hop,hf,ha,(Option.some.inj hit).symm⟩
  ·split at hit<;>try (cases hit;done)
 obtain ⟨rfl,rfl,rfl,rfl,rfl⟩:=dn.call.inj heq
 have hw:=mW (c:=true) hR.env hg rfl
 have ra:=jd hR.env ha
 unfold wpOpIn
 simp only [ho]
 rw [if_pos hw]
 obtain ⟨cF,eF⟩:=eF
 obtain ⟨xs,ys,r1,r2,hrun⟩:=yg hop hf hR.env rfl cF
 refine ⟨fun _ _=>trivial,?_⟩
 rw [Oper.semAt_eq _ _ _ (by rw [hop];simp),hrun]
 have rl:aJ ι μ (fs++cq (fP P (.c (.fn fid fs cs)) Pd) (as.map (·.ev env))++cs) (xs++args.map a.eval++ys).toList:=by
  have:=(r1.append (jZ (ts:=fP P (.c (.fn fid fs cs)) Pd) ra)).append r2
  simpa using this
 refine ⟨fun h=>by simp [Ctx.F,Fence.wide] at h,?_⟩
 refine CallsIn.mono (F:=Y.F) (eF Y ι μ w _ hR.inv rl) ?_
 rintro e w' ⟨v,ι',μ',r,H',rfl,hi,hm,hinv,hv,hq⟩
 exact hK _ _ _ _ _ _ (hR.put hd hi hm hinv hv) hq
theorem sP {is:List dn} {m:Nat} (dw:jO (aU ops) is=true) {L1 L2:List TR} {t:TR} {listed:Array Bool} (hG:Good ops m is (L1++t::L2) listed) (hi:t.k∈Region.ready .any ops listed):∀x∈L1,O7 x t:=fun x hx=>by
 have hp:=(List.pairwise_append.1 hG.XQ).2.2 x hx t (List.mem_cons_self ..)
 have hd:=(List.pairwise_append.1 hG.dr).2.2 x hx t (List.mem_cons_self ..)
 have Mh:=hG.mem x (List.mem_append_left _ hx)
 have JV:=hG.mem t (List.mem_append_right _ (List.mem_cons_self ..))
 have hnot:x.k∉(aU ops).getD t.k []:=fun h=>by
  have:=jk hG hi _ h
  rw [(sN Mh.2.2).1] at this;cases this
 rcases nP dw hp Mh.2.1 JV.2.1 with h|h
 ·exact absurd h hnot
 ·rcases hd with h' | h'
  ·exact absurd h' hnot
  ·exact ⟨h,h'.1,h'.2⟩
theorem Fl {is:List dn} {m:Nat} (jl:∀i,m<=i->i<ops.size->∀j,j<i->j∈(aU ops).getD i []) {R:List TR} {listed:Array Bool} (hG:Good ops m is R listed) (mz:R≠[]) {i:Nat} (hi:i∈Region.ready .any ops listed):∃t∈R,t.k=i:=by
 obtain ⟨h0,o,ho,_⟩:=mem_ready.1 hi
 have him:i<m:=by
  rcases Nat.lt_or_ge i m with h|h
  ·exact h
  ·exfalso
   have wG:=(Array.getElem?_eq_some_iff.1 ho).1
   cases R with
   |nil=>exact mz rfl
   |cons t R =>
    have JV:=hG.mem t (List.mem_cons_self ..)
    have:=jk hG hi _ (jl i h wG t.k (by omega))
    rw [(sN JV.2.2).1] at this;cases this
 exact hG.cov i him h0
theorem XR {is : List dn} {m : Nat} (jl : ∀ i, m ≤ i → i < ops.size → ∀ j, j < i → j ∈ (aU ops).getD i []) (jr : de P N ops ops.toList = some is) (dw : jO (aU ops) is = true) (b7 : fh ops = true) {ms : List Nat} {F : List (Nat × V) → aF → Prop} (hF : ∀ {e e' : List (Nat × V)} {H : aF}, Bh e e' → F e H → F e' H)
  {Q:Exit->Act->World->Prop} (hend:∀ι μ env H a w,dU P N Y ι μ ⟨env,H,ms⟩ a w->F env H->wpOpsIn Y.F 0 P ops Q (List.range' m (ops.size - m)) a w) :
  ∀(fuel:Nat) {R:List TR} {listed:Array Bool} {a:Act} {w:World} {ι:aj} {μ:Mu} {env:List (Nat×V)} {H:aF},fuel=R.length+(ops.size - m)->Good ops m is R listed->(∀t∈R,Pu t)->jR (eL P N out base) 0 R env [] (fun e _=>F e H) ->
   dU P N Y ι μ ⟨env,H,ms⟩ a w->wpAnyIn Y.F 0 P .any ops Q fuel listed a w
 |fuel,R,listed,a,w,ι,μ,env,H,hl,hG,hp,hrun,hR=>by
  rcases Decidable.em (R=[]) with mz|mz
  ·subst mz
   have hle:=hG.le
   have hf:fuel=ops.size - m:=by simpa using hl
   rw [hf]
   refine yD b7 jl (ops.size - m) m (Nat.le_refl _) (by omega) hG.sz (fun i hi=>?_) hG.tl hG.clo (hend _ _ _ _ _ _ hR hrun)
   rcases Bool.eq_false_or_eq_true (listed.getD i true) with h|h
   ·exact h
   ·obtain ⟨t,ht,_⟩:=hG.cov i hi h;simp at ht
  obtain ⟨fuel,rfl⟩:∃f,fuel=f+1:=⟨fuel - 1,by have:=List.length_pos_iff.2 mz;omega⟩
  refine ⟨fun h0=>?_,fun i hi=>?_⟩
  ·cases R with
   |nil=>exact absurd rfl mz
   |cons t R=>have:=nQ hG b7;rw [h0] at this;simp at this
  ·obtain ⟨t, ht, rfl⟩ := Fl jl hG mz hi
   obtain ⟨h0,o,ho,_⟩:=mem_ready.1 hi
   obtain ⟨L1,L2,rfl⟩:=List.append_of_mem ht
   obtain ⟨Bn,qC⟩:=pull (F:=fun e _=>F e H) (fun _ _ _ _ he _ h=>hF he h) (sP dw hG hi) hrun
   have hpt:=hp t ht
   rw [hpt.oT] at qC
   have hit:=(dQ jr).2 t.k o t.it (by simpa using ho) (hG.mem t ht).2.1
   refine Pc hpt ho hit Bn hR fun ι' μ' a' w' fO=>?_
   refine XR (F:=F) jl jr dw b7 hF hend fuel (R:=L1++L2) (by simp at hl ⊢;omega) (hG.step hi) (fun x hx=>hp x ?_) qC fO
   exact ((List.Sublist.refl L1).append (List.sublist_cons_self t L2)).subset hx
theorem Ms {it:dn} {d:Option Nat} {v:V} {env:List (Nat×V)} (h:nE d it.uses=true):(∀x∈it.os,x.ev (put d v env)=x.ev env):=(JQ fun t ht=>nM h t ht).1
theorem yF {f:Nat} {vs:List V} {Q Q':V->aF->Prop} (h:eW P f vs H Q) (hq:∀v H,Q v H->Q' v H):eW P f vs H Q' :=
 ⟨h.1,fun Y ι μ w as hI hr=>(h.2 Y ι μ w as hI hr).mono fun e w' ⟨v,ι',μ',r,H',h1,h2,h3,h4,h5,h6⟩=>⟨v,ι',μ',r,H',h1,h2,h3,h4,h5,hq _ _ h6⟩⟩
theorem Bo {c:TR} {d:Option Nat} {fid:Nat} {fs cs:List V} {as:List O} {tys:List (Option Ty)} (hc:c.it = .call d none (.c (.fn fid fs cs)) as tys) {b:Nat} {G:List (Nat×V)->aF->Prop} {bl:ah}:∀{R:List TR} {env:List (Nat×V)},
  (∀x∈R,Pu x/\nE x.it.dst c.it.uses=true/\nE d x.it.uses=true/\(∀s,d=some s->x.it.dst≠some s)) ->
  jR (eL P N out base) b R env bl (fun e _=>∃e0,Bh e0 e/\eW P fid (fs++cq tys (as.map (·.ev e0))++cs) H fun v H'=>G (put d v e0) H') ->
  eW P fid (fs++cq tys (as.map (·.ev env))++cs) H fun v H'=>jR (eL P N out base) b R (put d v env) bl fun e _=>∃e0,Bh e0 e/\G e0 H'
 |[],env,_,⟨e0,he,h⟩=>by
  have e1:as.map (·.ev e0)=as.map (·.ev env):=dB fun x _=>Fg fun t _=>he t
  rw [e1] at h
  exact yF h fun v H' hg=>⟨_,Bh.put he,hg⟩
 |x::R,env,hx,h=>by
  obtain ⟨hp,n1,n2,n3⟩:=hx x (List.mem_cons_self ..)
  obtain ⟨h1,h2⟩:=h
  rw [hp.oT] at h2
  have h3:=Bo hc (fun y hy=>hx y (List.mem_cons_of_mem _ hy)) h2
  have e1:as.map (·.ev (x.Fh env))=as.map (·.ev env):=dB fun y hy=>Ms n1 y (by rw [hc];simp [dn.os,hy])
  rw [e1] at h3
  refine yF h3 fun v H' hg=>⟨mS (fun s hs=>(nM n2 s hs).symm) (fun _ _=>rfl) h1,?_⟩
  rw [hp.oT]
  refine rG (fun e e' _ _ he _ ⟨e0,q1,q2⟩=>⟨e0,q1.trans he,q2⟩) (fun s=>?_) (fun _=>rfl) hg
  simp only [TR.Fh,sJ]
  by_cases q1:d=some s
  ·by_cases q2 : x.it.dst = some s
   ·exact absurd q2 (n3 s q1)
   ·simp [q1,q2]
  ·simp [q1]
theorem Pe {is : List dn} {m : Nat} (jl : ∀ i, m ≤ i → i < ops.size → ∀ j, j < i → j ∈ (aU ops).getD i []) (jr : de P N ops ops.toList = some is) (dw : jO (aU ops) is = true) (b7 : fh ops = true) {ms : List Nat} {G : List (Nat × V) → aF → Prop}
  {Q:Exit->Act->World->Prop} (hend:∀ι μ env H a w,dU P N Y ι μ ⟨env,H,ms⟩ a w->(∃e0,Bh e0 env/\G e0 H)->wpOpsIn Y.F 0 P ops Q (List.range' m (ops.size - m)) a w)
  {c:TR} {d:Option Nat} {fid:Nat} {fs cs:List V} {as:List O} {tys:List (Option Ty)} (hc:c.it = .call d none (.c (.fn fid fs cs)) as tys) (ZH:∀k,k<m->c.k<k->c.k∉(aU ops).getD k []) {H:aF} :
  ∀(fuel:Nat) {La Lb:List TR} {listed:Array Bool} {a:Act} {w:World} {ι:aj} {μ:Mu} {env:List (Nat×V)},fuel=(La++c::Lb).length+(ops.size - m)->Good ops m is (La++c::Lb) listed->(∀t∈La++Lb,Pu t) ->
   jR (eL P N out base) 0 (La++Lb) env [] (fun e _=>∃e0,Bh e0 e/\eW P fid (fs++cq tys (as.map (·.ev e0))++cs) H fun v H'=>G (put d v e0) H') ->
   dU P N Y ι μ ⟨env,H,ms⟩ a w->wpAnyIn Y.F 0 P .any ops Q fuel listed a w
 |fuel,La,Lb,listed,a,w,ι,μ,env,hl,hG,hp,hrun,hR=>by
  obtain ⟨fuel,rfl⟩:∃f,fuel=f+1:=⟨fuel - 1,by simp at hl;omega⟩
  have mN:yw fun e (_:ah)=>∃e0,Bh e0 e/\eW P fid (fs++cq tys (as.map (·.ev e0))++cs) H fun v H'=>G (put d v e0) H':=fun e e' _ _ he _ ⟨e0,q1,q2⟩=>⟨e0,q1.trans he,q2⟩
  refine ⟨fun h0=>?_,fun i hi=>?_⟩
  ·cases La with
   |nil=>have:=nQ hG b7;rw [h0] at this;simp at this
   |cons t R=>have:=nQ (R:=R++c::Lb) hG b7;rw [h0] at this;simp at this
  ·obtain ⟨t, ht, rfl⟩ := Fl jl hG (by simp) hi
   obtain ⟨h0,o,ho,_⟩:=mem_ready.1 hi
   have hit:=(dQ jr).2 t.k o t.it (by simpa using ho) (hG.mem t ht).2.1
   rcases List.mem_append.1 ht with hta|htb
   ·obtain ⟨P1, P2, rfl⟩ := List.append_of_mem hta
    have hG1:Good ops m is (P1++t::(P2++c::Lb)) listed:=by simpa using hG
    have hpt:=hp t (by simp)
    obtain ⟨Bn,qC⟩:=pull mN (sP dw hG1 hi) (show jR (eL P N out base) 0 (P1++t::(P2++Lb)) env [] _ by simpa using hrun)
    rw [hpt.oT] at qC
    refine Pc hpt ho hit Bn hR fun ι' μ' a' w' fO=>?_
    refine Pe jl jr dw b7 hend hc ZH fuel (La:=P1++P2) (Lb:=Lb) (by simp at hl ⊢;omega) (by simpa using hG1.step hi) (fun x hx=>hp x (by simp at hx ⊢;rcases hx with h|h|h<;>simp [h])) (by simpa using qC) fO
   rcases List.mem_cons.1 htb with rfl|htb
   ·rw [hc] at hit
    have hap:=sP dw hG hi
    have hsy:∀x∈La++Lb,Pu x/\nE x.it.dst t.it.uses=true/\nE d x.it.uses=true/\(∀s,d=some s->x.it.dst≠some s):=fun x hx=>by
     have hd:t.it.dst=d:=by rw [hc];rfl
     refine ⟨hp x hx,?_⟩
     rcases List.mem_append.1 hx with h|h
     ·have hs := (hap x h).slots
      simp only [iJ,Bool.and_eq_true] at hs
      obtain ⟨⟨s1,s2⟩,s3⟩:=hs
      rw [hd] at s2 s3
      refine ⟨s1,s2,fun s hs e=>?_⟩
      rw [e,hs] at s3;simp at s3
     ·have hlt := (List.pairwise_cons.1 (List.pairwise_append.1 hG.XQ).2.1).1 x h
      have Mh:=hG.mem x (by simp [h])
      rcases nP dw hlt (hG.mem t ht).2.1 Mh.2.1 with h'|hs
      ·exact absurd h' (ZH _ Mh.1 hlt)
      ·simp only [iJ, Bool.and_eq_true] at hs
       obtain ⟨⟨s1,s2⟩,s3⟩:=hs
       rw [hd] at s1 s3
       refine ⟨s2,s1,fun s hs e=>?_⟩
       rw [hs,e] at s3;simp at s3
    refine aeq ho hit hR (Bo hc hsy hrun) fun ι' μ' v H' a' w' fO hq=>?_
    exact XR jl jr dw b7 (F:=fun e H=>∃e0,Bh e0 e/\G e0 H) (fun he ⟨e0,q1,q2⟩=>⟨e0,q1.trans he,q2⟩) hend fuel (R:=La++Lb) (by simp at hl ⊢;omega) (hG.step hi) hp hq fO
   ·obtain ⟨P1, P2, rfl⟩ := List.append_of_mem htb
    have hG1:Good ops m is ((La++c::P1)++t::P2) listed:=by simpa using hG
    have hpt:=hp t (by simp)
    have hap:=sP dw hG1 hi
    obtain ⟨Bn,qC⟩:=pull (L1:=La++P1) mN (fun x hx=>hap x (by simp at hx ⊢;rcases hx with h|h<;>simp [h])) (show jR (eL P N out base) 0 ((La++P1)++t::P2) env [] _ by simpa using hrun)
    rw [hpt.oT] at qC
    refine Pc hpt ho hit Bn hR fun ι' μ' a' w' fO=>?_
    refine Pe jl jr dw b7 hend hc ZH fuel (La:=La) (Lb:=P1++P2) (by simp at hl ⊢;omega) (by simpa using hG1.step hi) (fun x hx=>hp x (by simp at hx ⊢;rcases hx with h|h|h<;>simp [h])) (by simpa using qC) fO
theorem TH (hm:P.follows .mixedOrders=true):JM P N out base:=by
 intro id ops Ey Tz jr dw b7 hl S K hK Y ι μ a w ho hb hR
 refine wpIn_region_any hm ?_
 obtain ⟨ts,h1,h2,h3⟩:=mU hK
 simp only [List.nil_append] at h3
 obtain ⟨Ti,hrun⟩:=yE h3
 replace Ti:=ON Ti
 have hlen:Ey.length+Tz.length=ops.size:=by simpa using (dQ jr).1
 have htl:ts.length=Ey.length:=by rw [<-h1];simp
 have hk:∀(j:Nat) t,ts[j]?=some t->t.k=j/\(Ey++Tz)[j]?=some t.it/\j<Ey.length:=fun j t ht=>by
  have hj:=(List.getElem?_eq_some_iff.1 ht).1
  refine ⟨?_,?_,by omega⟩
  ·have : (ts.map (·.k))[j]? = some t.k := by simp [ht]
   rw [h2,List.getElem?_range' (by omega)] at this
   simpa using this.symm
  ·rw [List.getElem?_append_left (by omega),<-h1];simp [ht]
 let F:List (Nat×V)->ah->Prop:=fun env bl=>∃jS Hx,Bh jS env/\EqB Hx bl/\dW (eL P N out base) Tz ⟨jS,⟨S.H.next+Ey.length,Hx⟩,S.ms⟩ K
 have hF:yw F:=fun env env' bl bP he qz ⟨e0,b0,q1,q2,q3⟩=>⟨e0,b0,q1.trans he,fun i=>(q2 i).trans (qz i),q3⟩
 have mQ:∀{ι' μ' env bl jS Hx a' w'},dU P N Y ι' μ' ⟨env,⟨S.H.next+Ey.length,bl⟩,S.ms⟩ a' w'->Bh jS env->EqB Hx bl->dU P N Y ι' μ' ⟨jS,⟨S.H.next+Ey.length,Hx⟩,S.ms⟩ a' w':=fun fO q1 q2 =>
  ⟨fun t=>by rw [q1 t];exact fO.env t,fO.sz,fO.inv.eqB q2,fO.ms⟩
 have hfl:ops.size=ts.length+(ops.size - Ey.length):=by omega
 have ZI:de P N ops (ops.toList.drop Ey.length)=some Tz:=by
  have:=vO (k:=Ey.length) jr
  rwa [List.drop_left' rfl] at this
 refine Pb (out:=out) (base:=base) (b:=S.H.next) (ms:=S.ms) (F:=F) (fun i hi hi2=>hl i hi (by omega)) jr dw b7 hF (fun ι' μ' env bl a' w' fO hf=>?_) ops.size (R:=ts) (ι:=ι) (μ:=μ) (env:=S.env) (bl:=S.H.bl) hfl ?_ ?_ ?_ ?_
 ·obtain ⟨e0, b0, q1, q2, q3⟩ := hf
  have h:=sH (Y:=Y) (os:=ops.toList.drop Ey.length) (Q:=Post P N Y fun e S=>match e with | .normal=>K S|_=>False) (K:=K) (out:=out) (base:=base) (fun ι μ S a w hR hK=>Post.of (e':=.normal) hR rfl hK) (k:=Ey.length) ZI (fun j=>by
   rw [List.getElem?_drop];simp) (mQ fO q1 q2) q3
  rwa [List.length_drop,Array.length_toList] at h
 ·refine ⟨by simp, fun t ht => ?_, fun i hi SV => ?_, ?_, rH Ti, fun i hi => ?_, by omega, fun i hi hi2 => by simp [hi2]⟩
  ·obtain ⟨j, hj⟩ := List.getElem?_of_mem ht
   obtain ⟨e1,e2,e3⟩:=hk j t hj
   subst e1
   exact ⟨e3,e2,by simp [show t.k<ops.size by omega]⟩
  ·have : i < ts.length := by omega
   refine ⟨ts[i],List.getElem_mem this,(hk i _ (by simp)).1⟩
  ·have h4 : (ts.map (·.k)).Pairwise (· < ·) := by rw [h2]; exact List.pairwise_lt_range'
   exact List.pairwise_map.1 h4
  ·exfalso
   rcases Nat.lt_or_ge i ops.size with h|h<;>simp [h] at hi
 ·refine uO (fun e bl h => ?_) hrun
  exact ⟨e,bl,fun _=>rfl,fun _=>rfl,h⟩
 ·exact ⟨hR.env,hR.sz,(hR.inv.qg (by omega)).drawn,hR.ms⟩
 ·intro t ht
  exact hR.inv.nx _ (by omega)
theorem JZ {ar:Ar} {b:Nat} {q:List Nat->eZ->Prop} {p:List (Nat×V)->ah->Prop} {r:eZ->List (Nat×V)->ah->Prop}:∀{ts:List TR} {env:List (Nat×V)} {bl:ah},jR ar b ts env bl (fun e bl=>p e bl\/∃ids u,q ids u/\r u e bl) ->
  jR ar b ts env bl p\/∃ids u,q ids u/\jR ar b ts env bl (r u)
 |[],_,_,h=>h
 |_::_,_,_,⟨h1,h2⟩=>(JZ h2).imp (fun h=>⟨h1,h⟩) fun ⟨ids,u,h,h'⟩=>⟨ids,u,h,h1,h'⟩
theorem TI (hm:P.follows .mixedOrders=true):JN P N out base:=by
 intro id ops is c e jr dw b7 jf S K hK Y ι μ a w ho hb hR
 refine wpIn_region_any hm ?_
 unfold OI at jf
 split at jf<;>try (cases jf;done)
 rename_i e0 uP
 split at jf<;>try (cases jf;done)
 rename_i c0 hfind
 split at jf<;>try (cases jf;done)
 rename_i hq
 cases jf
 simp only [Bool.and_eq_true] at hq
 obtain ⟨⟨⟨q1,q2⟩,q3⟩,q4⟩:=hq
 have hce:c<e:=by
  have:c+1<=e:=by simpa [Nat.blt] using q3
  omega
 have hel:e<=is.length:=Nat.le_of_ble_eq_true q4
 have hlen:is.length=ops.size:=by simpa using (dQ jr).1
 have hord:∀i,e<=i->i<ops.size->∀j,j<i->j∈(aU ops).getD i []:=by
  unfold A4 at uP
  split at uP<;>try (cases uP;done)
  split at uP<;>try (cases uP;done)
  rename_i hq
  cases uP
  rw [Bool.and_eq_true,decide_eq_true_eq] at hq
  intro i hi hi2 j hj
  have:=List.all_eq_true.1 hq.1 i (List.mem_range.2 (by omega))
  rw [Bool.or_eq_true,decide_eq_true_eq] at this
  rcases this with h|h
  ·omega
  ·simpa using List.all_eq_true.1 h j (List.mem_range.2 hj)
 obtain ⟨d,fid,fs,cs,as,tys,hic⟩:∃d fid fs cs as tys,is[c]?=some (.call d none (.c (.fn fid fs cs)) as tys):=by
  unfold OH at q1
  split at q1<;>try (cases q1;done)
  rename_i it hit
  unfold eF at q1
  split at q1<;>try (cases q1;done)
  exact ⟨_,_,_,_,_,_,hit⟩
 have hall:∀k,k<e->k≠c->(∃it,is[k]?=some it/\hpure it=true)/\c∉(aU ops).getD k []:=fun k hk hkc=>by
  have:=List.all_eq_true.1 q2 k (List.mem_range.2 hk)
  simp only [Bool.or_eq_true,Bool.and_eq_true,Bool.not_eq_true'] at this
  rcases this with h|⟨h1,h2⟩
  ·exact absurd (Nat.eq_of_beq_eq_true h) hkc
  ·refine ⟨?_, by simpa using h2⟩
   unfold OH at h1
   split at h1<;>try (cases h1;done)
   rename_i it hit
   exact ⟨it,hit,h1⟩
 unfold Cz at hK
 obtain ⟨ts,h1,h2,h3⟩:=mU hK
 simp only [List.nil_append] at h3
 obtain ⟨Ti,hrun⟩:=yE h3
 have Tv:=Md Ti
 have hLn:(jv is c e).length=e - 1:=by unfold jv;simp;omega
 have htl:ts.length=e - 1:=by rw [<-hLn,<-h1];simp
 have hH1:∀j,j<c->(jv is c e)[j]?=is[j]?:=fun j hj=>by
  unfold jv
  rw [List.getElem?_append_left (by simp;omega),List.getElem?_take_of_lt hj]
 have hH2:∀j,c<=j->j+1<e->(jv is c e)[j]?=is[j+1]?:=fun j hj hj2=>by
  unfold jv
  rw [List.getElem?_append_right (by simp;omega),List.length_take,Nat.min_eq_left (by omega),List.getElem?_take_of_lt (by omega),List.getElem?_drop]
  congr 1;omega
 have htj:∀(j:Nat) t,ts[j]?=some t->t.k=j/\(jv is c e)[j]?=some t.it/\j<e - 1:=fun j t ht=>by
  have hj:=(List.getElem?_eq_some_iff.1 ht).1
  refine ⟨?_,?_,by omega⟩
  ·have : (ts.map (·.k))[j]? = some t.k := by simp [ht]
   rw [h2,List.getElem?_range' (by omega)] at this
   simpa using this.symm
  ·rw [<-h1];simp [ht]
 have hP:∀t∈ts,Pu t:=fun t ht=>by
  obtain ⟨j,hj⟩:=List.getElem?_of_mem ht
  obtain ⟨e1,e2,e3⟩:=htj j t hj
  rcases oU t with ⟨r1,r2,_⟩|r3
  ·refine ⟨r1, by simpa [TR.wr] using r2, ?_⟩
   by_cases hjc:j<c
   ·rw [hH1 j hjc] at e2
    obtain ⟨⟨it,h,h'⟩,_⟩:=hall j (by omega) (by omega)
    rw [h] at e2;cases e2;exact h'
   ·rw [hH2 j (by omega) (by omega)] at e2
    obtain ⟨⟨it,h,h'⟩,_⟩:=hall (j+1) (by omega) (by omega)
    rw [h] at e2;cases e2;exact h'
  ·exfalso
   have:t.dr∈ts.filterMap sK:=List.mem_filterMap.2 ⟨t,ht,r3⟩
   rw [Tv] at this;cases this
 have J1:Cv is c e = .call d none (.c (.fn fid fs cs)) as tys::is.drop e:=by
  have hc:=(List.getElem?_eq_some_iff.1 hic)
  unfold Cv
  rw [List.drop_eq_getElem_cons hc.1,hc.2]
  rfl
 rw [J1] at hrun
 simp only [dW,nD,Cr,Mb] at hrun
 have XS:=JY (b':=0) (bP:=[]) (fun t=>if t.k<c then t.k else t.k+1) hP hrun
 have hu:∀(j:Nat) u,(ts.map fun t=>({ t with k:=if t.k<c then t.k else t.k+1 }:TR))[j]?=some u->u.k=(if j<c then j else j+1)/\is[u.k]?=some u.it/\u.k<e/\Pu u:=fun j u hu=>by
  rw [List.getElem?_map] at hu
  cases ht:ts[j]? with
  |none=>rw [ht] at hu;cases hu
  |some t =>
   rw [ht] at hu;cases hu
   obtain ⟨e1,e2,e3⟩:=htj j t ht
   have hp:=hP t (List.mem_of_getElem? ht)
   refine ⟨by simp only [e1],?_,?_,⟨hp.rd,hp.up,hp.it⟩⟩
   ·simp only [e1]
    split
    ·rename_i h;rw [<-hH1 j h];exact e2
    ·rename_i h;rw [<-hH2 j (by omega) (by omega)];exact e2
   ·simp only [e1];split<;>omega
 generalize Hw:(ts.map fun t=>({ t with k:=if t.k<c then t.k else t.k+1 }:TR))=us at XS hu
 have hul:us.length=e - 1:=by rw [<-Hw,List.length_map,htl]
 have hsplit:us.take c++us.drop c=us:=List.take_append_drop ..
 have hpu:∀t∈us.take c++us.drop c,Pu t:=fun t ht=>by
  rw [hsplit] at ht
  obtain ⟨j,hj⟩:=List.getElem?_of_mem ht
  exact (hu j t hj).2.2.2
 have hRl:(us.take c++(⟨c,.call d none (.c (.fn fid fs cs)) as tys,.skip,[]⟩:TR)::us.drop c).length=e:=by simp;omega
 have hRj:∀(j:Nat) u,(us.take c++(⟨c,.call d none (.c (.fn fid fs cs)) as tys,.skip,[]⟩:TR)::us.drop c)[j]?=some u->u.k=j/\is[j]?=some u.it/\j<e/\u.rd=[]/\u.ac.qe=[]:=fun j u h=>by
  have hje:j<e:=by rw [<-hRl];exact (List.getElem?_eq_some_iff.1 h).1
  rcases Nat.lt_trichotomy j c with hj|hj|hj
  ·rw [List.getElem?_append_left (by simp; omega), List.getElem?_take_of_lt hj] at h
   obtain ⟨e1,e2,e3,e4⟩:=hu j u h
   rw [if_pos hj] at e1
   exact ⟨e1,by rw [<-e1];exact e2,hje,e4.rd,e4.up⟩
  ·subst hj
   rw [List.getElem?_append_right (by simp;omega),List.length_take,Nat.min_eq_left (by omega),Nat.sub_self] at h
   cases h
   exact ⟨rfl,hic,hje,rfl,rfl⟩
  ·rw [List.getElem?_append_right (by simp; omega), List.length_take, Nat.min_eq_left (by omega), show j - c = (j - c - 1) + 1 by omega, List.getElem?_cons_succ, List.getElem?_drop, show c + (j - c - 1) = j - 1 by omega] at h
   obtain ⟨e1,e2,e3,e4⟩:=hu (j - 1) u h
   rw [if_neg (by omega)] at e1
   have:u.k=j:=by omega
   exact ⟨this,by rw [<-this];exact e2,hje,e4.rd,e4.up⟩
 have ZI:de P N ops (ops.toList.drop e)=some (is.drop e):=vO jr
 have main:∀{ι2:aj} {H2:aF},dU P N Y ι2 μ ⟨S.env,H2,S.ms⟩ a { w with drawn:=w.drawn+1 } ->
   jR (eL P N out base) 0 us S.env [] (fun e' _=>sv (eL P N out base) d (.c (.fn fid fs cs)) as tys ⟨e',H2,S.ms⟩ fun S=>dW (eL P N out base) (is.drop e) S K) ->
   wpAnyIn Y.F 0 P .any ops (Post P N Y fun e S=>match e with | .normal=>K S|_=>False) ops.size (Array.replicate ops.size false) a { w with drawn:=w.drawn+1 }:=by
  intro ι2 H2 mH hr
  refine Pe (out:=out) (base:=base) (m:=e) (c:=⟨c,.call d none (.c (.fn fid fs cs)) as tys,.skip,[]⟩) (La:=us.take c) (Lb:=us.drop c) (G:=fun env H=>dW (eL P N out base) (is.drop e) ⟨env,H,S.ms⟩ K) (ms:=S.ms) hord jr dw b7 (fun ι' μ' env H a' w' fO ⟨e0,q1,q2⟩=>?_) rfl (fun k hk hck=>(hall k hk (by simp at hck;omega)).2) (H:=H2) ops.size ?_ ?_ hpu ?_ mH
  ·have hR0 : dU P N Y ι' μ' ⟨e0, H, S.ms⟩ a' w' := ⟨fun t => by rw [q1 t]; exact fO.env t, fO.sz, fO.inv, fO.ms⟩
   have h:=sH (Y:=Y) (os:=ops.toList.drop e) (Q:=Post P N Y fun e S=>match e with | .normal=>K S|_=>False) (K:=K) (out:=out) (base:=base) (fun ι μ S a w hR hK=>Post.of (e':=.normal) hR rfl hK) (k:=e) ZI (fun j=>by
    rw [List.getElem?_drop];simp) hR0 q2
   rwa [List.length_drop,Array.length_toList] at h
  ·rw [hRl];omega
  ·refine ⟨by simp, fun t ht => ?_, fun i hi SV => ?_, ?_, ?_, fun i hi => ?_, by omega, fun i hi hi2 => by simp [hi2]⟩
   ·obtain ⟨j, hj⟩ := List.getElem?_of_mem ht
    obtain ⟨e1,e2,e3,_⟩:=hRj j t hj
    rw [e1]
    exact ⟨e3,e2,by simp [show j<ops.size by omega]⟩
   ·have hi' := hi
    rw [<-hRl] at hi'
    exact ⟨_,List.getElem_mem hi',(hRj i _ (List.getElem?_eq_getElem hi')).1⟩
   ·rw [List.pairwise_iff_getElem]
    intro i j hi hj hij
    rw [(hRj i _ (List.getElem?_eq_getElem hi)).1,(hRj j _ (List.getElem?_eq_getElem hj)).1]
    exact hij
   ·refine List.pairwise_of_forall_mem_list fun x hx y hy => .inr ?_
    obtain ⟨i,hi⟩:=List.getElem?_of_mem hx
    obtain ⟨j,hj⟩:=List.getElem?_of_mem hy
    have hx':=(hRj i x hi).2.2.2
    have hy':=(hRj j y hj).2.2.2
    refine ⟨fun id hid=>?_,fun id hid=>?_⟩
    ·unfold TR.wr at hid;rw [hx'.2] at hid;cases hid
    ·unfold TR.wr at hid;rw [hy'.2] at hid;cases hid
   ·exfalso
    rcases Nat.lt_or_ge i ops.size with h|h<;>simp [h] at hi
  ·rw [hsplit]
   exact uO (fun e' _ h=>⟨e',fun _=>rfl,h⟩) hr
 have hI:=(hR.inv.qg (n:=S.H.next+(jv is c e).length) (by omega)).drawn
 rcases JZ XS with h|⟨ids,u,mN,h⟩
 ·exact main (ι2:=ι) (H2:=⟨S.H.next+(jv is c e).length,S.H.bl⟩) ⟨hR.env,hR.sz,hI,hR.ms⟩ h
 ·have qD : dU P N Y ι μ ⟨S.env, ⟨S.H.next + (jv is c e).length, S.H.bl⟩, S.ms⟩ a { w with drawn := w.drawn + 1 } := ⟨hR.env, hR.sz, hI, hR.ms⟩
  obtain ⟨ι2,mH⟩:=qD.cl mN
  exact main mH h
theorem ig (hm:P.follows .mixedOrders=true):mw P N out base:=⟨TH hm,TI hm⟩
end
end Go.AM
end
section
namespace Go.AM
section
variable {P:Program} {N:Nat} {Y:Ctx} {ι ι':aj} {μ μ':Mu} {H:aF} {w w':World} {out:Option Nat} {base:Nat}
theorem TJ {func:Func} {fn:Fn} (htr:cM P func=some fn):OL P func.results.toList=some fn.res:=by
 unfold cM at htr
 split at htr<;>try (cases htr;done)
 split at htr<;>try (cases htr;done)
 rename_i SU
 split at htr<;>try (cases htr;done)
 cases htr;exact SU
theorem Inv.down (h:Inv P Y ι μ H w) (ro:Option Nat):Inv P ⟨Y.w0,ι,μ,ro,Y.x,[]⟩ ι μ H w :=
 ⟨h.below,aj.le_refl _,fun _ _ _ _=>rfl,h.rd,Mu.le_refl _,h.nx,h.live,h.inj,h.lt,h.dH⟩
theorem Inv.up {ro:Option Nat} {H':aF} (h0:Inv P Y ι μ H w) (h:Inv P ⟨Y.w0,ι,μ,ro,Y.x,[]⟩ ι' μ' H' w'):Inv P Y ι' μ' H' w'/\ι.le ι'/\μ.le μ' :=
 ⟨⟨h.below,aj.le_trans h0.i0 h.i0,fun b o hb hx=>(h.iB b o hb hx).trans (h0.iB b o hb hx),h.rd,Mu.le_trans h0.m0 h.m0,h.nx,h.live,h.inj,h.lt,h0.gl⟩,h.i0,h.m0⟩
theorem kR {f : Nat} {func : Func} {fn : Fn} (hf : P.funcs[f]? = some func) (htr : cM P func = some fn) (cF : Enters P f) (fW : mw P fn.N none H.next) {vs : List V} {Q : V → aF → Prop} (hlen : vs.length ≤ fn.np)
  (h:sj (eL P fn.N none H.next) fn.body ⟨args 0 vs,H,[]⟩ (CK fn.res fn.tys Q)):eW P f vs H Q:=by
 refine ⟨cF,fun Y ι μ w as hI hr=>?_⟩
 refine JP (Y:=⟨Y.w0,ι,μ,none,Y.x,[]⟩) hf htr fW hlen h rfl rfl (fun id hid=>hI.nx id hid) (hI.down none) hr fun Y1 ι' μ' S' a' w' e' hY hR hq=>?_
 have key:CK.rD fn.res fn.tys Q S'->LeavesInM Fence.wide 0 P func a'.tmps (O2 P Y ι μ Q) a'.defers .returning w':=by
  intro hs
  unfold CK.rD at hs
  split at hs<;>try (exact hs.elim)
  rename_i bl qz
  split at hs<;>try (exact hs.elim)
  rename_i vs' hvs
  refine uJ (TJ htr) (n:=S'.H.next) (bl:=S'.H.bl) hY rfl hR.inv hR.env hR.ms qz hvs fun x w2 oJ hx=>?_
  obtain ⟨h1,h2,h3⟩:=hI.up oJ
  exact ⟨x,ι',μ',_,_,rfl,h2,h3,h1,hx (hTs fn.tys),hs⟩
 cases e' with
 |exit id=>exact hq.elim
 |normal=>exact ⟨.inl rfl,key hq⟩
 |ret=>exact ⟨.inr rfl,key hq⟩
def unr (ar : Ar) (c : C) : Nat → St → (Ex → St → Prop) → Prop
 |0,_,_=>False
 |n+1,S,K=>sj ar c S fun e S'=>match e with
  | .normal=>unr ar c n S' K
  | .exit id=>K (.exit id) S'
  | .ret=>K .ret S'
theorem Pf (fW:mw P N out base) {c:C} {S:St} {K:Ex->St->Prop} {n:Nat} (h:unr (eL P N out base) c n S K):(eL P N out base).loop c S K:=by
 intro body hbody Y ι μ a w ho hb hR
 refine wpIn_loop_ghost (fun x a w=>∃Y1,Ext P Y Y1/\∃ι μ S,dU P N Y1 ι μ S a w/\unr (eL P N out base) c x S K) id (x:=n) ⟨Y,.refl Y,ι,μ,S,hR,h⟩ ?_
 rintro x a w ⟨Y0,Oi,ι,μ,S,hR,hx⟩
 cases x with
 |zero=>exact hx.elim
 |succ x =>
  refine wpIn_mono (CH (fR fW body hbody hx) Oi ho hb hR) fun e a' w' hp=>?_
  obtain ⟨Y1,hY,ι',μ',S',e',h1,h2,h3⟩:=hp
  cases e' with
  |normal=>cases h2;exact ⟨x,⟨Y1,hY,ι',μ',S',h1,h3⟩,Nat.lt_succ_self x⟩
  |exit id=>cases h2;exact ⟨Y1,hY,ι',μ',S',.exit id,h1,rfl,h3⟩
  |ret=>cases h2;exact ⟨Y1,hY,ι',μ',S',.ret,h1,rfl,h3⟩
theorem Inv.Mt {bl:ah} {n id:Nat} {L:Loc} {B:lJ} (h:Inv P Y ι μ ⟨n,bl⟩ w) (hb:av id bl=some B) (hL:μ id=some L) {o o':Obj} (ho:w.heap[L.b]?=some o) (hnc:∀c e f,o ≠ .cells c e f) (hnm:∀ms c,o ≠ .map ms c) :
  Inv P Y ι μ ⟨n,bC id bl⟩ (w.putObj L.b o'):=by
 have hold:Y.own L.b:=((h.live id _ hb).loc hL).1
 have bZ:∀k,k≠L.b->(w.putObj L.b o').heap[k]?=w.heap[k]?:=fun k hk=>World.putObj_heap_other hk
 have hsub:=h.del id
 refine ⟨⟨h.below.os, h.below.tape, h.below.output, by rw [World.putObj_size]; exact h.below.size, fun k hk hx => ?_, h.below.dr, fun k hk => (h.below.maps k hk).trans (by
   by_cases e:k=L.b
   ·subst e;exact .no (fun ms c e=>by rw [ho] at e;cases e;exact hnm _ _ rfl)
   ·exact .eq (bZ k e))⟩,h.i0,h.iB,fun b o2 x hx=>?_,h.m0,h.nx,fun i B2 hB=>?_,hsub.inj,hsub.lt,h.gl⟩
 ·rw [bZ k (Ctx.mh hold hk hx)];exact h.below.block k hk hx
 ·have := h.rd b o2 x hx
  have hne:b≠L.b:=fun e=>by
   subst e
   cases o<;>simp [World.cell?,ho] at this
   exact hnc _ _ _ rfl
  unfold World.cell? at this ⊢
  simp only at this ⊢
  rw [bZ b hne];exact this
 ·simp only at hB
  rw [bh] at hB
  split at hB
  ·cases hB
  ·rename_i e
   refine (h.live i B2 hB).mono (aj.le_refl _) (Mu.le_refl _) (fun h=>h) (fun L' hL'=>bZ _ (fun e'=>e (h.inj i id B2 _ L' L hB hb hL' hL e'))) (fun _ _ h=>h)
def J2 (j:Option Ex) (S:St) (K:Ex->St->Prop):Prop:=match j with
 |none=>K .normal S
 |some e=>match e with
  | .normal=>False
  | .exit i=>K (.exit i) S
  | .ret=>K .ret S
def kn (id:Nat) (sh:List Nat) (S:St) (K:Ex->St->Prop) (H:aF):Prop:=match av id H.bl with
 |some (.loop st j _ _ _ _ _ _)=>match st with
  | .busy=>False
  |_=>match fk sh (bC id H.bl) with
   |some bl=>J2 j ⟨S.env,⟨H.next,bl⟩,S.ms⟩ K
   |none=>False
 |_=>False
def ZJ (ar:Ar) (N:Nat) (out:Option Nat) (f:O) (ps:List Nat) (as bd:C) (S:St) (K:Ex->St->Prop):Prop :=
 ps.all (Nat.blt · N)=true /\
 match f.ev S.env with
 | .fn fid first cap=>match out with
  | none => S.ms = [] ∧ ar.call fid (first ++ [.yl (S.H.next + 1)] ++ cap) ⟨S.H.next + 2, (S.H.next + 1, .loop .ready none S.H.next S.env ps as bd N) :: (S.H.next, .iy) :: S.H.bl⟩
    fun _ H=>kn (S.H.next+1) [S.H.next] S K H
  |some XT=>match av XT S.H.bl with
   | some (.loop _ _ d _ _ _ _ _) => ar.call fid (first ++ [.yl S.H.next] ++ cap) ⟨S.H.next + 1, (S.H.next, .loop .ready none d S.env ps as bd N) :: S.H.bl⟩
     fun _ H=>kn S.H.next [] S K H
   |_=>False
 |_=>False
theorem vQ {f:O} {ps:List Nat} {as bd:C} {S:St} {K:Ex->St->Prop} (h:ZJ (eL P N out base) N out f ps as bd S K):(eL P N out base).bK f ps as bd S K:=by
 intro fo Ev ao bo hfo hps hao hbo Y ι μ a w ho hb hR
 obtain ⟨hpN,h⟩:=h
 have rf:=aC hR.env hfo
 have hnc:∀(r:Loop) c e f,Obj.loop r ≠ .cells c e f:=fun r c e f=>by intro h;cases h
 split at h
 ·rename_i fid fs cs qd
  rw [qd] at rf
  generalize hg:a.eval fo=fv at rf
  cases rf with
  |fn _ _ _ xs ys h1 h2 h3 h4 =>
   have r1:aJ ι μ fs xs.toList:=⟨by simpa using h1,fun i v x hv hx=>h2 i v x hv (by simpa using hx)⟩
   have r2:aJ ι μ cs ys.toList:=⟨by simpa using h3,fun i v x hv hx=>h4 i v x hv (by simpa using hx)⟩
   -- behind the call
   have fin:∀{aD:Nat} {L:Loc} {sh ms':List Nat} {ds':List Deferred} {μ1:Mu},μ.le μ1->μ1 aD=some L->mo Y.hid μ1 ms' ds'->((sh=[]/\ms'=S.ms)\/∃i,sh=[i]/\ms'=[i]/\S.ms=[]/\Y.ro=none) ->
     ∀e w',O2 P Y ι μ1 (fun _ H=>kn aD sh S K H) e w' ->
     rangePost Y.F 0 P L.b (Post P N Y K) { a with defers:=ds' } e w':=fun {aD L sh ms' ds' μ1} iu hL hmk hsh e w' he=>by
    obtain ⟨v,ι',μ',r,H',rfl,hi,hm,hinv,hv,hq⟩:=he
    unfold kn at hq
    split at hq<;>try (exact hq.elim)
    rename_i st j d env' ps' as' TK N' qz
    obtain ⟨L',r',Ld,q1,q2,q3,q4,q5,q6,q7,q8,q9,q10,q11,q12,q13⟩:=hinv.live _ _ qz
    rw [hm _ _ hL] at q1;cases q1
    have hst:r'.state ≠ .busy:=by rw [q4];cases st<;>simp [stR] at hq ⊢
    have hinv':=hinv.Mt (o':=.loop { r' with state:=.exhausted }) qz (hm _ _ hL) q3 (hnc r') (fun _ _ e=>by cases e)
    have XU:dU P N Y ι' μ' ⟨S.env,⟨H'.next,bC aD H'.bl⟩,ms'⟩ { a with defers:=ds' } (w'.putObj L.b (.loop { r' with state:=.exhausted })) :=
     ⟨hR.env.mono hi (Mu.le_trans iu hm),hR.sz,hinv',hmk.mono hm⟩
    have hq1:∃bl,fk sh (bC aD H'.bl)=some bl/\J2 j ⟨S.env,⟨H'.next,bl⟩,S.ms⟩ K:=by
     cases hsh2:fk sh (bC aD H'.bl) with
     |none=>rw [hsh2] at hq;cases st<;>exact hq.elim
     |some bl=>rw [hsh2] at hq;exact ⟨bl,rfl,by cases st<;>first|exact hq.elim|exact hq⟩
    obtain ⟨bl,Pg,ZK⟩:=hq1
    obtain ⟨Y1,Ph,mQ⟩:∃Y1,Ext P Y Y1/\dU P N Y1 ι' μ' ⟨S.env,⟨H'.next,bl⟩,S.ms⟩ { a with defers:=ds' } (w'.putObj L.b (.loop { r' with state:=.exhausted })):=by
     rcases hsh with ⟨rfl,rfl⟩|⟨i,rfl,rfl,hS,hro⟩
     ·cases Pg;exact ⟨Y,.refl Y,XU⟩
     ·simp only [fk] at Pg
      split at Pg<;>try (cases Pg;done)
      rename_i hb
      cases Pg
      rw [hS]
      exact XU.wH rfl hb hro
    have hend:=run_endLoop (P:=P) q3 hst
    generalize w'.putObj L.b (.loop { r' with state:=.exhausted })=w4 at mQ hend
    refine ⟨r'.pending,w4,hend,?_⟩
    unfold J2 at ZK
    cases j with
    |none=>simp only [EO] at q5;rw [q5];exact .of1 (e':=.normal) Ph mQ rfl ZK
    |some e =>
     cases e with
     |normal=>exact ZK.elim
     |exit i=>simp only [EO] at q5;rw [q5];exact wpIn_exit (.of1 (e':=.exit i) Ph mQ rfl ZK)
     |ret=>simp only [EO] at q5;rw [q5];exact wpIn_ret (.of1 (e':=.ret) Ph mQ rfl ZK)
   have hpN':∀p∈ps,p<N:=fun p hp=>by have:=List.all_eq_true.1 hpN p hp;simpa using this
   cases out with
   |none =>
    simp only at h
    have hro:Y.ro=none:=ho
    obtain ⟨hms0,cF,eF⟩:=h
    let Ld:Loc:=⟨w.heap.size,0,0,0⟩
    let L:Loc:=⟨w.heap.size+1,0,0,0⟩
    have hn0:=hR.inv.nx S.H.next (Nat.le_refl _)
    have Aw:=Mu.gd (L:=Ld) hn0
    have Hu:=hR.inv.lay hn0 (L:=Ld) (o:=.deferred (some [])) (b:=.iy) rfl ⟨Ld,by simp [Mu.set],.inl hR.inv.below.size,by show (w.heap.push _)[w.heap.size]?=_;simp⟩
    have Mv:(w.alloc (.deferred (some []))).heap.size=w.heap.size+1:=World.size_alloc _ _
    have SR:(μ.set S.H.next Ld) (S.H.next+1)=none:=by simp only [Mu.set];rw [if_neg (by omega)];exact hR.inv.nx _ (by omega)
    have hle1:=Mu.gd (L:=L) SR
    have Ig : ∀ fn : Nat, Inv P Y ι ((μ.set S.H.next Ld).set (S.H.next + 1) L) ⟨S.H.next + 2, (S.H.next + 1, .loop .ready none S.H.next S.env ps as bd N) :: (S.H.next, .iy) :: S.H.bl⟩
      ((w.alloc (.deferred (some []))).alloc (.loop { state:=.ready,pending:=none,fn:=fn,tmps:=a.tmps,params:=Ev,assign:=ao,body:=bo,defers:=w.heap.size })):=fun fn=>by
     have oJ := Hu.lay SR (L := L) (o := .loop { state := .ready, pending := none, fn := fn, tmps := a.tmps, params := Ev, assign := ao, body := bo, defers := w.heap.size })
      (b:=.loop .ready none S.H.next S.env ps as bd N) (by simp [L,Mv]) ⟨L,{ state:=.ready,pending:=none,fn:=fn,tmps:=a.tmps,params:=Ev,assign:=ao,body:=bo,defers:=w.heap.size },Ld,by simp [Mu.set],.inl (by have:=hR.inv.below.size;simp only [L];omega),by
       have:=World.alloc_heap_new (w.alloc (.deferred (some []))) (.loop { state:=.ready,pending:=none,fn:=fn,tmps:=a.tmps,params:=Ev,assign:=ao,body:=bo,defers:=w.heap.size })
       rw [Mv] at this;exact this,rfl,rfl,hR.env.mono (aj.le_refl _) (Mu.le_trans Aw hle1),hps,hR.sz,hpN',hao,hbo,by simp [Mu.set],rfl⟩
     refine oJ.congr (fun id=>?_) (by simp only;omega)
     rw [aG,bA]
     by_cases e:S.H.next+1=id
     ·subst e;simp
     ·rw [if_neg e, if_neg (fun e' => e e'.symm), aG, bA]
      by_cases e2:S.H.next=id
      ·subst e2;simp
      ·rw [if_neg e2,if_neg (fun e'=>e2 e'.symm)]
    have Ay:=Mu.le_trans Aw hle1
    have hLd:((μ.set S.H.next Ld).set (S.H.next+1) L) S.H.next=some Ld:=by simp [Mu.set]
    have hL:((μ.set S.H.next Ld).set (S.H.next+1) L) (S.H.next+1)=some L:=by simp [Mu.set]
    refine wpIn_rangeFunc fun fn _=>?_
    have Fm:=Ig fn
    obtain ⟨W,hW⟩:∃W,W=(w.alloc (.deferred (some []))).alloc (.loop { state:=.ready,pending:=none,fn:=fn,tmps:=a.tmps,params:=Ev,assign:=ao,body:=bo,defers:=w.heap.size }):=⟨_,rfl⟩
    rw [<-hW] at Fm
    refine ⟨w.heap.size+1,[{ target:=.collected w.heap.size,args:=#[] }],W,{ target:=.fn (.func fid) ys,args:=xs++#[.func (.yield (w.heap.size+1)) #[] #[]] },W,fid,
     (xs++#[.func (.yield (w.heap.size+1)) #[] #[]])++ys,W,?_,?_,fun _ _=>trivial,?_,fun h=>by simp [Ctx.F,Fence.wide] at h,?_⟩
    ·show (Instr.enterLoop fn a.tmps Ev ao bo Y.ro).run P w = _
     rw [hro,hW];exact run_enterLoop_outer _ _ _ _ _
    ·have e1 : ∀ v, a.eval (.const v) = v := fun _ => rfl
     simp [resolve,hg,Deferred.ofValue,e1]
    ·have := cF ((xs ++ #[Value.func (Fn.yield (w.heap.size + 1)) #[] #[]]) ++ ys) W
     simpa [invoke] using this
    ·have rl:aJ ι ((μ.set S.H.next Ld).set (S.H.next+1) L) (fs++[.yl (S.H.next+1)]++cs) ((xs++#[Value.func (Fn.yield (w.heap.size+1)) #[] #[]])++ys).toList:=by
      have q1:=r1.mono (aj.le_refl _) Ay
      have q2:=r2.mono (aj.le_refl _) Ay
      have:=(q1.append (.cons (.yl _ L hL) .nil)).append q2
      simpa using this
     refine CallsIn.mono (F:=Y.F) (eF Y ι _ _ _ Fm rl) fun e w' he=>?_
     exact fin (L:=L) (aD:=S.H.next+1) (sh:=[S.H.next]) (ms':=[S.H.next]) (ds':={ target:=.collected w.heap.size,args:=#[] }::a.defers) Ay hL ⟨Ld,_,a.defers,rfl,hLd,rfl,by have:=hR.ms;rw [hms0] at this;exact this⟩ (.inr ⟨_,rfl,rfl,hms0,hro⟩) e w' he
   |some XT =>
    simp only at h
    obtain ⟨L0,hm0,hro⟩:=ho
    split at h<;>try (exact h.elim)
    rename_i st0 j0 d0 jS ps0 as0 bd0 N0 hb0
    obtain ⟨cF,eF⟩:=h
    obtain ⟨L0',r0,Ld,q1,q2,q3,q4,q5,q6,q7,q8,q9,q10,q11,q12,q13⟩:=hR.inv.live _ _ hb0
    rw [hR.inv.m0 _ _ hm0] at q1;cases q1
    let L:Loc:=⟨w.heap.size,0,0,0⟩
    have hn0:=hR.inv.nx S.H.next (Nat.le_refl _)
    have Ay:=Mu.gd (L:=L) hn0
    have Ig : ∀ fn : Nat, Inv P Y ι (μ.set S.H.next L) ⟨S.H.next + 1, (S.H.next, .loop .ready none d0 S.env ps as bd N) :: S.H.bl⟩
      (w.alloc (.loop { state:=.ready,pending:=none,fn:=fn,tmps:=a.tmps,params:=Ev,assign:=ao,body:=bo,defers:=r0.defers })):=fun fn=>by
     have oJ := hR.inv.lay hn0 (L := L) (o := .loop { state := .ready, pending := none, fn := fn, tmps := a.tmps, params := Ev, assign := ao, body := bo, defers := r0.defers })
      (b:=.loop .ready none d0 S.env ps as bd N) rfl ⟨L,{ state:=.ready,pending:=none,fn:=fn,tmps:=a.tmps,params:=Ev,assign:=ao,body:=bo,defers:=r0.defers },Ld,by simp [Mu.set],.inl hR.inv.below.size,by
       show (w.heap.push _)[w.heap.size]?=_
       simp,rfl,rfl,hR.env.mono (aj.le_refl _) Ay,hps,hR.sz,hpN',hao,hbo,Ay _ _ q12,q13⟩
     refine oJ.congr (fun id=>?_) (by simp only;omega)
     rw [aG,bA]
     by_cases e:S.H.next=id
     ·subst e;simp
     ·rw [if_neg e,if_neg (fun e'=>e e'.symm)]
    have hL:(μ.set S.H.next L) S.H.next=some L:=by simp [Mu.set]
    refine wpIn_rangeFunc fun fn _=>?_
    have Fm:=Ig fn
    obtain ⟨W,hW⟩:∃W,W=w.alloc (.loop { state:=.ready,pending:=none,fn:=fn,tmps:=a.tmps,params:=Ev,assign:=ao,body:=bo,defers:=r0.defers }):=⟨_,rfl⟩
    rw [<-hW] at Fm
    refine ⟨w.heap.size,[],W,{ target:=.fn (.func fid) ys,args:=xs++#[.func (.yield w.heap.size) #[] #[]] },W,fid,
     (xs++#[.func (.yield w.heap.size) #[] #[]])++ys,W,?_,?_,fun _ _=>trivial,?_,fun h=>by simp [Ctx.F,Fence.wide] at h,?_⟩
    ·show (Instr.enterLoop fn a.tmps Ev ao bo Y.ro).run P w = _
     rw [hro,hW];exact run_enterLoop_inner q3 _ _ _ _ _
    ·have e1 : ∀ v, a.eval (.const v) = v := fun _ => rfl
     simp [resolve,hg,Deferred.ofValue,e1]
    ·have := cF ((xs ++ #[Value.func (Fn.yield w.heap.size) #[] #[]]) ++ ys) W
     simpa [invoke] using this
    ·have rl:aJ ι (μ.set S.H.next L) (fs++[.yl S.H.next]++cs) ((xs++#[Value.func (Fn.yield w.heap.size) #[] #[]])++ys).toList:=by
      have q1:=r1.mono (aj.le_refl _) Ay
      have q2:=r2.mono (aj.le_refl _) Ay
      have:=(q1.append (.cons (.yl _ L hL) .nil)).append q2
      simpa using this
     refine CallsIn.mono (F:=Y.F) (eF Y ι _ _ _ Fm rl) fun e w' he=>?_
     exact fin (L:=L) (aD:=S.H.next) (sh:=[]) Ay hL (hR.ms.mono Ay) (.inl ⟨rfl,rfl⟩) e w' he
 ·exact h.elim
end
end Go.AM
end
section
namespace Go.AM
def vR : List Nat → List V → List (Nat × V) → List (Nat × V)
  |p::ps,v::vs,env=>vR ps vs (Cp p v env)
  |_,_,env=>env
def sQ (id:Nat) (Q:V->aF->Prop) (e:Ex) (S:St):Prop:=match av id S.H.bl with
  |some (.loop .busy _ d env ps as bd N)=>match e with
    | .normal=>Q (.tf true) ⟨S.H.next,(id,.loop .ready none d env ps as bd N)::bC id S.H.bl⟩
    | .exit i=>Q (.tf false) ⟨S.H.next,(id,.loop .done (some (.exit i)) d env ps as bd N)::bC id S.H.bl⟩
    | .ret=>Q (.tf false) ⟨S.H.next,(id,.loop .done (some .ret) d env ps as bd N)::bC id S.H.bl⟩
  |_=>False
def Ih (ar:Nat->Ar) (id:Nat) (vs:List V) (H:aF) (Q:V->aF->Prop):Prop:=match av id H.bl with
  |some (.loop .ready none d env ps as bd N)=>vs.length=ps.length/\sj (ar N) as ⟨vR ps vs env,H,[]⟩ fun e S=>match e with
    | .normal=>match av id S.H.bl with
      |some (.loop .ready none d' env' ps' as' TK N')=>sj (ar N) bd ⟨S.env,⟨S.H.next,(id,.loop .busy none d' env' ps' as' TK N')::bC id S.H.bl⟩,S.ms⟩ (sQ id Q)
      |_=>False
    |_=>False
  |_=>False
section
variable {P:Program} {N:Nat} {Y:Ctx} {ι ι':aj} {μ μ':Mu} {H:aF} {w w':World} {out:Option Nat} {base:Nat}
theorem Bp:∀{ps:List Nat} {vs:List V} {args:List Value} {env:List (Nat×V)} {tmps:Array Value},aJ ι μ vs args->(∀p∈ps,p<N)->tmps.size=N->fu ι μ env tmps ->
    fu ι μ (vR ps vs env) ((ps.zip args).foldl (fun t (p,v)=>t.setIfInBounds p v) tmps)/\((ps.zip args).foldl (fun (t:Array Value) (p,v)=>t.setIfInBounds p v) tmps).size=N
  |[],vs,args,env,tmps,hr,hp,hs,he=>by simp only [vR,List.zip_nil_left,List.foldl_nil];exact ⟨he,hs⟩
  |p::ps,[],args,env,tmps,hr,hp,hs,he=>by rw [hr.of_nil];simp only [vR,List.zip_nil_right,List.foldl_nil];exact ⟨he,hs⟩
  |p::ps,v::vs,args,env,tmps,hr,hp,hs,he=>by
    obtain ⟨x,r,rfl,h1,h2⟩:=hr.bL
    simp only [vR,List.zip_cons_cons,List.foldl_cons]
    refine Bp h2 (fun q hq=>hp q (List.mem_cons_of_mem _ hq)) (by simp [hs]) fun t=>?_
    have hd':p<N:=hp p (List.mem_cons_self ..)
    rw [mL]
    by_cases h:p=t
    · subst h
      rw [if_pos rfl]
      have:(tmps.setIfInBounds p x).getD p undef=x:=by simp [Array.getD,hs,hd']
      rw [this];exact h1
    · rw [if_neg h]
      have:(tmps.setIfInBounds p x).getD t undef=tmps.getD t undef:=by
        simp only [Array.getD_eq_getD_getElem?]
        rw [Array.getElem?_setIfInBounds_ne h]
      rw [this];exact he t
theorem Mw {id:Nat} {vs:List V} {Q:V->aF->Prop} (fW:∀N,mw P N (some id) H.next) (h:Ih (fun N=>eL P N (some id) H.next) id vs H Q):around P id vs H Q:=by
  intro Y ι μ w args L hI hr hL
  unfold Ih at h
  split at h<;>try (exact h.elim)
  rename_i d env ps as bd N hb
  obtain ⟨hlen,h⟩:=h
  obtain ⟨L',r,Ld,q1,q2,q3,q4,q5,q6,q7,q8,q9,q10,q11,q12,q13⟩:=hI.live _ _ hb
  rw [hL] at q1;cases q1
  have hnc:∀(r:Loop) c e f,Obj.loop r ≠ .cells c e f:=fun r c e f=>by intro h;cases h
  have hsize : args.size = r.params.size := by have h1 := hr.1; have h2 : r.params.toList.length = ps.length := by rw [q7]
                                               simp at h1 h2;omega
  refine ⟨r.fn,_,r.assign,r.body,w,run_yield q3 hsize,roundIn_of_wpIn trivial ?_⟩
  let Y':Ctx:=⟨Y.w0,ι,μ,some L.b,Y.x,[]⟩
  obtain ⟨he1,he2⟩:=Bp (env:=env) hr q9 q8 q6
  have hzip:(r.params.zip args).foldl (fun tmps (x:Tmp×Value)=>tmps.setIfInBounds x.1 x.2) r.tmps=(ps.zip args.toList).foldl (fun (t:Array Value) (p,v)=>t.setIfInBounds p v) r.tmps:=by
    rw [<-Array.foldl_toList,Array.toList_zip,q7]
  have hR:dU P N Y' ι μ ⟨vR ps vs env,H,[]⟩ { tmps:=(r.params.zip args).foldl (fun tmps (x:Tmp×Value)=>tmps.setIfInBounds x.1 x.2) r.tmps,defers:=[] } w :=
    ⟨by rw [hzip];exact he1,by rw [hzip];exact he2,hI.down _,rfl⟩
  have hbase:Y'.base H.next:=fun id hid=>hI.nx id hid
  have hout:kO Y' (some id):=⟨L,hL,rfl⟩
  refine wpIn_mono (fR (fW N) r.assign q10 h Y' ι μ _ w hout hbase hR) fun e a1 w1 hp=>?_
  obtain ⟨Y1,Ph,ι1,μ1,S1,e1,qD,hx1,hq1⟩:=hp
  have:=Ph.same (by simp [Y'])
  subst this
  cases e1 with
  |exit i=>exact hq1.elim
  |ret=>exact hq1.elim
  |normal =>
    cases hx1
    simp only at hq1
    split at hq1<;>try (exact hq1.elim)
    rename_i d1 env1 ps1 as1 bd1 N1 iL
    obtain ⟨L1,r1,Ld1,p1,p2,p3,p4,p5,p6,p7,p8,p9,p10,p11,p12,p13⟩:=qD.inv.live _ _ iL
    have Zz:μ1 id=some L:=qD.inv.m0 _ _ hL
    rw [Zz] at p1;cases p1
    refine ⟨_,run_beginRound p3 p4,?_⟩
    have hlt1:L.b<w1.heap.size:=(Array.getElem?_eq_some_iff.1 p3).1
    have oJ := qD.inv.JI (o' := .loop { r1 with state := .busy }) (B' := .loop .busy none d1 env1 ps1 as1 bd1 N1) iL Zz p3 (hnc _) (fun _ _ e => by cases e)
      ⟨L,{ r1 with state:=.busy },Ld1,Zz,p2,World.putObj_heap_same hlt1,rfl,p5,p6,p7,p8,p9,p10,p11,p12,p13⟩
    have mH:dU P N Y' ι1 μ1 ⟨S1.env,⟨S1.H.next,(id,.loop .busy none d1 env1 ps1 as1 bd1 N1)::bC id S1.H.bl⟩,S1.ms⟩ a1 (w1.putObj L.b (.loop { r1 with state:=.busy })):=⟨qD.env,qD.sz,oJ,qD.ms⟩
    refine wpIn_mono (fR (fW N) r.body q11 hq1 Y' ι1 μ1 _ _ hout hbase mH) fun e a3 w3 hp=>?_
    obtain ⟨Y3,hY3,ι3,μ3,S3,e3,Oj,Ez,TL⟩:=hp
    have:=hY3.same (by simp [Y'])
    subst this
    unfold sQ at TL
    split at TL<;>try (exact TL.elim)
    rename_i j3 d3 env3 ps3 as3 bd3 N3 Et
    obtain ⟨L3,r3,Ld3,s1,s2,s3,s4,s5,s6,s7,s8,s9,s10,s11,s12,s13⟩:=Oj.inv.live _ _ Et
    have hL3:μ3 id=some L:=Oj.inv.m0 _ _ hL
    rw [hL3] at s1;cases s1
    have hlt3:L.b<w3.heap.size:=(Array.getElem?_eq_some_iff.1 s3).1
    have fin:∀(jump:Option Code) (st:rz) (j:Option Ex) (v:V),stR st=(if jump.isNone then .ready else .done)->EO j jump->v = .tf jump.isNone->Q v ⟨S3.H.next,(id,.loop st j d3 env3 ps3 as3 bd3 N3)::bC id S3.H.bl⟩ ->
        ∃v w',(Instr.endRound L.b jump).run P w3 = .ok v w'/\O2 P Y ι μ Q (.returned v) w':=fun jump st j v h1 h2 h3 h4=>by
      have hI4 := Oj.inv.JI (o' := .loop { r3 with state := if jump.isNone then .ready else .done, pending := jump }) (B' := .loop st j d3 env3 ps3 as3 bd3 N3) Et hL3 s3 (hnc _) (fun _ _ e => by cases e)
        ⟨L,{ r3 with state:=if jump.isNone then .ready else .done,pending:=jump },Ld3,hL3,s2,World.putObj_heap_same hlt3,h1.symm,h2,s6,s7,s8,s9,s10,s11,s12,s13⟩
      obtain ⟨u1,u2,u3⟩:=hI.up hI4
      subst h3
      exact ⟨_,_,run_endRound jump s3,_,ι3,μ3,_,_,rfl,u2,u3,u1,.tf _,h4⟩
    cases e3 with
    |normal=>cases Ez;exact fin none .ready none _ rfl rfl rfl TL
    |exit i=>cases Ez;exact fin (some (.exit i)) .done (some (.exit i)) _ rfl rfl rfl TL
    |ret=>cases Ez;exact fin (some .ret) .done (some .ret) _ rfl rfl rfl TL
end
end Go.AM
end
section
namespace Go.AM
section
variable {c1 : Nat → List V → aF → (V → aF → Prop) → Prop} {c2 : Nat → List V → V → Prop} {c3 : C → St → (Ex → St → Prop) → Prop}
 {c4:Nat->List V->aF->(V->aF->Prop)->Prop} {c5:O->List Nat->C->C->St->(Ex->St->Prop)->Prop} {c6:C->St->(Ex->St->Prop)->Prop} {bl:ah}
theorem jT : ∀ {t : Ty} {bl : ah} {vs : List V}, bw (bn c1 c2 c3 c4 c5 c6) bl t vs = bw bW bl t vs
 | .unit,bl,vs=>by simp only [bw]
 | .prod a b,bl,vs=>by simp only [bw,jT (t:=a),jT (t:=b)]
 | .bool,_,[]=>rfl
 | .str,_,[]=>rfl
 | .int _,_,[]=>rfl
 | .list _,_,[]=>rfl
 | .cL _ _ _,_,[]=>rfl
 | .bool,_,c::cs=>by cases c<;>rfl
 | .str,_,c::cs=>by cases c<;>rfl
 | .int k,_,c::cs=>by cases c<;>rfl
 | .list t,_,c::cs=>by cases c<;>rfl
 | .cL d g t,_,c::cs=>by cases c<;>first|rfl|(simp only [bw,jT (t:=t)])
theorem sR {t : Ty} {bl : ah} : ∀ {n : Nat} {vs : List V}, mI (bn c1 c2 c3 c4 c5 c6) bl t n vs = mI bW bl t n vs
 |0,[]=>rfl
 |0,_::_=>rfl
 |n+1,vs=>by simp only [mI,jT,sR (n:=n)]
theorem CR {t : Ty} {xs : List t.den} : ∀ {n i : Nat}, EG (bn c1 c2 c3 c4 c5 c6) t xs n i = EG bW t xs n i
 |0,_=>rfl
 |n+1,i=>by simp only [EG,CR (n:=n)];rfl
theorem Fo {t:Ty} {g:Bool} {v:V}:keyOf (bn c1 c2 c3 c4 c5 c6) t g v=keyOf bW t g v:=by simp only [keyOf,jT]
theorem CS {t : Ty} : ∀ {vs : List V}, sq (bn c1 c2 c3 c4 c5 c6) bl t vs = sq bW bl t vs
 |[]=>rfl
 |v::r=>by simp only [sq,jT,CS (vs:=r)]
theorem nR : ∀ {t : Ty} {x : t.den} {p : List Bool} {vs : List V}, cU (bn c1 c2 c3 c4 c5 c6) bl t x p vs = cU bW bl t x p vs
 |t,x,[],vs=>by cases t<;>simp only [cU,jT]
 | .prod a b,x,false::p,vs=>by simp only [cU,nR (t:=a)]
 | .prod a b,x,true::p,vs=>by simp only [cU,nR (t:=b)]
 | .unit,_,_::_,_=>by simp [cU]
 | .bool,_,_::_,_=>by simp [cU]
 | .str,_,_::_,_=>by simp [cU]
 | .int _,_,_::_,_=>by simp [cU]
 | .list _,_,_::_,_=>by simp [cU]
 | .cL _ _ _,_,_::_,_=>by simp [cU]
theorem sS {t:Ty} {v:V}:elems (bn c1 c2 c3 c4 c5 c6) bl t v=elems bW bl t v:=by cases v<;>rfl
theorem yG:∀{ks:List Kd} {xs ys:List V},aL (bn c1 c2 c3 c4 c5 c6) ks xs ys=aL bW ks xs ys:=by
 intro ks
 induction ks with
 |nil=>intro xs ys;cases xs<;>cases ys<;>rfl
 |cons k ks ih =>
  intro xs ys
  cases xs with
  |nil=>cases k<;>rfl
  |cons x xs =>
   cases ys with
   |nil=>cases k<;>cases x<;>rfl
   |cons y ys=>cases k<;>cases x<;>cases y<;>first|rfl|(simp only [aL,ih];rfl)
theorem yH {mx:Bool} {k:IntKind}:∀{ys:List V} {a:Int},iV (bn c1 c2 c3 c4 c5 c6) mx k a ys=iV bW mx k a ys:=by
 intro ys
 induction ys with
 |nil=>intro a;rfl
 |cons y ys ih=>intro a;cases y<;>first|rfl|(simp only [iV,ih];rfl)
theorem Pj {e:iS} {vs:List V} {aD:Nat}:iH (bn c1 c2 c3 c4 c5 c6) e vs bl aD=iH bW e vs bl aD:=by
 cases e<;>first|rfl|(simp only [iH,sS,Fo,sR];done)|(simp only [iH,sS,Fo,sR];rfl)
theorem yI {f g : Nat → Option V} (h : ∀ n, f n = g n) : ∀ ns, Cn f ns = Cn g ns
 |[]=>rfl
 |n::r=>by simp only [Cn,h n,yI h r]
theorem TM {vs:List V} {j:Int}:OA (bn c1 c2 c3 c4 c5 c6) vs j=OA bW vs j:=rfl
theorem CT {cs : List V} : ∀ {l : List (Nat × Nat × Int)} {o : Nat}, EH (bn c1 c2 c3 c4 c5 c6) cs l o = EH bW cs l o
 |[],o=>rfl
 |(ff,len,j)::r,o=>by simp only [EH,yI (fun n=>CT (l:=r) (o:=o+n * ff)),TM]
theorem Pk {i:I} {env:List (Nat×V)} {aD:Nat}:cg (bn c1 c2 c3 c4 c5 c6) i env bl aD=cg bW i env bl aD:=by
 cases i<;>first|rfl|(simp only [cg,CS,nR,sS,yG,yH,Pj,sR,CR,CT];done)|(simp only [cg,CS,nR,sS,yG,yH,Pj,sR,CR,CT];rfl)
theorem Pm {i:I} {env:List (Nat×V)} {aD:Nat}:xK (bn c1 c2 c3 c4 c5 c6) i env bl aD=xK bW i env bl aD:=by
 cases i<;>first|rfl|(simp only [xK,nR,jT];done)|(simp only [xK,nR,jT];rfl)
theorem ZL {id:Nat}:clU (bn c1 c2 c3 c4 c5 c6) id bl=clU bW id bl:=by
 unfold clU
 split
 ·simp only [nR];rfl
 ·rfl
end
theorem Pn {c1 : Nat → List V → aF → (V → aF → Prop) → Prop} {c2 : Nat → List V → V → Prop} {c3 : C → St → (Ex → St → Prop) → Prop}
  {c4:Nat->List V->aF->(V->aF->Prop)->Prop} {c5:O->List Nat->C->C->St->(Ex->St->Prop)->Prop} {c6:C->St->(Ex->St->Prop)->Prop}:∀{ids:List Nat} {bl:ah},Of (bn c1 c2 c3 c4 c5 c6) ids bl=Of bW ids bl
 |[],_=>rfl
 |id::r,bl=>by simp only [Of,ZL,Pn (ids:=r)]
def aeC (ar:Ar) (x:O) (env:List (Nat×V)) (bl:ah) (aD:Nat):Out:=some ([],x.ev env,[])
def TN (ar:Ar) (c:O) (a:O) (b:O) (env:List (Nat×V)) (bl:ah) (aD:Nat):Out :=
  match c.ev env with
  | .tf true=>some ([],a.ev env,[])
  | .tf false=>some ([],b.ev env,[])
  | .bool c=>match Ma (a.ev env),Ma (b.ev env) with
   |some x,some y=>some ([],.bool (ar.HI c x y),[])
   |_,_=>none
  |_=>none
def Po (ar:Ar) (z:List V) (env:List (Nat×V)) (bl:ah) (aD:Nat):Out:=some ([],.ptr aD 0,[(aD,some (.cells z false))])
def ZM (ar:Ar) (x:O) (env:List (Nat×V)) (bl:ah) (aD:Nat):Out:=match (x.ev env).cells? with
  |some cs=>some ([],.ptr aD 0,[(aD,some (.cells cs false))])
  |none=>none
def Pp (ar:Ar) (z:List V) (parts:List (Nat×Nat×O)) (env:List (Nat×V)) (bl:ah) (aD:Nat):Out:=match vB parts env z with
  |some cs=>some ([],.agg cs,[])
  |none=>none
def Mx (ar:Ar) (t:Ty) (xs:List O) (env:List (Nat×V)) (bl:ah) (aD:Nat):Out:=match sq ar bl t (xs.map (·.ev env)) with
  |some (ys,u)=>some ([],.sl aD t 0 xs.length,u++[(aD,some (.arr t ys false))])
  |none=>none
def TO (ar:Ar) (agg:Bool) (k:Nat) (x:O) (env:List (Nat×V)) (bl:ah) (aD:Nat):Out :=
  match x.ev env with
  | .ptr id off=>match av id bl with
   |some (.cells cs _)=>match cut off k cs with
    |some vs=>match cE agg vs with
     |some v=>some ([],v,[])
     |none=>none
    |none=>none
   |_=>none
  | .fe cs=>match cut 0 k cs with
   |some vs=>match cE agg vs with
    |some v=>some ([],v,[])
    |none=>none
   |none=>none
  | .ep id t i p=>match av id bl with
   |some (.arr t' xs _)=>if t=t' then
     match qu t' (ar.get t'.zero xs i) p with
     |some ⟨t2,y⟩=>match cG t2 y with
      |vs=>if vs.length=k then (match cE agg vs with
       |some v=>some ([ar.Oc i (ar.len xs)],v,[])
       |none=>none) else none
     |none=>none
    else none
   |some (.ov t' xs i' p' v)=>if t=t'/\p=p'/\k=1 then (match agg with
    |false=>some ([ar.eq (Int.ofNat i) (Int.ofNat i')],v,[])
    |true=>none) else none
   |_=>none
  | .ip t y=>match cG t y with
   |vs=>if vs.length=k then (match cE agg vs with
    |some v=>some ([],v,[])
    |none=>none) else none
  | .pa id t m=>match av id bl with
   |some (.arr t' xs _)=>if t=t' then (match EG ar t' xs m 0 with
    |vs=>if vs.length=k then (match cE agg vs with
     |some v=>some ([],v,[])
     |none=>none) else none) else none
   |_=>none
  | .sp id o l=>match av id bl with
   |some (.cells cs _)=>match k with
    |1=>match EH ar cs l o with
     |some v=>match cE agg [v] with
      |some v=>some ([],v,[])
      |none=>none
     |none=>none
    |_=>none
   |_=>none
  |_=>none
def Pq (ar:Ar) (k:Nat) (a:O) (x:O) (env:List (Nat×V)) (bl:ah) (aD:Nat):Out :=
  match (x.ev env).cells? with
  |none=>none
  |some vs=>if vs.length=k then
   (match a.ev env with
   | .ptr id off=>match av id bl with
    |some (.cells cs false)=>match sr off vs cs with
     |some cs'=>some ([],.any,[(id,some (.cells cs' false))])
     |none=>none
    |_=>none
   | .ep id t i p=>match av id bl with
    |some (.arr t' xs false)=>if t=t' then
      match cU ar bl t' (ar.get t'.zero xs i) p vs with
      |some (y,u)=>match vC id u with
       |true=>some ([ar.Oc i (ar.len xs)],.any,u++[(id,some (.arr t' (ar.set xs i y) false))])
       |false=>none
      |none=>none
     else none
    |_=>none
   | .pa id t m=>match av id bl with
    |some (.arr t' xs false)=>if t=t' then
      match mI ar bl t' m vs with
      |some (ys,u)=>match vC id u with
       |true=>some ([],.any,u++[(id,some (.arr t' ys false))])
       |false=>none
      |none=>none
     else none
    |_=>none
   |_=>none) else none
def ZN (ar:Ar) (op:An) (x:O) (y:O) (env:List (Nat×V)) (bl:ah) (aD:Nat):Out :=
  match x.ev env,y.ev env with
  | .int k a,.int k' b=>match op with
   | .shl=>AX ar .shl k a b
   | .shr=>AX ar .shr k a b
   |_=>if k=k' then HL ar op k a b else none
  | .str a,.str b=>HM ar op a b
  |_,_=>none
def ZO (ar:Ar) (neg:Bool) (x:O) (y:O) (env:List (Nat×V)) (bl:ah) (aD:Nat):Out:=match Ma (x.ev env),Ma (y.ev env) with
  |some a,some b=>some ([],.bool (match neg with|true=>ar.uq (ar.beq a b)|false=>ar.beq a b),[])
  |_,_=>none
def ZP (ar:Ar) (neg:Bool) (ks:List Kd) (x:O) (y:O) (env:List (Nat×V)) (bl:ah) (aD:Nat):Out :=
  match x.ev env,y.ev env with
  | .agg xs,.agg ys=>match aL ar ks xs ys with
   |some c=>some ([],.bool (match neg with|true=>ar.uq c|false=>c),[])
   |none=>none
  |_,_=>none
def ZQ (ar:Ar) (x:O) (env:List (Nat×V)) (bl:ah) (aD:Nat):Out:=match x.ev env with
  | .int k a=>match k.signed with
   |true=>match ar.sub 0 a with|z=>some ([ar.dV k z],.int k z,[])
   |false=>some ([],.int k (ar.wr k (ar.sub 0 a)),[])
  |_=>none
def ZR (ar:Ar) (x:O) (env:List (Nat×V)) (bl:ah) (aD:Nat):Out:=match x.ev env with
  | .tf b=>some ([],.tf (!b),[])
  | .bool b=>some ([],.bool (ar.uq b),[])
  |_=>none
def TP (ar:Ar) (k:IntKind) (x:O) (env:List (Nat×V)) (bl:ah) (aD:Nat):Out:=match x.ev env with
  | .int _ n=>some ([ar.dV k n],.int k n,[])
  |_=>none
def ZS (ar:Ar) (off:Nat) (path:List Bool) (x:O) (env:List (Nat×V)) (bl:ah) (aD:Nat):Out:=match x.ev env with
  | .ptr id o=>some ([],.ptr id (o+off),[])
  | .fe cs=>if off<=cs.length then some ([],.fe (cs.drop off),[]) else none
  | .ep id t i p=>match t.si p with
   |some t1=>if t1.bJ path=off then (match t1.si path with
    |some _=>some ([],.ep id t i (p++path),[])
    |none=>none) else none
   |none=>none
  | .ip t y=>if t.bJ path=off then (match qu t y path with
   |some ⟨t2,z⟩=>some ([],.ip t2 z,[])
   |none=>none) else none
  | .pa id t m=>if (off / t.sz) * t.sz=off/\off / t.sz<m then some ([],.ep id t (off / t.sz) [],[]) else none
  | .mG t xs=>if (off / t.sz) * t.sz=off then some ([ar.Oc (off / t.sz) (ar.len xs)],.ip t (ar.get t.zero xs (off / t.sz)),[]) else none
  | .sp id o l=>some ([],.sp id (o+off) l,[])
  |_=>none
def Pr (ar:Ar) (agg:Bool) (off:Nat) (k:Nat) (x:O) (env:List (Nat×V)) (bl:ah) (aD:Nat):Out:=match x.ev env with
  | .agg cs=>match cut off k cs with
   |some vs=>match cE agg vs with
    |some v=>some ([],v,[])
    |none=>none
   |none=>none
  |_=>none
def ZT (ar:Ar) (ff:Nat) (x:O) (i:O) (env:List (Nat×V)) (bl:ah) (aD:Nat):Out :=
  match i.ev env with
  | .int _ n=>match x.ev env with
   | .sl id t lo m=>if t.sz=ff then some ([ar.eA n (Int.ofNat m)],.ep id t (ar.HJ lo (ar.ur n)) [],[]) else none
   | .fM t xs=>if t.sz=ff then some ([ar.eA n (Int.ofNat (ar.len xs))],.ip t (ar.get t.zero xs (ar.ur n)),[]) else none
   |_=>none
  |_=>none
def TQ (ar:Ar) (len:Nat) (ff:Nat) (x:O) (i:O) (env:List (Nat×V)) (bl:ah) (aD:Nat):Out :=
  match x.ev env with
  | .pa id t m=>match i.ev env with
   | .int _ j=>if t.sz=ff/\m=len then some ([ar.eA j (Int.ofNat len)],.ep id t (ar.ur j) [],[]) else none
   |_=>none
  | .mG t xs=>match i.ev env with
   | .int _ j=>if t.sz=ff then some ([ar.eA j (Int.ofNat len),ar.eA j (Int.ofNat (ar.len xs))],.ip t (ar.get t.zero xs (ar.ur j)),[]) else none
   |_=>none
  | .ptr id o=>match i.ev env with
   | .int _ j=>some ([ar.eA j (Int.ofNat len)],.sp id o [(ff,len,j)],[])
   |_=>none
  | .sp id o l=>match i.ev env with
   | .int _ j=>some ([ar.eA j (Int.ofNat len)],.sp id o ((ff,len,j)::l),[])
   |_=>none
  | .fe cs=>match i.ev env with
   | .int _ (.ofNat n)=>if n<len then (if n * ff<=cs.length then some ([],.fe (cs.drop (n * ff)),[]) else none) else none
   |_=>none
  |_=>none
def ZU (ar:Ar) (k:Nat) (x:O) (env:List (Nat×V)) (bl:ah) (aD:Nat):Out:=match x.ev env with
  | .dc vs=>match vs[k]? with
   |some v=>some ([],v,[])
   |none=>none
  |_=>none
def ZV (ar:Ar) (x:O) (env:List (Nat×V)) (bl:ah) (aD:Nat):Out:=match x.ev env with
  | .sl _ _ _ n=>some ([],.int .i64 (Int.ofNat n),[])
  | .fM _ xs=>some ([],.int .i64 (Int.ofNat (ar.len xs)),[])
  | .cw=>some ([],.int .i64 0,[])
  |_=>none
def TS (ar:Ar) (x:O) (env:List (Nat×V)) (bl:ah) (aD:Nat):Out:=match x.ev env with
  | .str s=>some ([],.int .i64 (ar.L9 s),[])
  |_=>none
def TT (ar:Ar) (n:Nat) (env:List (Nat×V)) (bl:ah) (aD:Nat):Out:=some ([],.int .i64 (Int.ofNat n),[])
def My (ar:Ar) (ff:Nat) (x:O) (y:O) (env:List (Nat×V)) (bl:ah) (aD:Nat):Out :=
  match x.ev env with
  | .cw=>match HN (y.ev env) with
   |some t=>if t.sz=ff then
     (match elems ar bl t (y.ev env) with
     |some ys=>match ar.len ys with
      |m=>some ([ar.Oc m cn],.sl aD t 0 m,[(aD,some (.arr t ys false))])
     |none=>none) else none
   |none=>none
  | .sl id t lo n=>if t.sz=ff then
   (match av id bl with
   |some (.arr t' xs false)=>if t'=t then
    (match kD t' t xs with
    |some xs'=>match elems ar bl t (y.ev env) with
     |some ys=>match ar.HJ n (ar.len ys) with
      |m=>some ([ar.Oc m cn],.sl aD t 0 m,[(id,none),(aD,some (.arr t (ar.app (ar.sub' xs' lo n) ys) false))])
     |none=>none
    |none=>none) else none
   |_=>none) else none
  |_=>none
def Ii (ar:Ar) (t:Ty) (n:O) (env:List (Nat×V)) (bl:ah) (aD:Nat):Out:=match n.ev env with
  | .int _ z=>match ar.ur z with
   |m=>some ([ar.eA z (Int.ofNat cn)],.sl aD t 0 m,[(aD,some (.arr t (ar.rep m t.zero) false))])
  |_=>none
def TU (ar:Ar) (f:Nat) (a:List O) (b:List O) (env:List (Nat×V)) (bl:ah) (aD:Nat):Out:=some ([],.fn f (a.map (·.ev env)) (b.map (·.ev env)),[])
def Pt (ar:Ar) (ff:Nat) (x:O) (lo:Option O) (hi:Option O) (mx:Option O) (env:List (Nat×V)) (bl:ah) (aD:Nat):Out :=
  match mx with
  |some m=>match hi with
   |some h=>match rA (m.ev env),rA (h.ev env),cH env 0 lo with
    |some a,some b,some c=>match x.ev env with
     | .sl _ _ _ _=>some ([ar.eq a 0,ar.eq b 0,ar.eq c 0],.cw,[])
     | .fM _ _=>some ([ar.eq a 0,ar.eq b 0,ar.eq c 0],.cw,[])
     | .cw=>some ([ar.eq a 0,ar.eq b 0,ar.eq c 0],.cw,[])
     |_=>none
    |_,_,_=>none
   |none=>none
  |none =>
   match x.ev env with
   | .sl id t l n=>if t.sz=ff then
    (match cH env 0 lo,cH env (Int.ofNat n) hi with
    |some a,some b=>some ([ar.le 0 a,ar.le a b,ar.le b (Int.ofNat n)],.sl id t (ar.HJ l (ar.ur a)) (ar.Oz (ar.ur b) (ar.ur a)),[])
    |_,_=>none) else none
   | .fM t xs=>if t.sz=ff then
    (match cH env 0 lo,cH env (Int.ofNat (ar.len xs)) hi with
    |some a,some b=>some ([ar.le 0 a,ar.le a b,ar.le b (Int.ofNat (ar.len xs))],.fM t (ar.sub' xs (ar.ur a) (ar.Oz (ar.ur b) (ar.ur a))),[])
    |_,_=>none) else none
   | .cw=>(match cH env 0 lo,cH env 0 hi with
    |some a,some b=>some ([ar.eq a 0,ar.eq b 0],.cw,[])
    |_,_=>none)
   |_=>none
def Mz (ar:Ar) (mx:Bool) (x:O) (ys:List O) (env:List (Nat×V)) (bl:ah) (aD:Nat):Out:=match x.ev env with
  | .int k a=>match iV ar mx k a (ys.map (·.ev env)) with
   |some z=>some ([],.int k z,[])
   |none=>none
  |_=>none
def XV (ar:Ar) (i:I) (env:List (Nat×V)) (bl:ah) (aD:Nat):Out:=match i with
 | .mv x=>aeC ar x env bl aD
 | .pick c a b=>TN ar c a b env bl aD
 | .alloc z=>Po ar z env bl aD
 | .box x=>ZM ar x env bl aD
 | .build z parts=>Pp ar z parts env bl aD
 | .eY t xs=>Mx ar t xs env bl aD
 | .load agg k x=>TO ar agg k x env bl aD
 | .store k a x=>Pq ar k a x env bl aD
 | .bin op x y=>ZN ar op x y env bl aD
 | .S9 neg x y=>ZO ar neg x y env bl aD
 | .eqs neg ks x y=>ZP ar neg ks x y env bl aD
 | .neg x=>ZQ ar x env bl aD
 | .not x=>ZR ar x env bl aD
 | .conv k x=>TP ar k x env bl aD
 | .lI off path x=>ZS ar off path x env bl aD
 | .field agg off k x=>Pr ar agg off k x env bl aD
 | .idx ff x i=>ZT ar ff x i env bl aD
 | .Ao len ff x i=>TQ ar len ff x i env bl aD
 | .ext k x=>ZU ar k x env bl aD
 | .len x=>ZV ar x env bl aD
 | .lens x=>TS ar x env bl aD
 | .Ap n=>TT ar n env bl aD
 | .append ff x y=>My ar ff x y env bl aD
 | .iU t n=>Ii ar t n env bl aD
 | .Ck f a b=>TU ar f a b env bl aD
 | .slice ff x lo hi mx=>Pt ar ff x lo hi mx env bl aD
 | .me mx x ys=>Mz ar mx x ys env bl aD
 | .ex e xs=>iH ar e (xs.map (·.ev env)) bl aD
theorem Pv {ar:Ar} {i:I} {env:List (Nat×V)} {bl:ah} {aD:Nat}:XV ar i env bl aD=cg ar i env bl aD:=by cases i<;>rfl
section
variable {P:Program} {N:Nat} {Y:Ctx} {ι ι':aj} {μ μ':Mu} {H:aF} {w w':World} {out:Option Nat} {base:Nat}
theorem CU {ar : Ar} {d : Option Nat} {i : I} {S : St} {K : St → Prop} {ob : List Bool} {v : V} {u : eZ} (ag : cg ar i S.env S.H.bl S.H.next = some (ob, v, u)) (cV : wD ob)
  (hk:K ⟨put d v S.env,⟨Og i.lays S.H.next,bF u S.H.bl⟩,S.ms⟩):wpOp ar d i S K:=by
 refine .inl ?_
 unfold su
 rw [ag]
 cases ob with
 |nil=>exact hk
 |cons b r=>exact ⟨cV,hk⟩
theorem ZW {ar : Ar} {d : Option Nat} {i : I} {S : St} {K : St → Prop} {ob : List Bool} {v : V} {u : eZ} (ag : xK ar i S.env S.H.bl S.H.next = some (ob, v, u)) (cV : wD ob)
  (hk:K ⟨put d v S.env,⟨Og i.lays S.H.next,bF u S.H.bl⟩,S.ms⟩):wpOp ar d i S K:=by
 refine .inr (.inl ?_)
 unfold su
 rw [ag]
 cases ob with
 |nil=>exact hk
 |cons b r=>exact ⟨cV,hk⟩
theorem ZX {ar : Ar} {d : Option Nat} {i : I} {S : St} {K : St → Prop} {ob : List Bool} {v : V} {u u' : eZ} {ids : List Nat} (hu : Of ar ids S.H.bl = some u') (ag : cg ar i S.env (bF u' S.H.bl) S.H.next = some (ob, v, u)) (cV : wD ob)
  (hk:K ⟨put d v S.env,⟨Og i.lays S.H.next,bF u (bF u' S.H.bl)⟩,S.ms⟩):wpOp ar d i S K:=by
 refine .inr (.inr ⟨ids,u',hu,?_⟩)
 unfold su
 rw [ag]
 cases ob with
 |nil=>exact hk
 |cons b r=>exact ⟨cV,hk⟩
end
end Go.AM
end
section
namespace Go.AM
open Go.RowKit
def kU (P : Program) (g : TypeId → Ty → Bool) : Nat → List Field → Ty → Bool
 |_,[],.unit=>true
 |off,[f],ty=>Nat.beq f.offset off&&Nat.beq (P.cellsOf f.type) ty.sz&&g f.type ty
 |off,f::f2::r,.prod a b=>Nat.beq f.offset off&&Nat.beq (P.cellsOf f.type) a.sz&&g f.type a&&kU P g (off+a.sz) (f2::r) b
 |_,_,_=>false
def Bq (P:Program) (g:TypeId->Ty->Bool) (fs:List Field) (ty:Ty):Bool:=match fs with
 |[f]=>match ty with
  | .prod a .unit=>kU P g 0 [f] a
  |_=>false
 |fs=>kU P g 0 fs ty
def Bs (P : Program) (g : TypeId → Ty → Bool) : Nat → TypeId → Ty → Bool
 |0,_,.unit=>true
 |1,e,ty=>Nat.beq (P.cellsOf e) ty.sz&&g e ty
 |n+2,e,.prod a b=>Nat.beq (P.cellsOf e) a.sz&&g e a&&Bs P g (n+1) e b
 |_,_,_=>false
def gq (P : Program) : Nat → TypeId → Ty → Bool
 |0,_,_=>false
 |n+1,t,ty=>match P.underlying t with
  |some .bool=>match ty with | .bool=>true|_=>false
  |some (.int k)=>match ty with | .int k'=>decide (k=k')|_=>false
  |some .string=>match ty with | .str=>true|_=>false
  |some (.slice e)=>match ty with | .list te=>Nat.beq (P.cellsOf e) te.sz&&Nat.blt 0 te.sz&&gq P n e te|_=>false
  |some (.struct fs)=>Nat.beq (P.cellsOf t) ty.sz&&Bq P (gq P n) fs.toList ty
  |some (.array m e)=>Nat.beq (P.cellsOf t) ty.sz&&Bs P (gq P n) m e ty
  |_=>false
def Wf : (t : Ty) → t.den → Prop
 | .unit,_=>True
 | .bool,_=>True
 | .str,s=>s.size<=maxLen
 | .int k,n=>k.min<=n/\n<=k.max
 | .list t,xs=>xs.length<=maxLen/\∀x∈xs,Wf t x
 | .prod a b,x=>Wf a x.1/\Wf b x.2
 | .cL _ _ a,x=>Wf a x
def jL (w:World):aj:=fun b o=>w.cell? ⟨b,o,none⟩
section
variable {H:Type} {enc:TypeId×Value->H} {P:Program} {w:World} {sp:Nat->Bool} {held:Bool}
theorem CV {b o:Nat} {a:Addr} {n:Nat} {cs:List Value} (ha:a=⟨b,o,none⟩\/0<n) (hb:a.block=b) (ho:a.off=o) (h:w.cells? 0 a n=some cs):cs.length=n/\Reads (jL w) b o cs/\(0<n->a.spot=none):=by
 unfold World.cells? at h
 rw [if_pos (Nat.zero_le _)] at h
 have key:∀(m:Nat) (xs:List Nat) (cs:List Value),xs.mapM (fun i=>w.cell? (a.add i))=some cs->cs.length=xs.length/\∀(j i:Nat),xs[j]?=some i->w.cell? (a.add i)=cs[j]?:=by
  intro m xs
  induction xs with
  |nil=>intro cs h;simp at h;subst h;exact ⟨rfl,fun j i hj=>by simp at hj⟩
  |cons x xs ih =>
   intro cs h
   rw [List.mapM_cons] at h
   cases hx:w.cell? (a.add x) with
   |none=>simp [hx] at h
   |some v =>
    cases hr:xs.mapM (fun i=>w.cell? (a.add i)) with
    |none=>simp [hx,hr] at h
    |some vs =>
     simp [hx,hr] at h
     subst h
     obtain ⟨h1,h2⟩:=ih vs hr
     refine ⟨by simp [h1],fun j i hj=>?_⟩
     cases j with
     |zero=>simp at hj;subst hj;simpa using hx
     |succ j=>simpa using h2 j i (by simpa using hj)
 obtain ⟨h1,h2⟩:=key 0 _ _ h
 have hlen:cs.length=n:=by simpa using h1
 have Pw:0<n->a.spot=none:=fun hn=>by
  have:=h2 0 0 (by simp [hn])
  simp only [Addr.add,if_true] at this
  have hc:∃v,w.cell? a=some v:=⟨cs[0]'(by omega),by rw [this];simp⟩
  obtain ⟨v,hv⟩:=hc
  unfold World.cell? at hv
  cases hs:a.spot with
  |none=>rfl
  |some s=>rw [hs] at hv;split at hv<;>simp at hv
 refine ⟨hlen,fun j v hv=>?_,Pw⟩
 have hj:j<cs.length:=(List.getElem?_eq_some_iff.1 hv).1
 have:=h2 j j (by rw [List.getElem?_range (by omega)])
 rw [hv] at this
 unfold jL
 have e:a.add j=⟨b,o+j,none⟩:=by
  have hs:=Pw (by omega)
  unfold Addr.add
  subst hb;subst ho
  split
  ·rename_i h0;subst h0;cases a;simp_all
  ·rfl
 rw [e] at this
 exact this
theorem J3 {α : Type} {D : α → List Value → Prop} : ∀ (n : Nat) (f : Nat → α) (g : Nat → List Value), (∀ i, i < n → D (f i) (g i)) → bx D ((List.range n).map f) ((List.range n).flatMap g)
 |0,_,_,_=>rfl
 |n+1,f,g,h=>by
  rw [List.range_succ,List.map_append,List.flatMap_append]
  exact (J3 n f g fun i hi=>h i (by omega)).append ⟨g n,[],by simp,h n (by omega),rfl⟩
theorem TV {k:IntKind} {n:Int} (h:(Lit.int k n).wf=true):k.min<=n/\n<=k.max:=by
 simpa [Lit.wf] using h
theorem rI {n : Nat} (ih : ∀ {t : TypeId} {ty : Ty}, gq P n t ty = true → ∀ {fuel : Nat} {cs : List Value} {x : DataW H × List MemPlace}, DataW.trod enc P w 0 sp held fuel t cs = some x → ∃ y : ty.den, af (jL w) ty y cs ∧ Wf ty y)
  {fuel:Nat} {cs:List Value}:∀{fs:List Field} {off:Nat} {ty:Ty},kU P (gq P n) off fs ty=true->cs.length=off+ty.sz ->
   (∀f∈fs,∃x,DataW.trod enc P w 0 sp held fuel f.type ((cs.drop f.offset).take (P.cellsOf f.type))=some x)->∃y:ty.den,af (jL w) ty y (cs.drop off)/\Wf ty y
 |[],off,ty,h,hl,_=>by
  cases ty<;>simp [kU] at h
  exact ⟨(),by simp [af];simp [Ty.sz] at hl;omega,trivial⟩
 |[f],off,ty,h,hl,hf=>by
  have h':(Nat.beq f.offset off&&Nat.beq (P.cellsOf f.type) ty.sz&&gq P n f.type ty)=true:=by
   cases ty<;>simpa [kU] using h
  simp only [Bool.and_eq_true] at h'
  obtain ⟨⟨h1,h2⟩,h3⟩:=h'
  have e1:=Nat.eq_of_beq_eq_true h1
  have e2:=Nat.eq_of_beq_eq_true h2
  obtain ⟨x,hx⟩:=hf f (List.mem_singleton_self _)
  rw [e1,e2,List.take_of_length_le (by simp;omega)] at hx
  exact ih h3 hx
 |f::f2::r,off,ty,h,hl,hf=>by
  cases ty<;>simp only [kU,Bool.false_eq_true] at h
  rename_i a b
  simp only [Bool.and_eq_true] at h
  obtain ⟨⟨⟨h1,h2⟩,h3⟩,h4⟩:=h
  have e1:=Nat.eq_of_beq_eq_true h1
  have e2:=Nat.eq_of_beq_eq_true h2
  obtain ⟨x,hx⟩:=hf f (List.mem_cons_self ..)
  rw [e1,e2] at hx
  obtain ⟨y,hy,wy⟩:=ih h3 hx
  simp only [Ty.sz] at hl
  obtain ⟨z,hz,wz⟩:=rI ih h4 (by omega) (fun g hg=>hf g (List.mem_cons_of_mem _ hg))
  refine ⟨(y,z),⟨_,_,?_,hy,hz⟩,wy,wz⟩
  rw [<-List.drop_drop,List.take_append_drop]
theorem J4 {n : Nat} (ih : ∀ {t : TypeId} {ty : Ty}, gq P n t ty = true → ∀ {fuel : Nat} {cs : List Value} {x : DataW H × List MemPlace}, DataW.trod enc P w 0 sp held fuel t cs = some x → ∃ y : ty.den, af (jL w) ty y cs ∧ Wf ty y)
  {fuel:Nat} {cs:List Value} {e:TypeId}:∀{m i:Nat} {ty:Ty},Bs P (gq P n) m e ty=true->cs.length=i * P.cellsOf e+ty.sz ->
   (∀j,i<=j->j<i+m->∃x,DataW.trod enc P w 0 sp held fuel e ((cs.drop (j * P.cellsOf e)).take (P.cellsOf e))=some x)->∃y:ty.den,af (jL w) ty y (cs.drop (i * P.cellsOf e))/\Wf ty y
 |0,i,ty,h,hl,_=>by
  cases ty<;>simp [Bs] at h
  exact ⟨(),by simp [af];simp [Ty.sz] at hl;omega,trivial⟩
 |1,i,ty,h,hl,hf=>by
  have h':(Nat.beq (P.cellsOf e) ty.sz&&gq P n e ty)=true:=by
   cases ty<;>simpa [Bs] using h
  simp only [Bool.and_eq_true] at h'
  have e2:=Nat.eq_of_beq_eq_true h'.1
  obtain ⟨x,hx⟩:=hf i (Nat.le_refl _) (by omega)
  rw [List.take_of_length_le (by rw [List.length_drop];omega)] at hx
  exact ih h'.2 hx
 |m+2,i,ty,h,hl,hf=>by
  cases ty<;>simp only [Bs,Bool.false_eq_true] at h
  rename_i a b
  simp only [Bool.and_eq_true] at h
  obtain ⟨⟨h1,h3⟩,h4⟩:=h
  have e2:=Nat.eq_of_beq_eq_true h1
  obtain ⟨x,hx⟩:=hf i (Nat.le_refl _) (by omega)
  obtain ⟨y,hy,wy⟩:=ih h3 hx
  simp only [Ty.sz] at hl
  obtain ⟨z,hz,wz⟩:=J4 ih h4 (i:=i+1) (by rw [Nat.add_mul];omega) (fun j h1 h2=>hf j (by omega) (by omega))
  refine ⟨(y,z),⟨_,_,?_,hy,hz⟩,wy,wz⟩
  rw [show (i+1) * P.cellsOf e=i * P.cellsOf e+P.cellsOf e by rw [Nat.add_mul];omega,<-List.drop_drop,List.take_append_drop]
theorem Px {n:Nat}:∀{t:TypeId} {ty:Ty},gq P n t ty=true->∀{fuel:Nat} {cs:List Value} {x:DataW H×List MemPlace},DataW.trod enc P w 0 sp held fuel t cs=some x->∃y:ty.den,af (jL w) ty y cs/\Wf ty y:=by
 induction n with
 |zero=>intro t ty h;cases h
 |succ n ih =>
  intro t ty h fuel cs x hx
  have hx0:=hx
  unfold gq at h
  split at h
  ·rename_i hu
   cases ty<;>simp at h
   cases fuel with
   |zero=>simp [DataW.trod] at hx
   |succ fuel =>
    rcases cs with _|⟨c,_|⟨c2,r⟩⟩
    ·simp [DataW.trod,hu] at hx
    ·cases c <;> simp [DataW.trod, hu] at hx
     exact ⟨_,rfl,trivial⟩
    ·simp [DataW.trod,hu] at hx
  ·rename_i k hu
   cases ty<;>simp at h
   subst h
   cases fuel with
   |zero=>simp [DataW.trod] at hx
   |succ fuel =>
    rcases cs with _|⟨c,_|⟨c2,r⟩⟩
    ·simp [DataW.trod,hu] at hx
    ·cases c <;> simp [DataW.trod, hu] at hx
     obtain ⟨⟨rfl,h2⟩,_⟩:=hx
     exact ⟨_,rfl,TV h2⟩
    ·simp [DataW.trod,hu] at hx
  ·rename_i hu
   cases ty<;>simp at h
   cases fuel with
   |zero=>simp [DataW.trod] at hx
   |succ fuel =>
    rcases cs with _|⟨c,_|⟨c2,r⟩⟩
    ·simp [DataW.trod,hu] at hx
    ·cases c <;> simp [DataW.trod, hu] at hx
     exact ⟨_,rfl,hx.1⟩
    ·simp [DataW.trod,hu] at hx
  ·rename_i e hu
   cases ty<;>simp only [Bool.false_eq_true] at h
   rename_i te
   simp only [Bool.and_eq_true] at h
   obtain ⟨⟨h1,h2⟩,h3⟩:=h
   have e1:=Nat.eq_of_beq_eq_true h1
   have hpos:0<te.sz:=by simpa using h2
   rcases DataW.trod_slice hu hx with ⟨rfl,rfl⟩|⟨a,len,cap,elems,rest,m,_,rfl,rfl,_,hlc,hm,hel,hE,_,_⟩
   ·exact ⟨[],⟨none,0,by simp,by simp,.inl rfl⟩,by simp,by simp⟩
   ·have each:∀i,i<len->∃(y:te.den) (us:List Value),af (jL w) te y us/\Wf te y/\us.length=te.sz/\Reads (jL w) a.block (a.off+i * te.sz) us/\(i=0->a.spot=none):=fun i hi=>by
     have:=hE i hi
     have hlt:i<elems.length:=by omega
     rw [List.getElem?_eq_getElem hlt,e1] at this
     cases hc:w.cells? 0 (a.add (i * te.sz)) te.sz with
     |none=>rw [hc] at this;simp at this
     |some us =>
      rw [hc,Option.bind_some] at this
      obtain ⟨y,hy,wy⟩:=ih h3 this
      have hb:(a.add (i * te.sz)).block=a.block:=by unfold Addr.add;split<;>rfl
      have ho:(a.add (i * te.sz)).off=a.off+i * te.sz:=by unfold Addr.add;split<;>simp_all
      obtain ⟨q1,q2,q3⟩:=CV (.inr hpos) hb ho hc
      refine ⟨y,us,hy,wy,q1,q2,fun h0=>?_⟩
      subst h0
      have:=q3 hpos
      simpa [Addr.add] using this
    by_cases hl0:len=0
    ·subst hl0
     exact ⟨[],⟨some a,cap,rfl,by simp,.inl rfl⟩,by simp,by simp⟩
    ·obtain ⟨f,hf⟩:∃f:Nat->te.den×List Value,∀i,i<len->af (jL w) te (f i).1 (f i).2/\Wf te (f i).1/\(f i).2.length=te.sz/\Reads (jL w) a.block (a.off+i * te.sz) (f i).2/\(i=0->a.spot=none) :=
      ⟨fun i=>if h:i<len then ((each i h).choose,(each i h).choose_spec.choose) else (te.zero,[]),fun i hi=>by simp only [hi,dif_pos];exact (each i hi).choose_spec.choose_spec⟩
     have Pw:=(hf 0 (by omega)).2.2.2.2 rfl
     have hrd:∀n,n<=len->((List.range n).flatMap fun i=>(f i).2).length=n * te.sz/\Reads (jL w) a.block a.off ((List.range n).flatMap fun i=>(f i).2):=fun n=>by
      induction n with
      |zero=>intro _;exact ⟨by simp,fun j v hv=>by simp at hv⟩
      |succ n ih2 =>
       intro hn
       obtain ⟨l1,l2⟩:=ih2 (by omega)
       obtain ⟨_,_,l3,l4,_⟩:=hf n (by omega)
       rw [List.range_succ,List.flatMap_append]
       simp only [List.flatMap_cons,List.flatMap_nil,List.append_nil]
       refine ⟨by rw [List.length_append,l1,l3,Nat.add_mul];simp,fun j v hv=>?_⟩
       rw [List.getElem?_append] at hv
       split at hv
       ·exact l2 j v hv
       ·rename_i hj
        have:=l4 _ _ hv
        rw [l1] at this hj
        rw [show a.off+n * te.sz+(j - n * te.sz)=a.off+j by omega] at this
        exact this
     refine ⟨(List.range len).map fun i=>(f i).1,⟨some a,cap,by simp,by simpa using hlc,.inr ⟨a.block,a.off,(List.range len).flatMap fun i=>(f i).2,by cases a;simp_all,(hrd len (Nat.le_refl _)).2,J3 _ _ _ fun i hi=>(hf i hi).1⟩⟩,by simp;omega,fun x hx=>?_⟩
     obtain ⟨i,hi,rfl⟩:=List.mem_map.1 hx
     exact (hf i (List.mem_range.1 hi)).2.1
  ·rename_i fs hu
   simp only [Bool.and_eq_true] at h
   obtain ⟨h1,h2⟩:=h
   obtain ⟨xs,m,_,_,hl,hxl,hf⟩:=DataW.trod_struct hu hx
   have hfm:∀f∈fs.toList,∃y,DataW.trod enc P w 0 sp held m f.type ((cs.drop f.offset).take (P.cellsOf f.type))=some y:=fun f hfm=>by
    obtain ⟨i,hi⟩:=List.getElem?_of_mem hfm
    have hi':fs[i]?=some f:=by simpa using hi
    have hlt:i<xs.length:=by rw [hxl];exact (Array.getElem?_eq_some_iff.1 hi').1
    exact ⟨xs[i],by rw [hf i f hi'];simp⟩
   have hlen:cs.length=ty.sz:=by rw [hl,Nat.eq_of_beq_eq_true h1]
   unfold Bq at h2
   split at h2
   ·rename_i f hfs
    split at h2<;>try (cases h2;done)
    rename_i a
    have:=rI ih (fuel:=m) (cs:=cs) h2 (by simpa [Ty.sz] using hlen) (fun f' hf'=>by rw [<-hfs] at hf';exact hfm f' hf')
    obtain ⟨y,hy,wy⟩:=this
    exact ⟨(y,()),⟨cs,[],by simp,by simpa using hy,rfl⟩,wy,trivial⟩
   ·have := rI ih (fuel := m) (cs := cs) h2 (by simpa using hlen) hfm
    simpa using this
  ·rename_i m e hu
   simp only [Bool.and_eq_true] at h
   obtain ⟨h1,h2⟩:=h
   obtain ⟨xs,k,_,_,hl,hxl,hf⟩:=DataW.trod_array hu hx
   have:=J4 ih (fuel:=k) (cs:=cs) (i:=0) h2 (by rw [hl,Nat.eq_of_beq_eq_true h1];simp) (fun j _ hj=>⟨xs[j]'(by omega),by rw [hf j (by omega)];simp⟩)
   simpa using this
  ·cases h
end
end Go.AM
end
section
namespace Go.AM
inductive EV (π : List Nat) : V → V → Prop
 |any (v):EV π .any v
 |tf (b):EV π (.tf b) (.tf b)
 |bool (b):EV π (.bool b) (.bool b)
 |tfb (b):EV π (.bool b) (.tf b)
 |int (k n):EV π (.int k n) (.int k n)
 |str (s):EV π (.str s) (.str s)
 |ga:EV π .ga .ga
 |cW:EV π .cW .cW
 |gn:EV π .gn .gn
 |fM (t xs):EV π (.fM t xs) (.fM t xs)
 |ZY (t):EV π (.fM t []) .cw
 |cw:EV π .cw .cw
 |sl (id i t lo n) (h:π[id]?=some i):EV π (.sl id t lo n) (.sl i t lo n)
 |ZZ (id t lo):EV π (.sl id t lo 0) .cw
 |ptr (id i o) (h:π[id]?=some i):EV π (.ptr id o) (.ptr i o)
 |ep (id i t j p) (h:π[id]?=some i):EV π (.ep id t j p) (.ep i t j p)
 |yl (id i) (h:π[id]?=some i):EV π (.yl id) (.yl i)
 |ip (t x):EV π (.ip t x) (.ip t x)
 |fe (cs ds) (h:cs.length=ds.length) (h2:∀(i:Nat) v u,cs[i]?=some v->ds[i]?=some u->EV π v u):EV π (.fe cs) (.fe ds)
 | fn (f as as' cs cs') (h : as.length = as'.length) (h2 : ∀ (i : Nat) v u, as[i]? = some v → as'[i]? = some u → EV π v u)
   (h3:cs.length=cs'.length) (h4:∀(i:Nat) v u,cs[i]?=some v->cs'[i]?=some u->EV π v u):EV π (.fn f as cs) (.fn f as' cs')
 |agg (cs ds) (h:cs.length=ds.length) (h2:∀(i:Nat) v u,cs[i]?=some v->ds[i]?=some u->EV π v u):EV π (.agg cs) (.agg ds)
 |dc (cs ds) (h:cs.length=ds.length) (h2:∀(i:Nat) v u,cs[i]?=some v->ds[i]?=some u->EV π v u):EV π (.dc cs) (.dc ds)
 |cL (t v u) (h:EV π v u):EV π (.cL t v) (.cL t u)
 |cb (c):EV π (.cb c) (.cb c)
 |mp (id i) (h:π[id]?=some i):EV π (.mp id) (.mp i)
 |cT:EV π .cT .cT
 |pa (id i t n) (h:π[id]?=some i):EV π (.pa id t n) (.pa i t n)
 |mG (t xs):EV π (.mG t xs) (.mG t xs)
def EA (π:List Nat) (cs ds:List V):Prop:=cs.length=ds.length/\∀(i:Nat) v u,cs[i]?=some v->ds[i]?=some u->EV π v u
theorem EA.nil {π:List Nat}:EA π [] []:=⟨rfl,fun i v u h=>by simp at h⟩
theorem EA.cons {π:List Nat} {v u:V} {cs ds:List V} (h:EV π v u) (hl:EA π cs ds):EA π (v::cs) (u::ds) :=
 ⟨by simp [hl.1],fun i w y hw hy=>by
  cases i with
  |zero=>simp at hw hy;subst hw;subst hy;exact h
  |succ i=>exact hl.2 i w y (by simpa using hw) (by simpa using hy)⟩
def EE (π:List Nat) (env' env:List (Nat×V)):Prop:=∀p∈env',EV π p.2 (get p.1 env)
def EBk (π:List Nat) (nx:Nat) (bl:ah) (id:Nat) (B:lJ):Prop:=∃i,π[id]?=some i/\match B with
 | .cells cs fz=>∃ds,av i bl=some (.cells ds fz)/\EA π cs ds
 | .arr t xs fz=>av i bl=some (.arr t xs fz)\/(xs=[]/\nx<=i)
 | .loop st j d env ps as bd N=>∃d0 jS,av i bl=some (.loop st j d0 jS ps as bd N)/\π[d]?=some d0/\EE π env jS
 | .iy=>av i bl=some .iy
 | .map kt kg vt vg es=>av i bl=some (.map kt kg vt vg es)
 | .ov t xs k p v=>∃u,av i bl=some (.ov t xs k p u)/\EV π v u
structure jw (base:Nat) (π:List Nat) (S S':St):Prop where
 pre:π.take base=List.range base
 nx:S'.H.next=π.length
 ms:S'.ms.map (fun i=>π[i]?)=S.ms.map some
 env:EE π S'.env S.env
 bl:∀p∈S'.H.bl,EBk π S.H.next S.H.bl p.1 p.2
 inj:∀p∈S'.H.bl,∀q∈S'.H.bl,π[p.1]?=π[q.1]?->p.1=q.1
section
variable {P:Program} {N:Nat} {Y:Ctx} {ι ι':aj} {μ μ':Mu} {H:aF} {w w':World} {out:Option Nat} {base:Nat} {π:List Nat}
theorem aJ.kf {cs ds:List V} {xs:List Value} (h:cs.length=ds.length) (ih:∀(i:Nat) v u,cs[i]?=some v->ds[i]?=some u->∀{x:Value},Rel ι μ u x->Rel ι (μ.kf π) v x) (hr:aJ ι μ ds xs):aJ ι (μ.kf π) cs xs :=
 ⟨h.trans hr.1,fun i v x hv hx=>by
  have hi:i<ds.length:=by have:=(List.getElem?_eq_some_iff.1 hv).1;omega
  exact ih i v ds[i] hv (by simp [hi]) (hr.2 i ds[i] x (by simp [hi]) hx)⟩
theorem EV.rel {v' v:V} (h:EV π v' v):∀{x:Value},Rel ι μ v x->Rel ι (μ.kf π) v' x:=by
 induction h with
 |any v=>intro x _;exact .any _
 |tf b=>intro x hr;cases hr;exact .tf _
 |bool b=>intro x hr;cases hr;exact .bool _
 |tfb b=>intro x hr;cases hr;exact .bool _
 |int k n=>intro x hr;cases hr;exact .int _ _
 |str s=>intro x hr;cases hr;exact .str _
 |ga=>intro x hr;cases hr;exact .ga
 |cW=>intro x hr;cases hr;exact .cW
 |gn=>intro x hr;cases hr;exact .gn
 |fM t xs=>intro x hr;cases hr with|fM _ _ _ hd=>exact .fM t xs _ hd
 |ZY t=>intro x hr;cases hr;exact .fM _ _ _ ⟨_,0,rfl,Nat.le_refl _,.inl rfl⟩
 |cw=>intro x hr;cases hr;exact .cw _
 |sl id i t lo n hi =>
  intro x hr
  cases hr with
  |sl _ _ _ _ cap L hL h1 h2 h3=>exact .sl id t lo n cap L (by simp [Mu.kf,hi,hL]) h1 h2 h3
  |bO=>exact .bO _ _ _ _
 |ZZ id t lo=>intro x hr;cases hr;exact .bO _ _ _ _
 |ptr id i o hi=>intro x hr;cases hr with|ptr _ _ L hL=>exact .ptr id o L (by simp [Mu.kf,hi,hL])
 |ep id i t j p hi=>intro x hr;cases hr with|ep _ _ _ _ L hL=>exact .ep id t j p L (by simp [Mu.kf,hi,hL])
 |yl id i hi=>intro x hr;cases hr with|yl _ L hL=>exact .yl id L (by simp [Mu.kf,hi,hL])
 |ip t y=>intro x hr;cases hr with|ip _ _ b o us h1 h2=>exact .ip t y b o us h1 h2
 |fe cs ds h h2 ih =>
  intro x hr
  cases hr with
  |fe _ b o gf h1 h3 h4 =>
   have hR:aJ ι μ ds ((List.range ds.length).map gf):=⟨by simp,fun i v x hv hx=>by
    have hi:=(List.getElem?_eq_some_iff.1 hv).1
    simp [hi] at hx;subst hx;exact h3 i v hv⟩
   have fO:=aJ.kf h ih hR
   exact .fe cs b o gf (fun i hi => h1 i (by omega)) (fun i v hv => fO.2 i v (gf i) hv (by
    have hi:=(List.getElem?_eq_some_iff.1 hv).1
    simp [show i<ds.length by omega])) h4
 |fn f as as' cs cs' h h2 h3 h4 ih1 ih2 =>
  intro x hr
  cases hr with
  |fn _ _ _ xs ys q1 q2 q3 q4 =>
   have r1:=aJ.kf h ih1 (xs:=xs.toList) ⟨by simpa using q1,fun i v x hv hx=>q2 i v x hv (by simpa using hx)⟩
   have r2:=aJ.kf h3 ih2 (xs:=ys.toList) ⟨by simpa using q3,fun i v x hv hx=>q4 i v x hv (by simpa using hx)⟩
   exact .fn f as cs xs ys (by simpa using r1.1) (fun i v x hv hx=>r1.2 i v x hv (by simpa using hx)) (by simpa using r2.1) (fun i v x hv hx=>r2.2 i v x hv (by simpa using hx))
 |agg cs ds h h2 ih =>
  intro x hr
  cases hr with
  |agg _ xs q1 q2 q3 =>
   have r1:=aJ.kf h ih (xs:=xs.toList) ⟨by simpa using q1,fun i v x hv hx=>q2 i v x hv (by simpa using hx)⟩
   exact .agg cs xs (by simpa using r1.1) (fun i v x hv hx=>r1.2 i v x hv (by simpa using hx)) q3
 |dc cs ds h h2 ih =>
  intro x hr
  cases hr with
  |dc _ xs q1 q2 =>
   have r1:=aJ.kf h ih (xs:=xs.toList) ⟨by simpa using q1,fun i v x hv hx=>q2 i v x hv (by simpa using hx)⟩
   exact .dc cs xs (by simpa using r1.1) (fun i v x hv hx=>r1.2 i v x hv (by simpa using hx))
 |cL t v u h ih=>intro x hr;cases hr with|cL _ _ x hx=>exact .cL t v x (ih hx)
 |cb c=>intro x hr;cases hr with|cb _ b hc=>exact .cb c b hc
 |mp id i hi=>intro x hr;cases hr with|mp _ L hL=>exact .mp id L (by simp [Mu.kf,hi,hL])
 |cT=>intro x hr;cases hr;exact .cT
 |pa id i t n hi=>intro x hr;cases hr with|pa _ _ _ L hL hm=>exact .pa id t n L (by simp [Mu.kf,hi,hL]) hm
 |mG t xs=>intro x hr;cases hr with|mG _ _ b o us h1 h2=>exact .mG t xs b o us h1 h2
theorem EE.rel {tmps : Array Value} {env : List (Nat × V)} (he : fu ι μ env tmps) : ∀ {env' : List (Nat × V)}, EE π env' env → fu ι (μ.kf π) env' tmps
 |[],_=>fun t=>.any _
 |(t,v)::r,h=>fun i=>by
  rw [cz];split
  ·rename_i e;subst e;exact (h _ (List.mem_cons_self ..)).rel (he _)
  ·exact EE.rel he (fun p hp=>h p (List.mem_cons_of_mem _ hp)) i
theorem dD : ∀ {bl : ah} {id : Nat} {b : lJ}, av id bl = some b → (id, b) ∈ bl
 |[],id,b,h=>by simp [av] at h
 |(s,c)::r,id,b,h=>by
  rw [bA] at h
  split at h
  ·rename_i e;subst e;cases h;exact List.mem_cons_self ..
  ·exact List.mem_cons_of_mem _ (dD h)
theorem jw.rep {S S':St} (h:jw base π S S') (hbase:Y.base base) {a:Act} (hR:dU P N Y ι μ S a w):dU P N Y ι (μ.kf π) S' a w:=by
 have hI:=hR.inv
 have hle:Y.m0.le (μ.kf π):=fun id L hL=>by
  have hlt:id<base:=by
   rcases Nat.lt_or_ge id base with h|h
   ·exact h
   ·rw [hbase id h] at hL;cases hL
  have:π[id]?=some id:=by
   have e1:(π.take base)[id]?=(List.range base)[id]?:=by rw [h.pre]
   rw [List.getElem?_take,if_pos hlt,List.getElem?_range hlt] at e1
   exact e1
  simp [Mu.kf,this,hI.m0 id L hL]
 refine ⟨h.env.rel hR.env,hR.sz,⟨hI.below,hI.i0,hI.iB,hI.rd,hle,fun id hid=>?_,fun id B hB=>?_,?_,fun id B hB=>?_,hI.gl⟩,?_⟩
 ·have : π[id]? = none := List.getElem?_eq_none (by rw [← h.nx]; exact hid)
  simp [Mu.kf,this]
 ·obtain ⟨i, e1, hb⟩ := h.bl _ (dD hB)
  have iw:(μ.kf π) id=μ i:=by simp only [Mu.kf];rw [e1];rfl
  cases B with
  |cells cs fz =>
   obtain ⟨ds,e2,ag⟩:=hb
   obtain ⟨L,vs,hM,Ol⟩:=hI.live i _ e2
   exact ⟨L,vs,⟨by rw [iw];exact hM.mu,hM.old,hM.row,hM.fits,hM.one,hM.HR,hM.sk⟩,aJ.kf ag.1 (fun i v u hv hu=>fun {x} hr=>(ag.2 i v u hv hu).rel hr) Ol⟩
  |arr t xs fz =>
   rcases hb with e2|⟨rfl,hge⟩
   ·rcases hI.live i _ e2 with ⟨e, hn⟩ | ⟨L, vs, hM, hc, hl⟩
    ·exact .inl ⟨e,by rw [iw];exact hn⟩
    ·exact .inr ⟨L,vs,⟨by rw [iw];exact hM.mu,hM.old,hM.row,hM.fits,hM.one,hM.HR,hM.sk⟩,hc,hl⟩
   ·exact .inl ⟨rfl,by rw [iw];exact hI.nx i hge⟩
  |loop st j d env ps as bd N =>
   obtain ⟨d0,jS,e2,e3,hee⟩:=hb
   obtain ⟨L,r,Ld,q1,q2,q3,q4,q5,q6,q7,q8,q9,q10,q11,q12,q13⟩:=hI.live i _ e2
   exact ⟨L,r,Ld,by rw [iw];exact q1,q2,q3,q4,q5,hee.rel q6,q7,q8,q9,q10,q11,by simp only [Mu.kf];rw [e3];exact q12,q13⟩
  |iy =>
   obtain ⟨L,q1,q2,q3⟩:=hI.live i _ hb
   exact ⟨L,by rw [iw];exact q1,q2,q3⟩
  |map kt kg vt vg es =>
   obtain ⟨L,ms,clock,dJ,q1,q2,q3⟩:=hI.live i _ hb
   exact ⟨L,ms,clock,dJ,by rw [iw];exact q1,q2,q3⟩
  |ov t xs k p v =>
   obtain ⟨u,e2,ag⟩:=hb
   obtain ⟨L,us,vs,c,hM,hc,hl,q1,q2,q3,q4⟩:=hI.live i _ e2
   exact ⟨L,us,vs,c,⟨by rw [iw];exact hM.mu,hM.old,hM.row,hM.fits,hM.one,hM.HR,hM.sk⟩,hc,hl,q1,q2,q3,ag.rel q4⟩
 ·intro id id' B B' L L' hb hb' hm hm' e
  obtain ⟨i,e1,hbk⟩:=h.bl _ (dD hb)
  obtain ⟨i',Mi,hbk'⟩:=h.bl _ (dD hb')
  simp only at e1 Mi
  have iw:(μ.kf π) id=μ i:=by simp only [Mu.kf];rw [e1];rfl
  have hmu':(μ.kf π) id'=μ i':=by simp only [Mu.kf];rw [Mi];rfl
  rw [iw] at hm;rw [hmu'] at hm'
  have live:∀{i:Nat} {B:lJ} {id:Nat} {L:Loc},EBk π S.H.next S.H.bl id B->π[id]?=some i->μ i=some L->∃C,av i S.H.bl=some C:=by
   intro i B id L hbk e hm
   obtain ⟨i2,e2,gh⟩:=hbk
   rw [e] at e2;cases e2
   cases B with
   |cells cs fz=>obtain ⟨ds,e2,_⟩:=gh;exact ⟨_,e2⟩
   |arr t xs fz =>
    rcases gh with e2|⟨_,hge⟩
    ·exact ⟨_,e2⟩
    ·rw [hI.nx i hge] at hm;cases hm
   |loop st j d env ps as bd N=>obtain ⟨d0,jS,e2,_⟩:=gh;exact ⟨_,e2⟩
   |iy=>exact ⟨_,gh⟩
   |map kt kg vt vg es=>exact ⟨_,gh⟩
   |ov t xs k p v=>obtain ⟨u,e2,_⟩:=gh;exact ⟨_,e2⟩
  obtain ⟨C,hC⟩:=live (h.bl _ (dD hb)) e1 hm
  obtain ⟨C',Tj⟩:=live (h.bl _ (dD hb')) Mi hm'
  have:=hI.inj i i' C C' L L' hC Tj hm hm' e
  subst this
  exact h.inj _ (dD hb) _ (dD hb') (e1.trans Mi.symm)
 ·obtain ⟨i, e1, _⟩ := h.bl _ (dD hB)
  have:=(List.getElem?_eq_some_iff.1 e1).1
  rw [h.nx];exact this
 ·have key:∀{ms ms':List Nat} {ds:List Deferred},ms'.map (fun i=>π[i]?)=ms.map some->mo Y.hid μ ms ds->mo Y.hid (μ.kf π) ms' ds:=by
   intro ms
   induction ms with
   |nil=>intro ms' ds e hm;cases ms'<;>simp at e;exact hm
   |cons i ms ih =>
    intro ms' ds e hm
    cases ms' with
    |nil=>simp at e
    |cons i' ms' =>
     simp only [List.map_cons,List.cons.injEq] at e
     obtain ⟨L,d,ds',q1,q2,q3,q4⟩:=hm
     exact ⟨L,d,ds',q1,by simp [Mu.kf,e.1,q2],q3,ih e.2 q4⟩
  exact key h.ms hR.ms
def jm {α β : Type} (step : α → Option (α ⊕ β)) : Nat → α → Option β
 |0,_=>none
 |n+1,x=>match step x with
  |none=>none
  |some (.inl y)=>jm step n y
  |some (.inr b)=>some b
noncomputable def iter {α β:Type} (step:α->Option (α ⊕ β)) (x:α):Option β:=by
 classical exact if h:∃n b,jm step n x=some b then some h.choose_spec.choose else none
theorem Bt {α β : Type} {step : α → Option (α ⊕ β)} : ∀ {n m : Nat} {x : α} {b c : β}, jm step n x = some b → jm step m x = some c → b = c
 |0,_,_,_,_,h,_=>by cases h
 |_+1,0,_,_,_,_,h=>by cases h
 |n+1,m+1,x,b,c,h,h'=>by
  simp only [jm] at h h'
  split at h
  ·cases h
  ·rename_i y e;rw [e] at h';exact Bt h h'
  ·rename_i b' e;rw [e] at h';cases h;cases h';rfl
theorem CW {α β:Type} {step:α->Option (α ⊕ β)} {n:Nat} {x:α} {b:β} (h:jm step n x=some b):iter step x=some b:=by
 unfold iter
 have h':∃n b,jm step n x=some b:=⟨n,b,h⟩
 rw [dif_pos h']
 exact congrArg some (Bt h'.choose_spec.choose_spec h)
theorem uQ {α β:Type} {step:α->Option (α ⊕ β)} {x:α} {b:β} (h:iter step x=some b):∃n,jm step n x=some b:=by
 unfold iter at h
 split at h
 ·rename_i h';cases h;exact ⟨_,h'.choose_spec.choose_spec⟩
 ·cases h
theorem cI {α β:Type} {step:α->Option (α ⊕ β)} {x y:α} {b:β} (h:step x=some (.inl y)) (h':iter step y=some b):iter step x=some b:=by
 obtain ⟨n,hn⟩:=uQ h'
 exact CW (n:=n+1) (by simp [jm,h,hn])
theorem cA {α β:Type} {step:α->Option (α ⊕ β)} {x:α} {b:β} (h:step x=some (.inr b)):iter step x=some b :=
 CW (n:=1) (by simp [jm,h])
theorem MA (fW : mw P N out base) {α β : Type} {I : α → St} {X : β → Ex × St} {step : α → Option (α ⊕ β)} {c : C}
  (hstep:∀x r,step x=some r->sj (eL P N out base) c (I x) fun e S'=>match r with
   | .inl y=>e = .normal/\∃π,jw base π S' (I y)
   | .inr b=>e ≠ .normal/\e=(X b).1/\∃π,jw base π S' (X b).2)
  {x:α} {b:β} (hx:iter step x=some b) {S:St} {π:List Nat} (hS:jw base π S (I x)) {K:Ex->St->Prop} (hK:K (X b).1 (X b).2):(eL P N out base).loop c S K:=by
 obtain ⟨n,hn⟩:=uQ hx
 intro body hbody Y ι μ a w ho hb hR
 refine wpIn_loop_ghost (fun (n:Nat) a w=>∃Y1,Ext P Y Y1/\∃x ι μ,dU P N Y1 ι μ (I x) a w/\jm step n x=some b) id (x:=n) ⟨Y,.refl Y,x,ι,_,hS.rep hb hR,hn⟩ ?_
 rintro n a w ⟨Y0,Oi,x,ι,μ,hR,hx⟩
 cases n with
 |zero=>cases hx
 |succ n =>
  simp only [jm] at hx
  split at hx
  ·cases hx
  ·rename_i y e
   refine wpIn_mono (CH (fR fW body hbody (hstep x _ e)) Oi ho hb hR) fun e a' w' hp=>?_
   obtain ⟨Y1,hY,ι',μ',S',e',h1,h2,rfl,π',h3⟩:=hp
   cases h2
   exact ⟨n,⟨Y1,hY,y,ι',_,h3.rep (hY.vH hb) h1,hx⟩,Nat.lt_succ_self n⟩
  ·rename_i b' e
   cases hx
   refine wpIn_mono (CH (fR fW body hbody (hstep x _ e)) Oi ho hb hR) fun e a' w' hp=>?_
   obtain ⟨Y1,hY,ι',μ',S',e',h1,h2,hne,h3,π',h4⟩:=hp
   have hp:Post P N Y K e a' w':=⟨Y1,hY,ι',_,_,_,h4.rep (hY.vH hb) h1,by rw [<-h3];exact h2,hK⟩
   cases e' with
   |normal=>exact absurd rfl hne
   |exit id=>cases h2;exact hp
   |ret=>cases h2;exact hp
end
abbrev Env:=List (Nat×V)
section
variable {P:Program} {N:Nat} {Y:Ctx} {ι ι':aj} {μ μ':Mu} {H H':aF} {w w':World} {out:Option Nat} {base:Nat}
theorem Inv.junk (h:Inv P Y ι μ H w) (o:Obj):Inv P Y ι μ H (w.alloc o):=by
 have heap:∀k,k<w.heap.size->(w.alloc o).heap[k]?=w.heap[k]?:=fun k hk=>by
  show (w.heap.push o)[k]?=_
  rw [Array.getElem?_push];split
  ·omega
  ·rfl
 refine ⟨⟨h.below.os,h.below.tape,h.below.output,by have:=h.below.size;simp;omega,fun k hk hx=>?_,h.below.dr,fun k hk=>(h.below.maps k hk).trans (.eq (heap k (Nat.lt_of_lt_of_le hk h.below.size)))⟩,h.i0,h.iB,fun b o x hx=>?_,h.m0,h.nx,fun id B hB=>?_,h.inj,h.lt,h.gl⟩
 ·have := h.below.size
  rw [heap k (by omega)];exact h.below.block k hk hx
 ·have := h.rd b o x hx
  rw [World.cell?_alloc_lt _ _ _ (World.block_lt_of_cell? _ _ this)];exact this
 ·exact (h.live id B hB).mono (aj.le_refl _) (Mu.le_refl _) (fun h=>h) (fun L' hL'=>heap _ ((h.live id B hB).loc hL').2) (fun _ _ h=>h)
theorem dZ.XW {B:Nat->Prop} {id:Nat} {b:lJ} (h:dZ P B ι μ id w b) {L:Loc} (hL:μ id=some L) {r:Nat} {m:Option Nat} {s c:Nat} {seen:Array Nat} (hr:w.heap[r]?=some (.mapIter m s seen c)):L.b≠r:=by
 intro e
 subst e
 cases b with
 |cells cs fz =>
  obtain ⟨L',vs,hM,_⟩:=h
  have:=hM.mu;rw [hL] at this;cases this
  obtain ⟨c,e,h1,_⟩:=hM.row
  rw [hr] at h1;cases h1
 |arr t xs fz =>
  rcases h with ⟨_,h⟩|⟨L',vs,hM,_⟩
  ·rw [h] at hL;cases hL
  ·have := hM.mu; rw [hL] at this; cases this
   obtain ⟨c,e,h1,_⟩:=hM.row
   rw [hr] at h1;cases h1
 |loop st j d env ps as bd N =>
  obtain ⟨L',r,Ld,h1,h2,h3,_⟩:=h
  rw [hL] at h1;cases h1
  rw [hr] at h3;cases h3
 |iy =>
  obtain ⟨L',h1,h2,h3⟩:=h
  rw [hL] at h1;cases h1
  rw [hr] at h3;cases h3
 |map kt kg vt vg es =>
  obtain ⟨L',ms,clock,dJ,h1,h2,h3,_⟩:=h
  rw [hL] at h1;cases h1
  rw [hr] at h3;cases h3
 |ov t xs i p v =>
  obtain ⟨L',us,vs,c,hM,_⟩:=h
  have:=hM.mu;rw [hL] at this;cases this
  obtain ⟨c,e,h1,_⟩:=hM.row
  rw [hr] at h1;cases h1
theorem Inv.side (h:Inv P Y ι μ H w) {r:Nat} {m:Option Nat} {s c:Nat} {seen:Array Nat} (hr:w.heap[r]?=some (.mapIter m s seen c)) (hown:Y.own r) (o:Obj):Inv P Y ι μ H (w.putObj r o):=by
 have bZ:∀k,k≠r->(w.putObj r o).heap[k]?=w.heap[k]?:=fun k hk=>World.putObj_heap_other hk
 refine ⟨⟨h.below.os,h.below.tape,h.below.output,by rw [World.putObj_size];exact h.below.size,fun k hk hx=>?_,h.below.dr,fun k hk=>(h.below.maps k hk).trans ?_⟩,h.i0,h.iB,fun b o2 x hx=>?_,h.m0,h.nx,fun i B hB=>?_,h.inj,h.lt,h.gl⟩
 ·rw [bZ k (Ctx.mh hown hk hx)];exact h.below.block k hk hx
 ·by_cases e : k = r
  ·subst e;rw [hr];exact .no fun _ _ e=>by cases e
  ·exact .eq (bZ k e)
 ·have := h.rd b o2 x hx
  have hne:b≠r:=fun e=>by subst e;simp [World.cell?,hr] at this
  unfold World.cell? at this ⊢
  simp only at this ⊢
  rw [bZ b hne];exact this
 ·exact (h.live i B hB).mono (aj.le_refl _) (Mu.le_refl _) (fun h=>h) (fun L' hL'=>bZ _ ((h.live i B hB).XW hL' hr)) (fun _ _ h=>h)
def Ctx.side (Y:Ctx) (w:World) (ι:aj) (μ:Mu) (r:Nat):Ctx:=⟨w,ι,μ,Y.ro,fun b=>Y.own b/\b≠r,Y.hid⟩
theorem Inv.into (h:Inv P Y ι μ H w) {r:Nat} {m:Option Nat} {s c:Nat} {seen:Array Nat} (hr:w.heap[r]?=some (.mapIter m s seen c)):Inv P (Y.side w ι μ r) ι μ H w :=
 ⟨JD.refl _ _,aj.le_refl _,fun _ _ _ _=>rfl,h.rd,Mu.le_refl _,h.nx,fun id B hB=>(h.live id B hB).owns fun L hL ho=>.inr ⟨ho,(h.live id B hB).XW hL hr⟩,h.inj,h.lt,h.dH⟩
theorem Inv.aeE (h:Inv P Y ι μ H w) {r:Nat} (h2:Inv P (Y.side w ι μ r) ι' μ' H' w'):Inv P Y ι' μ' H' w':=by
 have hs:=h.below.size
 have hx2:∀k,k<Y.w0.heap.size->¬Y.x k->¬(Y.side w ι μ r).x k:=fun k hk hx hX=>by
  rcases hX.1 with h|h
  ·omega
  ·exact hx h
 have b2:=h2.below
 refine ⟨⟨b2.os.trans h.below.os,b2.tape.trans h.below.tape,b2.output.trans h.below.output,Nat.le_trans hs b2.size,fun k hk hx=>?_,Nat.le_trans h.below.dr b2.dr,fun k hk=>(h.below.maps k hk).trans (b2.maps k (Nat.lt_of_lt_of_le hk hs))⟩,
  aj.le_trans h.i0 h2.i0,fun b o hb hx=>?_,h2.rd,Mu.le_trans h.m0 h2.m0,h2.nx,fun id B hB=>(h2.live id B hB).owns fun L _ ho=>?_,h2.inj,h2.lt,h.gl⟩
 ·exact (b2.block k (Nat.lt_of_lt_of_le hk hs) (hx2 k hk hx)).trans (h.below.block k hk hx)
 ·exact (h2.iB b o (Nat.lt_of_lt_of_le hb hs) (hx2 b hb hx)).trans (h.iB b o hb hx)
 ·rcases ho with ho | ho
  ·exact .inl (Nat.le_trans hs ho)
  ·exact ho.1
end
def J5 {E α β : Type} (step : E → α → Option (α ⊕ β)) : List E → α → Option (α ⊕ β)
 |[],x=>some (.inl x)
 |e::r,x=>match step e x with
  |none=>none
  |some (.inl y)=>J5 step r y
  |some (.inr b)=>some (.inr b)
def Bu {E α : Type} (step : E → α → Option α) : List E → α → Option α
 |[],x=>some x
 |e::r,x=>match step e x with
  |none=>none
  |some y=>Bu step r y
noncomputable def kV {E B:Type} (f:List E->Option B) (es:List E):Option B:=by
 classical exact if h:∃b,∀l:List E,l.Perm es->f l=some b then some h.choose else none
theorem vS {E B:Type} {f:List E->Option B} {es:List E} {b:B} (h:kV f es=some b):∀l:List E,l.Perm es->f l=some b:=by
 unfold kV at h
 split at h
 ·rename_i h';cases h;exact h'.choose_spec
 ·cases h
theorem ko {E B:Type} {f:List E->Option B} {es:List E} {b:B} (h:∀l:List E,l.Perm es->f l=some b):kV f es=some b:=by
 have h':∃b,∀l:List E,l.Perm es->f l=some b:=⟨b,h⟩
 unfold kV
 rw [dif_pos h']
 have h1:=h'.choose_spec es (.refl _)
 rw [h es (.refl _)] at h1
 exact h1.symm▸rfl
noncomputable def lU {α:Type} (a b:α):Bool:=@decide (a=b) (Classical.propDecidable _)
theorem Fp {α:Type} {a b:α} (h:lU a b=true):a=b:=by simpa [lU] using h
@[simp] theorem fG {α:Type} (a:α):lU a a=true:=by simp [lU]
def eR : List Nat → Env → Env
 |[],env=>env
 |t::r,env=>(t,.any)::eR r env
def TW (e:Option Nat) (kt:Ty) (kg:Bool) (vt:Ty) (vg:Bool) (x:kt.den×vt.den) (env:Env):Env:=match e with
 |none=>env
 |some s=>(s,.dc [cG.jc kg (cG kt x.1),cG.jc vg (cG vt x.2)])::env
section
variable {P:Program} {N:Nat} {Y:Ctx} {ι ι':aj} {μ μ':Mu} {H H':aF} {w w':World} {out:Option Nat} {base:Nat}
theorem rJ : ∀ {cl : List Nat} {env : Env} {t : Nat}, get t (eR cl env) = .any ∨ get t (eR cl env) = get t env
 |[],env,t=>.inr rfl
 |s::r,env,t=>by
  rw [eR,cz]
  split
  ·exact .inl rfl
  ·exact rJ
theorem fu.forget {env:Env} {tmps:Array Value} (h:fu ι μ env tmps) (cl:List Nat):fu ι μ (eR cl env) tmps:=fun t=>by
 rcases rJ (cl:=cl) (env:=env) (t:=t) with e|e<;>rw [e]
 ·exact .any _
 ·exact h t
theorem fu.over {env:Env} {a:Act} (h:fu ι μ env a.tmps) {d:Nat} (hd:get d env = .any) (v:Value):fu ι μ env (a.put (some d) v).tmps:=fun t=>by
 by_cases e:d=t
 ·subst e;rw [hd];exact .any _
 ·have:(a.tmps.setIfInBounds d v).getD t undef=a.tmps.getD t undef:=by
   simp only [Array.getD_eq_getD_getElem?]
   rw [Array.getElem?_setIfInBounds_ne e]
  simp only [Act.put]
  rw [this];exact h t
theorem dU.over {S:St} {a:Act} (h:dU P N Y ι μ S a w) {d:Nat} (hd:get d S.env = .any) (v:Value):dU P N Y ι μ S (a.put (some d) v) w :=
 ⟨h.env.over hd v,by simp [Act.put,h.sz],h.inv,h.ms⟩
theorem CX {a:Act} {d:Nat} {v:Value} (hd:d<a.tmps.size):(a.put (some d) v).tmps.getD d undef=v:=by simp [Act.put,Array.getD,hd]
theorem Py {a:Act} {d t:Nat} {v:Value} (h:d≠t):(a.put (some d) v).tmps.getD t undef=a.tmps.getD t undef:=by
 simp only [Act.put,Array.getD_eq_getD_getElem?]
 rw [Array.getElem?_setIfInBounds_ne h]
theorem Inv.name (h:Inv P Y ι μ H w) (L:Loc):Inv P Y ι (μ.set H.next L) ⟨H.next+1,H.bl⟩ w:=by
 have hn:=h.nx H.next (Nat.le_refl _)
 have hle:=Mu.gd (L:=L) hn
 have hne:∀id B,av id H.bl=some B->id≠H.next:=fun id B hB=>Nat.ne_of_lt (h.lt id B hB)
 refine ⟨h.below,h.i0,h.iB,h.rd,Mu.le_trans h.m0 hle,fun id hid=>?_,fun id B hB=>?_,fun id id' B B' L1 L2 h1 h2 iu hm2 e=>?_,fun id B hB=>Nat.lt_succ_of_lt (h.lt id B hB),h.gl⟩
 ·simp only at hid
  unfold Mu.set;rw [if_neg (by omega)];exact h.nx id (by omega)
 ·exact (h.live id B hB).mono (aj.le_refl _) hle (fun hm=>by unfold Mu.set;rw [if_neg (hne id B hB)];exact hm) (fun _ _=>rfl) (fun _ _ h=>h)
 ·unfold Mu.set at iu hm2
  rw [if_neg (hne id B h1)] at iu
  rw [if_neg (hne id' B' h2)] at hm2
  exact h.inj id id' B B' L1 L2 h1 h2 iu hm2 e
theorem gN {o:Oper} (h:o.guard=none) (f:Nat->Option Bool):Region.wanted o f=true:=by
 unfold Region.wanted;rw [h]
theorem Ij {a b:Code} {hd:XL} (h:xN P N a b=some hd):∃(ia:Nat) (Az:Array Oper) (o:Oper) (rr:List Oper) (t:TypeId) (x:Operand) (b3 i2:Nat) (uR:Array Oper) (o1 o2:Oper) (n ok:Nat) (y:Code),
  a = .region ia Az false/\Az.toList=rr++[o]/\o.op = .range t x/\o.dst=some hd.it/\o.guard=none/\hd.it<N/\kG P t=some (hd.kt,hd.kg,hd.vt,hd.vg)/\dI x=some hd.m/\de P N Az rr=some hd.pre /\
  b = .block hd.uj (.loop (.seq (.region i2 uR false) (.seq (.cond (.tmp ok) .skip (.exit hd.uj)) (.block b3 y))))/\uR.toList=[o1,o2]/\o1.op = .next (.tmp hd.it) false/\o1.dst=some n/\o1.guard=none /\
  o2.op = .extract (.tmp n) 0/\o2.dst=some ok/\o2.guard=none/\n<N/\ok<N/\n≠hd.it/\ok≠hd.it/\hd.cl=[n,ok]/\hd.e=uw N hd.it y:=by
 unfold xN at h
 split at h<;>try (cases h;done)
 rename_i b1 x2 t b2 b3 y
 split at h<;>try (cases h;done)
 rename_i is m it kt vt vg h1
 split at h<;>try (cases h;done)
 rename_i n ok h2
 split at h<;>try (cases h;done)
 rename_i hc
 obtain ⟨e1,e2⟩:=hc
 subst e1;subst e2
 cases h
 unfold OJ at h1
 split at h1<;>try (cases h1;done)
 rename_i ia Az
 split at h1<;>try (cases h1;done)
 rename_i o rr hrev
 split at h1<;>try (cases h1;done)
 rename_i t x hop
 split at h1<;>try (cases h1;done)
 rename_i it' TX
 split at h1<;>try (cases h1;done)
 rename_i hg
 split at h1<;>try (cases h1;done)
 rename_i Od Oe Tc m' is' E2 hx jr
 cases h1
 unfold OK at h2
 split at h2<;>try (cases h2;done)
 rename_i i2 uR
 split at h2<;>try (cases h2;done)
 rename_i o1 o2 hl
 split at h2<;>try (cases h2;done)
 rename_i i Ik
 split at h2<;>try (cases h2;done)
 rename_i n' Pz
 split at h2<;>try (cases h2;done)
 rename_i n2 MB
 split at h2<;>try (cases h2;done)
 rename_i ok' hd2
 split at h2<;>try (cases h2;done)
 rename_i HV
 obtain ⟨g1,g2,e1,e2,l1,l2,l3,l4⟩:=HV
 subst e1;subst e2
 cases h2
 have Hv:Az.toList=rr.reverse++[o]:=by
  have:=congrArg List.reverse hrev
  simpa using this
 exact ⟨ia,Az,o,rr.reverse,t,x,b3,i2,uR,o1,o2,_,_,y,rfl,Hv,hop,TX,hg.1,hg.2,E2,hx,jr,rfl,hl,Ik,Pz,g1,MB,hd2,g2,l1,l2,l3,l4,rfl,rfl⟩
end
section
variable {P:Program} {N:Nat} {Y:Ctx} {ι ι':aj} {μ μ':Mu} {H H':aF} {w w':World} {out:Option Nat} {base:Nat}
theorem TY {b1 i2 b3 ok:Nat} {uR:Array Oper} {y:Code} {cb:C} (h:fU P N (.block b1 (.loop (.seq (.region i2 uR false) (.seq (.cond (.tmp ok) .skip (.exit b1)) (.block b3 y)))))=some cb) :
  ∃cx cc cy,fU P N y=some cy/\cb = .block b1 (.loop (.seq cx (.seq cc (.block b3 cy)))):=by
 have h1:∀z,xN P N (.cond (.tmp ok) .skip (.exit b1)) z=none:=fun z=>by
  unfold xN
  split
  ·split
   ·rename_i h1;cases h1
   ·rfl
  ·rfl
 have h2:∀z u v,xN P N z (.seq u v)=none:=fun z u v=>rfl
 simp only [fU] at h
 cases hx:de P N uR uR.toList with
 |none=>simp [hx] at h
 |some is =>
  simp only [hx] at h
  cases hy:fU P N y with
  |none=>simp [hy] at h
  |some cy =>
   simp only [hy,dI,Option.map_some,h1,h2] at h
   cases h
   exact ⟨_,_,cy,rfl,rfl⟩
theorem yJ {id:Nat} {K:Ex->St->Prop} {e:Exit} {a:Act} {w:World} (hp:Post P N Y (fun e S=>match e with
  | .normal=>K .normal S
  | .exit id'=>match Nat.beq id' id with
   |true=>K .normal S
   |false=>K (.exit id') S
  | .ret=>K .ret S) e a w):Exit.inBlock id (Post P N Y K) e a w:=by
 obtain ⟨Y1,hY,ι',μ',S',e',h1,h2,h3⟩:=hp
 cases e' with
 |normal=>cases h2;exact ⟨Y1,hY,ι',μ',S',.normal,h1,rfl,h3⟩
 |exit id' =>
  cases h2
  simp only [Exit.inBlock]
  simp only at h3
  split at h3
  ·rename_i CJ
   rw [if_pos (Nat.eq_of_beq_eq_true CJ)]
   exact ⟨Y1,hY,ι',μ',S',.normal,h1,rfl,h3⟩
  ·rename_i CJ
   rw [if_neg (fun e=>by subst e;rw [Nat.beq_refl] at CJ;cases CJ)]
   exact ⟨Y1,hY,ι',μ',S',.exit id',h1,rfl,h3⟩
 |ret=>cases h2;exact ⟨Y1,hY,ι',μ',S',.ret,h1,rfl,h3⟩
theorem PA (fW : mw P N out base) {it b1 b3 : Nat} {y : Code} {cx cc cy bd : C} (MC : fU P N y = some cy) (hbd : Jz (uw N it y) (.block b1 (.loop (.seq cx (.seq cc (.block b3 cy))))) = some bd) {S0 : St} {a : Act}
  (ho:kO Y out) (hb:Y.base base) (hR:dU P N Y ι μ S0 a w) {r:Nat} (hit:a.tmps.getD it undef = .pointer (some ⟨r,0,none⟩)) {kv vv:Value} (cF:(Instr.entry (.pointer (some ⟨r,0,none⟩))).run P w = .ok (.tuple #[kv,vv]) w)
  {kt vt:Ty} {kg vg:Bool} {x:kt.den×vt.den} (hk:Rel ι μ (cG.jc kg (cG kt x.1)) kv) (hv:Rel ι μ (cG.jc vg (cG vt x.2)) vv) {Q:Ex->St->Prop}
  (h:sj (eL P N out base) bd ⟨TW (uw N it y) kt kg vt vg x S0.env,S0.H,S0.ms⟩ Q):(Code.block b3 y).wpIn Y.F 0 P (Post P N Y Q) a w:=by
 cases he:uw N it y with
 |none =>
  rw [he] at hbd h
  cases hbd
  exact fR fW (.block b3 y) (c:=.block b3 cy) (by simp [fU,MC]) h Y ι μ a w ho hb hR
 |some s =>
  rw [he] at hbd h
  unfold uw at he
  split at he<;>try (cases he;done)
  rename_i ri ops rest
  split at he<;>try (cases he;done)
  rename_i o os hl
  split at he<;>try (cases he;done)
  rename_i i hop
  split at he<;>try (cases he;done)
  rename_i s' TX
  split at he<;>try (cases he;done)
  rename_i hc
  obtain ⟨hg,hi,hs,hne⟩:=hc
  cases he
  subst hi
  -- the code
  simp only [fU] at MC
  cases jr:de P N ops ops.toList with
  |none=>simp [jr] at MC
  |some is0 =>
   simp only [jr] at MC
   cases hcr:fU P N rest with
   |none=>simp [hcr] at MC
   |some cr =>
    simp only [hcr] at MC
    split at MC
    rotate_left
    ·rename_i hd2 _
     split at MC<;>try (cases MC;done)
     cases MC
     simp [Jz] at hbd
    cases MC
    rw [hl] at jr
    unfold de at jr
    split at jr<;>try (cases jr;done)
    rename_i i0 is hi0 jr
    cases jr
    simp only [Jz] at hbd
    cases hbd
    simp only [sj] at h
    refine wpIn_block (wpIn_mono ?_ fun e a w hp=>yJ hp)
    refine wpIn_seq (wpIn_region ?_)
    have hsz:ops.size=os.length+1:=by rw [<-Array.length_toList,hl];rfl
    rw [List.range_eq_range',hsz,List.range'_succ]
    have ho0:ops[0]?=some o:=by rw [<-Array.getElem?_toList,hl];rfl
    have ag:a.eval (.tmp i) = .pointer (some ⟨r,0,none⟩):=hit
    have hN:sy N o.dst=true:=by rw [TX];simpa [sy] using hs
    refine vJ (x := .tuple #[kv, vv]) (w' := w) (fun _ => trivial) rfl ho0 (gN hg _) (by rw [hop]; intro c; simp) (.inl (by
     unfold execOp;rw [hop];simp only [ag,Sem.run_bind,cF];rfl)) ?_
    have mH:dU P N Y ι μ ⟨TW (some s) kt kg vt vg x S0.env,S0.H,S0.ms⟩ (a.put o.dst (.tuple #[kv,vv])) w:=by
     have := hR.put hN (aj.le_refl _) (Mu.le_refl _) hR.inv (v := .dc [cG.jc kg (cG kt x.1), cG.jc vg (cG vt x.2)]) (x := .tuple #[kv, vv])
      (.dc _ _ rfl (fun i v x rE hx=>by
       match i with
       |0=>simp at rE hx;subst rE;subst hx;exact hk
       |1=>simp at rE hx;subst rE;subst hx;exact hv
       |i+2=>simp at rE))
     rw [TX] at this ⊢
     exact this
    exact sH (Y:=Y) (out:=out) (base:=base) (k:=1) (Q:=Exit.then (rest.wpIn Y.F 0 P _) _) (fun ι μ S a w hR hK=>fR fW rest hcr hK Y ι μ a w ho hb hR) jr (fun j=>by rw [<-Array.getElem?_toList,hl,Nat.add_comm];simp) mH h
end
section
variable {P:Program} {N:Nat} {Y:Ctx} {ι ι':aj} {μ μ':Mu} {H H':aF} {w w':World} {out:Option Nat} {base:Nat}
theorem fC.at {kt vt : Ty} {kg vg : Bool} : ∀ {es : List (kt.den × vt.den)} {ms : List MapEntry}, fC ι kt kg vt vg es ms → ∀ {i : Nat} {m : MapEntry}, ms[i]? = some m → ∃ e, es[i]? = some e ∧ gp ι kg kt e.1 m.key ∧ gp ι vg vt e.2 m.val
 |[],_,h,i,m,hm=>by simp [fC] at h;subst h;simp at hm
 |e::es,_,⟨m0,r,rfl,h1,h2,h3⟩,i,m,hm=>by
  cases i with
  |zero=>simp at hm;subst hm;exact ⟨e,rfl,h1,h2⟩
  |succ i=>simpa using h3.at (i:=i) (by simpa using hm)
theorem Fq {E α β:Type} {step:E->α->Option (α ⊕ β)} {e:E} {r:List E} {x:α} {res:α ⊕ β} (h:J5 step (e::r) x=some res) :
  (∃y,step e x=some (.inl y))\/∃b,step e x=some (.inr b)/\res = .inr b:=by
 simp only [J5] at h
 split at h
 ·cases h
 ·rename_i y e;exact .inl ⟨y,e⟩
 ·rename_i b e;cases h;exact .inr ⟨b,e,rfl⟩
theorem get_mem : ∀ {env : Env} {t : Nat} {v : V}, get t env = v → v ≠ .any → (t, v) ∈ env
 |[],t,v,h,hv=>absurd h.symm hv
 |(s,u)::r,t,v,h,hv=>by
  rw [cz] at h
  split at h
  ·rename_i e;subst e;subst h;exact List.mem_cons_self ..
  ·exact List.mem_cons_of_mem _ (get_mem h hv)
theorem J6 {π : List Nat} {cl : List Nat} {env : Env} {Hh : aF} {mss : List Nat} {S' : St} (h : jw base π ⟨eR cl env, Hh, mss⟩ S') {mn id bm : Nat} (hid : get mn env = .mp id) {kt vt : Ty} {kg vg : Bool} {es : List (kt.den × vt.den)}
  (Eu:jH Hh.bl kt kg vt vg id=some es) {L:Loc} (hL:μ id=some L) (Zy:L.b=bm) (Er:Nat) (h2:get mn S'.env = .mp Er) :
  (∃L,(μ.kf π) Er=some L/\L.b=bm)/\∀es',jH S'.H.bl kt kg vt vg Er=some es'->es'=es:=by
 have ag:=h.env _ (get_mem h2 (by simp))
 try simp only at ag
 have hπ:π[Er]?=some id:=by
  rcases rJ (cl:=cl) (env:=env) (t:=mn) with e|e<;>rw [e] at ag
  ·cases ag
  ·rw [hid] at ag;cases ag with|mp _ _ hi=>exact hi
 refine ⟨⟨L,by simp [Mu.kf,hπ,hL],Zy⟩,fun es' he'=>?_⟩
 obtain ⟨i,e1,hb⟩:=h.bl _ (dD (eP he'))
 try simp only at e1 hb
 rw [hπ] at e1;cases e1
 have MD:=eP Eu
 try simp only at MD
 rw [MD] at hb
 simp only [Option.some.injEq,lJ.map.injEq,heq_eq_eq,true_and] at hb
 exact hb.symm
theorem kO.up {w:World} {ι:aj} {r:Nat} (h:kO Y out) (hm:Y.m0.le μ):kO (Y.side w ι μ r) out:=by
 cases out with
 |none=>exact h
 |some o=>obtain ⟨Lo,h1,h2⟩:=h;exact ⟨Lo,hm _ _ h1,h2⟩
theorem Ext.lift {Ya Yb : Ctx} {r : Nat} (hinv : ∀ {ι : aj} {μ : Mu} {H : aF} {w : World}, Inv P Ya ι μ H w → Inv P Yb ι μ H w) (hown : ∀ b, Ya.own b → Yb.own b) (hro : Yb.ro = Ya.ro) (hm0 : Yb.m0.le Ya.m0) (CM : Yb.hid = Ya.hid)
  (hr:r<Ya.w0.heap.size/\¬Ya.own r) (hrb:Yb.own r) {Y1:Ctx} (h:Ext P Ya Y1) :
  ∃Y2,Ext P Yb Y2/\(∀{ι:aj} {μ:Mu} {H:aF} {w:World},Inv P Y1 ι μ H w->Inv P Y2 ι μ H w)/\(∀b,Y1.own b->Y2.own b)/\Y2.ro=Y1.ro/\Y2.m0.le Y1.m0/\Y2.hid=Y1.hid/\(r<Y1.w0.heap.size/\¬Y1.own r)/\Y2.own r:=by
 induction h with
 |refl=>exact ⟨Yb,.refl Yb,hinv,hown,hro,hm0,CM,hr,hrb⟩
 |step h ro hI hr' own ih =>
  rename_i Y1 ι1 μ1 H1 w1 r'
  obtain ⟨Y2,e1,e2,e3,e4,e5,e6,e7,e8⟩:=ih
  have hlt:=(Array.getElem?_eq_some_iff.1 hr').1
  have hne:r≠r':=fun e=>by subst e;exact e7.2 own
  have hs:=hI.below.size
  refine ⟨Y2.wH w1 ι1 r',.step e1 (e4.trans ro) (e2 hI) hr' (e3 _ own),fun {ι μ H w} h=>?_,fun b hb=>?_,e4,e5,?_,⟨?_,fun hX=>?_⟩,.inr ⟨e8,hne⟩⟩
  ·have hx : ∀ b, (Y1.wH w1 ι1 r').x b → (Y2.wH w1 ι1 r').x b := fun b hb => ⟨e3 _ hb.1, hb.2⟩
   exact ⟨⟨h.below.os,h.below.tape,h.below.output,h.below.size,fun k hk hx'=>h.below.block k hk (fun hh=>hx' (hx _ hh)),h.below.dr,h.below.maps⟩,h.i0,fun b o hb hx'=>h.iB b o hb (fun hh=>hx' (hx _ hh)),h.rd,Mu.le_trans e5 h.m0,h.nx,
    fun id B hB=>(h.live id B hB).owns fun L _ ho=>ho.imp (fun h=>h) (hx _),h.inj,h.lt,h.gl⟩
  ·exact hb.imp (fun h=>h) fun h=>⟨e3 _ h.1,h.2⟩
  ·show r' :: Y2.hid = r' :: Y1.hid
   rw [e6]
  ·exact Nat.lt_of_lt_of_le e7.1 hs
  ·rcases hX with hX | hX
   ·have : w1.heap.size ≤ r := hX
    omega
   ·exact e7.2 hX.1
theorem KD.inj {t:Ty} {β:Type} {es:List (t.den×β)} (h:KD t es) {a b:t.den×β} (ha:a∈es) (hb:b∈es) (hab:eB t a.1 b.1=true):a=b:=by
 have haa:eB t a.1 a.1=true:=by
  have:=bS hab
  rw [<-this] at hab;exact hab
 have h1:=nI (d:=a.2) h ha haa
 have h2:=nI (d:=a.2) h hb hab
 exact Prod.ext (bS hab) (h1.symm.trans h2)
theorem uS {ι ι' : aj} : ∀ {t : Ty} {ks : List Kd} {x y : t.den} {vs : List Value}, bG t = some ks → af ι t x vs → af ι' t y vs → eB t x y = true
 | .unit,ks,x,y,vs,h,hx,hy=>rfl
 | .bool,ks,x,y,vs,h,hx,hy=>by simp only [af] at hx hy;subst hx;simpa [eB] using hy
 | .str,ks,x,y,vs,h,hx,hy=>by
  simp only [af] at hx hy;subst hx
  simp only [List.cons.injEq,Value.string.injEq,and_true] at hy
  subst hy;simp [eB]
 | .int k,ks,x,y,vs,h,hx,hy=>by simp only [af] at hx hy;subst hx;simpa [eB] using hy
 | .list _,ks,x,y,vs,h,hx,hy=>by cases h
 | .cL _ _ _,ks,x,y,vs,h,hx,hy=>by cases h
 | .prod a b,ks,x,y,vs,h,hx,hy=>by
  simp only [bG] at h
  split at h<;>try (cases h;done)
  rename_i k1 k2 h1 h2
  obtain ⟨us,ws,e1,d1,d2⟩:=hx
  obtain ⟨us',ws',e2,d1',d2'⟩:=hy
  rw [e1] at e2
  obtain ⟨rfl,rfl⟩:=List.append_inj e2 (by rw [d1.length,d1'.length])
  simp only [eB,uS h1 d1 d1',uS h2 d2 d2',Bool.and_self]
theorem PB {k:TypeId} {kt:Ty} {kg:Bool} (h:xM P k=some (kt,kg)):∃ks,bG kt=some ks:=by
 unfold xM at h
 split at h<;>try (cases h;done)
 ·cases h;exact ⟨_,rfl⟩
 ·cases h;exact ⟨_,rfl⟩
 ·split at h <;> try (cases h; done)
  split at h<;>try (cases h;done)
  rename_i hc
  cases h
  exact ⟨_,hc.1⟩
theorem ME {g:Bool} {xs ys:List Value} {v:Value} (h1:iC g xs=some v) (h2:iC g ys=some v):xs=ys:=by
 cases g with
 |true =>
  simp only [iC,Option.some.injEq] at h1 h2
  subst h1
  simp only [Value.agg.injEq] at h2
  have:=congrArg Array.toList h2
  simpa using this.symm
 |false =>
  match xs,ys,h1,h2 with
  |[x],[y],h1,h2 =>
   simp only [iC,Option.some.injEq] at h1 h2
   rw [h1,h2]
  |[],_,h1,_=>simp [iC] at h1
  |_::_::_,_,h1,_=>simp [iC] at h1
  |[_],[],_,h2=>simp [iC] at h2
  |[_],_::_::_,_,h2=>simp [iC] at h2
theorem TZ {k:TypeId} {kt:Ty} {kg:Bool} (h:xM P k=some (kt,kg)) {x y:kt.den} {z:Value} (hx:gp ι kg kt x z) (hy:gp ι' kg kt y z):eB kt x y=true:=by
 obtain ⟨ks,hks⟩:=PB h
 obtain ⟨xs,h1,h2⟩:=hx
 obtain ⟨ys,h3,h4⟩:=hy
 have:=ME h2 h4
 subst this
 exact uS hks h1 h3
structure MI {α:Type} (P:Program) (N:Nat) (Y:Ctx) (I:α->St) (mn it:Nat) (kt:Ty) (kg:Bool) (vt:Ty) (vg:Bool) (es dJ:List (kt.den×vt.den)) (kz:List Value) (bm r since:Nat) (bs todo:List Nat) (x:α) (a:Act) (w:World) (ι:aj) (μ:Mu) (seen:Array Nat) (c0:Nat) (ms:Array MapEntry) (clock:Nat):Prop where
 rep:dU P N Y ι μ (I x) a w
 it:a.tmps.getD it undef = .pointer (some ⟨r,0,none⟩)
 own:Y.own r
 hr:w.heap[r]?=some (.mapIter (some bm) since seen c0)
 sc:since<=c0
 ck:since<=clock
 hm:w.heap[bm]?=some (.map ms clock)
 XX:ms.toList.map (·.born)=bs
 hkz:ms.toList.map (·.key)=kz
 hke:∀(i:Nat) e z,dJ[i]?=some e->kz[i]?=some z->gp ι kg kt e.1 z
 old:∀b∈bs,b<since
 nd:bs.Nodup
 len:dJ.length=bs.length
 td:todo.Nodup
 left:∀i,i∈todo↔∃b,bs[i]?=some b/\b∉seen.toList
 here:∀id,get mn (I x).env = .mp id->(∃L,μ id=some L/\L.b=bm)/\∀es',jH (I x).H.bl kt kg vt vg id=some es'->es'=es
def Il (uj : Nat) : Ex → Ex
 | .exit i=>match Nat.beq i uj with
  |true=>.normal
  |false=>.exit i
 |e=>e
theorem PC {α:Type} (es:List α) (d:α):(List.range es.length).map (fun i=>es.getD i d)=es:=by
 apply List.ext_getElem
 ·simp
 ·intro i h1 h2;simp at h1;simp [List.getD,h1]
theorem Fs (fW : ∀ base, mw P N out base) {α β : Type} {I : α → St} {X : β → Ex × St} {pre : List dn} {mn it : Nat} {cl : List Nat} {e : Option Nat} {kt vt : Ty} {kg vg : Bool} {uj : Nat} {bd : C}
  {step:kt.den×vt.den->α->Option (α ⊕ β)} {aD:Nat} (hI:∀x s,s∈it::cl->get s (I x).env = .any) (JT:∀x,(I x).H.next=aD)
  (hstep:∀mX x r,step mX x=some r->∃id es',get mn (I x).env = .mp id/\jH (I x).H.bl kt kg vt vg id=some es' /\
   sj (eL P N out (aD+1)) bd ⟨TW e kt kg vt vg mX ((it,.ptr aD 0)::(I x).env),⟨aD+1,(I x).H.bl⟩,(I x).ms⟩ fun ex S'=>match r with
    | .inl y=>ex = .normal/\get it S'.env = .ptr aD 0/\get mn S'.env = .mp id/\jH S'.H.bl kt kg vt vg id=some es'/\∃π,jw base π ⟨eR (it::cl) S'.env,S'.H,S'.ms⟩ (I y)
    | .inr b=>ex ≠ .normal/\ex=(X b).1/\∃π,jw base π S' (X b).2)
  {S:St} {K:Ex->St->Prop}
  (hpre:dW (eL P N out base) pre S fun S1=>∃id es x π,get mn S1.env = .mp id/\jH S1.H.bl kt kg vt vg id=some es/\jw base π ⟨eR (it::cl) S1.env,S1.H,S1.ms⟩ (I x) /\
   ∀l:List (kt.den×vt.den),l.Perm es->∃res,J5 step l x=some res/\(match res with | .inl y=>K .normal (I y) | .inr b=>K (Il uj (X b).1) (X b).2)) :
  (eL P N out base).gY (.gY pre (.t mn) it cl e kt kg vt vg uj bd) S K:=by
 intro ca cb htr hsome
 have htr0:=htr
 simp only [fU] at htr
 split at htr<;>try (cases htr;done)
 rename_i xa xb htra htrb
 split at htr
 ·rename_i hn;rw [hn] at hsome;cases hsome
 rename_i hd hmh
 split at htr<;>try (cases htr;done)
 rename_i TK hbd
 obtain ⟨hpre',hm',rK,hcl',he',yK,Z0,AA,Z1,Bv⟩:=hd
 simp only [Option.some.injEq,C.gY.injEq] at htr
 obtain ⟨rfl,rfl,rfl,rfl,rfl,rfl,rfl,rfl,rfl,rfl,rfl⟩:=htr
 obtain ⟨ia,Az,oA,rr,t,xo,b3,i2,uR,o1,o2,n,ok,y,rfl,hlA,Z2,hdA,hgA,hitN,E2,Om,jr,rfl,Hv,Ik,Pz,hg1,MB,hd2,hg2,hnN,hokN,hnit,XY,mN,he⟩:=Ij hmh
 simp only at Z2 hdA hgA hitN E2 Om jr Ik hnit XY mN he hbd
 subst mN
 obtain ⟨cx,cc,cy,MC,rfl⟩:=TY htrb
 subst he
 intro Y ι μ a w hout hbase hR
 refine wpIn_seq (wpIn_region ?_)
 have hszA:Az.size=rr.length+1:=by rw [<-Array.length_toList,hlA];simp
 have Z3:List.range Az.size=List.range' 0 rr.length++[rr.length]:=by
  rw [hszA,List.range_succ,List.range_eq_range']
 rw [Z3]
 refine uI (Y:=Y) (out:=out) (base:=base) (k:=0) (K:=fun S1=>∃id es x π,get mn S1.env = .mp id/\jH S1.H.bl yK Z0 AA Z1 id=some es/\jw base π ⟨eR (rK::[n,ok]) S1.env,S1.H,S1.ms⟩ (I x) /\
   ∀l:List (yK.den×AA.den),l.Perm es->∃res,J5 step l x=some res/\(match res with | .inl y=>K .normal (I y) | .inr b=>K (Il Bv (X b).1) (X b).2)) ?_ jr (fun j hj=>?_) hR hpre
 rotate_left
 ·rw [<-Array.getElem?_toList,hlA,Nat.zero_add,List.getElem?_append_left (by assumption)]
 clear hR hpre
 intro ι μ S1 a w hR hK1
 obtain ⟨id,es,x,π,hmid,rL,cF,hres⟩:=hK1
 -- the iterator is made
 have hv:=hR.env mn
 rw [hmid] at hv
 generalize hav:a.tmps.getD mn undef=mv at hv
 cases hv with
 |mp _ L hL =>
 have hb:=eP rL
 obtain ⟨L',ms,clock,dJ,q1,q2,q3,q4,q5,q6,hp0,hd0⟩:=hR.inv.live _ _ hb
 rw [hL] at q1;cases q1
 obtain ⟨kT,eT,huT,hkT,_⟩:=kN E2
 have dN:a.eval xo = .map (some L.b):=by
  have:xo = .tmp mn:=by
   cases xo<;>simp only [dI] at Om
   ·cases Om;rfl
   ·split at Om<;>cases Om
   ·cases Om
   ·cases Om
  rw [this];exact hav
 have hoA:Az[rr.length]?=some oA:=by rw [<-Array.getElem?_toList,hlA];simp
 refine vJ (x := .pointer (some ⟨w.heap.size, 0, none⟩)) (w' := w.alloc (.mapIter (some L.b) clock #[] clock)) (fun _ => trivial) rfl hoA (gN hgA _) (by rw [Z2]; intro c; simp) (.inl (by
  unfold execOp;rw [Z2];simp only [dN,Sem.run_bind,run_range_map w t kT eT L.b ms clock huT q3];rfl)) ?_
 simp only [wpOpsIn]
 rw [hdA]
 have qD:dU P N Y ι μ ⟨eR (rK::[n,ok]) S1.env,S1.H,S1.ms⟩ (a.put (some rK) (.pointer (some ⟨w.heap.size,0,none⟩))) (w.alloc (.mapIter (some L.b) clock #[] clock)):=by
  have h1:dU P N Y ι μ ⟨eR (rK::[n,ok]) S1.env,S1.H,S1.ms⟩ a w:=⟨hR.env.forget _,hR.sz,hR.inv,hR.ms⟩
  have h2:=h1.over (d:=rK) (by simp [eR,get]) (.pointer (some ⟨w.heap.size,0,none⟩))
  exact ⟨h2.env,h2.sz,h2.inv.junk _,h2.ms⟩
 have mH:=cF.rep hbase qD
 have hlt:L.b<w.heap.size:=(Array.getElem?_eq_some_iff.1 q3).1
 have T0:MI P N Y I mn rK yK Z0 AA Z1 es dJ (ms.toList.map (·.key)) L.b w.heap.size clock (ms.toList.map (·.born)) (List.range dJ.length) x (a.put (some rK) (.pointer (some ⟨w.heap.size,0,none⟩))) (w.alloc (.mapIter (some L.b) clock #[] clock)) ι (μ.kf π) #[] clock ms clock:=by
  refine ⟨mH,CX (by rw [hR.sz];exact hitN),.inl hR.inv.below.size,heap_alloc_new _ _,Nat.le_refl _,Nat.le_refl _,(heap_alloc_old _ _ hlt).trans q3,rfl,rfl,fun i e z he hz=>?_,fun b hb=>?_,q6,?_,List.nodup_range,fun i=>?_,fun Er h2=>?_⟩
  ·rw [List.getElem?_map] at hz
   cases hm:ms.toList[i]? with
   |none=>rw [hm] at hz;cases hz
   |some m =>
    rw [hm] at hz;cases hz
    obtain ⟨e',he',hk,_⟩:=q4.at hm
    rw [he] at he';cases he'
    exact hk
  ·obtain ⟨m, hm, rfl⟩ := List.mem_map.1 hb
   exact q5 m hm
  ·rw [List.length_map,fC.length q4]
  ·have hlen := fC.length q4
   simp only [List.mem_range,List.not_mem_nil,not_false_eq_true,and_true]
   constructor
   ·intro hi
    exact ⟨_,List.getElem?_eq_getElem (show i<(ms.toList.map (·.born)).length by simp at hlen ⊢;omega)⟩
   ·rintro ⟨b, hb⟩
    have:=(List.getElem?_eq_some_iff.1 hb).1
    simp at this hlen;omega
  ·exact J6 cF hmid rL hL rfl Er h2
 have hat0:∀J:List Nat,J.Perm (List.range dJ.length)->∃res,J5 step (J.map fun i=>dJ.getD i (yK.zero,AA.zero)) x=some res/\(match res with | .inl y=>K .normal (I y) | .inr b=>K (Il Bv (X b).1) (X b).2):=fun J hJ =>
  hres _ (((hJ.map _).trans (by rw [PC])).trans hp0)
 have hdE:KD yK es:=hd0.perm hp0
 clear hres qD mH rL hmid cF q3 q5 q6 dN hoA hav hb hR hL hlt
 generalize (a.put (some rK) (.pointer (some ⟨w.heap.size,0,none⟩)))=a1 at T0 ⊢
 generalize hw1:w.alloc (.mapIter (some L.b) clock #[] clock)=w1 at T0 ⊢
 generalize w.heap.size=r at T0
 generalize XX:ms.toList.map (·.born)=bs at T0
 generalize hkz:ms.toList.map (·.key)=kz at T0
 generalize L.b=bm at T0
 have hlen:dJ.length=bs.length:=T0.len
 clear hw1 XX hkz
 show Code.wpIn _ _ _ (.block Bv _) _ _ _
 refine wpIn_block (wpIn_mono ?_ fun e a w hp=>yJ hp)
 refine wpIn_loop_ghost (fun (g:List Nat×α) a w=>(∃Y1,Ext P Y Y1/\∃ι μ seen c0 ms clock',MI P N Y1 I mn rK yK Z0 AA Z1 es dJ kz bm r clock bs g.1 g.2 a w ι μ seen c0 ms clock') /\
  ∀J:List Nat,J.Perm g.1->∃res,J5 step (J.map fun i=>dJ.getD i (yK.zero,AA.zero)) g.2=some res/\(match res with | .inl y=>K .normal (I y) | .inr b=>K (Il Bv (X b).1) (X b).2)) (fun g=>g.1.length) (x:=(List.range dJ.length,x)) ⟨⟨Y,.refl Y,_,_,_,_,_,_,T0⟩,hat0⟩ ?_
 clear T0 hat0
 rintro ⟨todo,x⟩ a w ⟨⟨Y0,Oi,ι,μ,seen,c0,ms,clock',M⟩,Es⟩
 simp only at M Es
 refine wpIn_seq (wpIn_region ?_)
 have hsz2:uR.size=2:=by rw [<-Array.length_toList,Hv];rfl
 rw [show List.range uR.size=[0,1] by rw [hsz2];rfl]
 have hO0:uR[0]?=some o1:=by rw [<-Array.getElem?_toList,Hv];rfl
 have hO1:uR[1]?=some o2:=by rw [<-Array.getElem?_toList,Hv];rfl
 have Z4:=M.rep.sz
 have XZ:a.eval (.tmp rK) = .pointer (some ⟨r,0,none⟩):=M.it
 have hold:∀m∈ms.toList,m.born<clock:=fun m hm=>M.old _ (by rw [<-M.XX];exact List.mem_map.2 ⟨m,hm,rfl⟩)
 have eD:∀v,get n (I x).env = .any/\get ok (I x).env = .any/\(a.put (some n) v).eval (.tmp n)=v:=fun v=>⟨hI x n (by simp),hI x ok (by simp),CX (by rw [Z4];exact hnN)⟩
 rcases run_next_at (P:=P) w o1.type r bm clock c0 seen ms clock' M.hr M.hm hold M.sc with ⟨h0,hrun⟩|⟨en,hel,w1,hw1,hrun⟩
 ·refine vJ (x := .tuple #[.bool false]) (w' := w) (fun _ => trivial) rfl hO0 (gN hg1 _) (by rw [Ik]; intro c; simp) (.inl (by
   unfold execOp;rw [Ik];simp only [XZ,Sem.run_bind,hrun];rfl)) ?_
  rw [Pz]
  refine vJ (x := .bool false) (w' := w) (fun _ => trivial) rfl hO1 (gN hg2 _) (by rw [MB]; intro c; simp) (.inl (by
   unfold execOp;rw [MB];simp only [(eD _).2.2];simp [Instr.extract])) ?_
  rw [hd2]
  simp only [wpOpsIn]
  show Code.wpIn _ _ _ (.seq _ _) _ _ _
  refine wpIn_seq (wpIn_cond_false (CX (by simpa [Act.put,Z4] using hokN)) (wpIn_exit ?_))
  have aeJ:todo=[]:=by
   cases htd:todo with
   |nil=>rfl
   |cons i _ =>
    exfalso
    obtain ⟨b,iL,gh⟩:=(M.left i).1 (by rw [htd];exact List.mem_cons_self ..)
    rw [<-M.XX,List.getElem?_map] at iL
    cases Z5:ms.toList[i]? with
    |none=>rw [Z5] at iL;cases iL
    |some m =>
     rw [Z5] at iL;cases iL
     have:m∈leftOf ms seen:=by
      simp only [leftOf,Array.mem_filter]
      exact ⟨by simpa using List.mem_of_getElem? Z5,by simpa using gh⟩
     have hp:=Array.size_pos_of_mem this
     omega
  subst aeJ
  obtain ⟨res,hr,hK⟩:=Es [] (.refl _)
  simp only [List.map_nil,J5,Option.some.injEq] at hr
  subst hr
  refine ⟨Y0,Oi,ι,μ,I x,.exit Bv,?_,rfl,?_⟩
  ·have h1 := (M.rep.over (eD .nilFunc).1 (.tuple #[.bool false])).over (eD .nilFunc).2.1 (.bool false)
   exact h1
  ·simp only [Nat.beq_refl];exact hK
 ·-- an entry
  have Z6:w1.heap=w.heap:=by rcases hw1 with rfl|rfl<;>rfl
  have qD:dU P N Y0 ι μ (I x) a w1:=by
   rcases hw1 with rfl|rfl
   ·exact M.rep
   ·exact ⟨M.rep.env,M.rep.sz,M.rep.inv.drew,M.rep.ms⟩
  have EU:w1.heap[r]?=some (.mapIter (some bm) clock seen c0):=by rw [Z6];exact M.hr
  have iu:w1.heap[bm]?=some (.map ms clock'):=by rw [Z6];exact M.hm
  have hne:bm≠r:=fun e=>by subst e;rw [EU] at iu;cases iu
  have hrlt:r<w1.heap.size:=(Array.getElem?_eq_some_iff.1 EU).1
  change (Instr.next _ _ _).run P w = .ok _ (w1.putObj r (.mapIter (some bm) clock (seen.push en.born) clock')) at hrun
  generalize hw2:w1.putObj r (.mapIter (some bm) clock (seen.push en.born) clock')=w2 at hrun
  have EW:w2.heap[r]?=some (.mapIter (some bm) clock (seen.push en.born) clock'):=by rw [<-hw2];exact World.putObj_heap_same hrlt
  have hm2:w2.heap[bm]?=some (.map ms clock'):=by rw [<-hw2,World.putObj_heap_other hne];exact iu
  have vT:Inv P Y0 ι μ (I x).H w2:=by rw [<-hw2];exact qD.inv.side EU M.own _
  have aeL:Y0.w0.heap.size<=w2.heap.size:=vT.below.size
  clear hw2 iu EU qD hw1 Z6 hrlt
  refine vJ (x := .tuple #[.bool true, en.key, en.val]) (w' := w2) (fun _ => trivial) rfl hO0 (gN hg1 _) (by rw [Ik]; intro c; simp) (.inl (by
   unfold execOp;rw [Ik];simp only [XZ,Sem.run_bind,hrun];rfl)) ?_
  rw [Pz]
  refine vJ (x := .bool true) (w' := w2) (fun _ => trivial) rfl hO1 (gN hg2 _) (by rw [MB]; intro c; simp) (.inl (by
   unfold execOp;rw [MB];simp only [(eD _).2.2];simp [Instr.extract])) ?_
  rw [hd2]
  simp only [wpOpsIn]
  show Code.wpIn _ _ _ (.seq _ _) _ _ _
  refine wpIn_seq (wpIn_cond_true (CX (by simpa [Act.put,Z4] using hokN)) (wpIn_skip ?_))
  have hRa:dU P N Y0 ι μ (I x) ((a.put (some n) (.tuple #[.bool true,en.key,en.val])).put (some ok) (.bool true)) w2:=by
   have h1:=(M.rep.over (eD .nilFunc).1 (.tuple #[.bool true,en.key,en.val])).over (eD .nilFunc).2.1 (.bool true)
   exact ⟨h1.env,h1.sz,vT,h1.ms⟩
  have Z7:((a.put (some n) (.tuple #[.bool true,en.key,en.val])).put (some ok) (.bool true)).tmps.getD rK undef = .pointer (some ⟨r,0,none⟩):=by
   rw [Py XY,Py hnit];exact M.it
  show Code.wpIn _ _ _ (.block b3 y) _ _ _
  generalize ((a.put (some n) (.tuple #[.bool true,en.key,en.val])).put (some ok) (.bool true))=a2 at hRa Z7
  -- which one
  have Z8:en∈ms.toList/\en.born∉seen.toList:=by
   have:en∈leftOf ms seen:=by simpa using hel
   simp only [leftOf,Array.mem_filter] at this
   exact ⟨by simpa using this.1,by simpa using this.2⟩
  obtain ⟨i,hi⟩:=List.getElem?_of_mem Z8.1
  have hbi:bs[i]?=some en.born:=by rw [<-M.XX,List.getElem?_map,hi];rfl
  have Im:i∈todo:=(M.left i).2 ⟨_,hbi,Z8.2⟩
  have J7:∀J:List Nat,J.Perm (todo.erase i)->∃res,J5 step (dJ.getD i (yK.zero,AA.zero)::J.map fun i=>dJ.getD i (yK.zero,AA.zero)) x=some res/\(match res with | .inl y=>K .normal (I y) | .inr b=>K (Il Bv (X b).1) (X b).2):=fun J hJ =>
   Es (i::J) ((hJ.cons i).trans (List.perm_cons_erase Im).symm)
  have hs1:∃q,step (dJ.getD i (yK.zero,AA.zero)) x=some q:=by
   obtain ⟨res,hr,_⟩:=J7 _ (.refl _)
   rcases Fq hr with ⟨y,hy⟩|⟨b,hb,_⟩
   ·exact ⟨_,hy⟩
   ·exact ⟨_,hb⟩
  obtain ⟨q,hq⟩:=hs1
  obtain ⟨id,es',hmid,rL,hwp⟩:=hstep _ _ _ hq
  obtain ⟨⟨L,hL,Zy⟩,Eu⟩:=M.here id hmid
  have:=Eu es' rL
  subst this
  obtain ⟨L',ms2,ck2,Hy,z1,z2,z3,z4,z5,z6,z7,z8⟩:=vT.live id _ (eP rL)
  rw [hL] at z1;cases z1
  rw [Zy,hm2] at z3;cases z3
  obtain ⟨e0,he0,hk,hv⟩:=z4.at hi
  have hat:dJ.getD i (yK.zero,AA.zero)=e0:=by
   have hil:i<dJ.length:=by
    have:=(List.getElem?_eq_some_iff.1 hbi).1
    rw [M.len];exact this
   have h1:dJ[i]?=some dJ[i]:=List.getElem?_eq_getElem hil
   have h2:=M.hke i _ en.key h1 (by rw [<-M.hkz,List.getElem?_map,hi];rfl)
   have h3:=hdE.inj (hp0.mem_iff.1 (List.getElem_mem hil)) (z7.mem_iff.1 (List.mem_of_getElem? he0)) (TZ hkT h2 hk)
   rw [List.getD_eq_getElem?_getD,h1]
   exact h3
  rw [hat] at hq hwp J7
  have hx0:=JT x
  let L0:Loc:=⟨r,0,0,0⟩
  have PD:Inv P Y0 ι (μ.set aD L0) ⟨aD+1,(I x).H.bl⟩ w2:=by rw [<-hx0];exact vT.name L0
  have hnone:μ aD=none:=by rw [<-hx0];exact vT.nx _ (Nat.le_refl _)
  have hle:=Mu.gd (L:=L0) hnone
  have hRs:dU P N (Y0.side w2 ι (μ.set aD L0) r) ι (μ.set aD L0) ⟨(rK,.ptr aD 0)::(I x).env,⟨aD+1,(I x).H.bl⟩,(I x).ms⟩ a2 w2:=by
   refine ⟨fun t=>?_,hRa.sz,PD.into EW,hRa.ms.mono hle⟩
   rw [cz]
   split
   ·rename_i e; subst e
    rw [Z7]
    have:=Rel.ptr (ι:=ι) (μ:=μ.set aD L0) aD 0 L0 (by simp [Mu.set])
    exact this
   ·exact (hRa.env t).mono (aj.le_refl _) hle
  have cF:=run_entry_at (P:=P) w2 r bm clock seen ms clock' en EW hm2 Z8.1 (by rw [M.XX];exact M.nd)
  have PE:kO (Y0.side w2 ι (μ.set aD L0) r) out:=(Oi.ZF hout).up (Mu.le_trans M.rep.inv.m0 hle)
  have iM:(Y0.side w2 ι (μ.set aD L0) r).base (aD+1):=fun id hid=>PD.nx id hid
  have hF:(Y0.side w2 ι (μ.set aD L0) r).F=Y.F:=Oi.F
  rw [<-hF]
  refine wpIn_mono (PA (Y:=Y0.side w2 ι (μ.set aD L0) r) (fW (aD+1)) MC hbd PE iM hRs Z7 cF (hk.rel) (hv.rel) hwp) fun e3 a3 w3 hp=>?_
  obtain ⟨Y1,Ph,ι3,μ3,S3,ex,Oj,Ez,TL⟩:=hp
  have qE:Inv P (Y0.side w2 ι (μ.set aD L0) r) ι3 μ3 S3.H w3:=Ph.inv Oj.inv
  have T1:(μ.set aD L0).le μ3:=qE.m0
  have aeN:=(Array.getElem?_eq_some_iff.1 EW).1
  obtain ⟨Y2,hY2,PF,-,-,-,CM,-,PG⟩:=Ph.lift (Yb:=Y0) (r:=r) (fun h=>PD.aeE h) (fun b hb=>by
   rcases hb with hb|hb
   ·exact .inl (Nat.le_trans aeL hb)
   ·exact hb.1) rfl (Mu.le_trans M.rep.inv.m0 hle) rfl ⟨aeN,fun h=>by
    rcases h with h|h
    ·have : w2.heap.size ≤ r := h
     omega
    ·exact h.2 rfl⟩ M.own
  have hYt:=Oi.trans hY2
  have J8:Inv P Y2 ι3 μ3 S3.H w3:=PF Oj.inv
  have hms3:mo Y2.hid μ3 S3.ms a3.defers:=by rw [CM];exact Oj.ms
  cases q with
  |inr b =>
   obtain ⟨hne3,hex,π3,J9⟩:=TL
   obtain ⟨res,hr,hK⟩:=J7 _ (.refl _)
   have hres:res = .inr b:=by
    rcases Fq hr with ⟨y,hy⟩|⟨b',hb,h⟩
    ·rw [hq] at hy;cases hy
    ·rw [hq] at hb;cases hb;exact h
   subst hres
   have hRb:=J9.rep (hYt.vH hbase) (⟨Oj.env,Oj.sz,J8,hms3⟩:dU P N Y2 ι3 μ3 S3 a3 w3)
   subst hex
   simp only at hK
   generalize hxb:(X b).1=xb at hK Ez hne3
   cases xb with
   |normal=>exact absurd rfl hne3
   |exit i' =>
    cases Ez
    refine ⟨Y2,hYt,ι3,_,_,.exit i',hRb,rfl,?_⟩
    simp only [Il] at hK
    split at hK
    ·rename_i hb;simp only [hb];exact hK
    ·rename_i hb;simp only [hb];exact hK
   |ret=>cases Ez;exact ⟨Y2,hYt,ι3,_,_,.ret,hRb,rfl,hK⟩
  |inl y =>
   obtain ⟨rfl,hit3,hmn3,CY,π3,J9⟩:=TL
   cases Ez
   have hRf:dU P N Y2 ι3 μ3 ⟨eR (rK::[n,ok]) S3.env,S3.H,S3.ms⟩ a3 w3:=⟨Oj.env.forget _,Oj.sz,J8,hms3⟩
   have hRy:=J9.rep (hYt.vH hbase) hRf
   have hbm3 : w3.heap[bm]? = some (.map ms clock') ∨ ∃ X0 ck3, w3.heap[bm]? = some (.map X0 ck3) := .inr (by
    obtain ⟨L3,X0,ck3,es3,y1,y2,y3,_⟩:=J8.live id _ (eP CY)
    rw [T1 _ _ (hle _ _ hL)] at y1;cases y1
    exact ⟨X0,ck3,by rw [<-Zy];exact y3⟩)
   obtain ⟨L3,X0,ck3,es3,y1,y2,y3,y4,y5,y6,y7,_⟩:=J8.live id _ (eP CY)
   rw [T1 _ _ (hle _ _ hL)] at y1;cases y1
   rw [Zy] at y3
   have aeS:bm<w2.heap.size:=(Array.getElem?_eq_some_iff.1 hm2).1
   have hgrow:=qE.below.maps bm aeS ms clock' hm2
   obtain ⟨ms4,ck4,g1,g2,g3⟩:=hgrow
   rw [y3] at g1;cases g1
   have hbk:(X0.toList.map fun m=>(m.born,m.key))=ms.toList.map fun m=>(m.born,m.key):=by
    refine (g2.eq_of_length ?_).symm
    have h1:=vT.live id _ (eP rL)
    have h2:ms.toList.length=bs.length:=by rw [<-M.XX,List.length_map]
    rw [List.length_map,List.length_map,fC.length y4,y7.length_eq,<-hp0.length_eq,hlen,h2]
   have yb:X0.toList.map (·.born)=bs:=by
    have:=congrArg (List.map Prod.fst) hbk
    rw [<-M.XX];simpa [List.map_map,Function.comp_def] using this
   have hkeys:X0.toList.map (·.key)=kz:=by
    have:=congrArg (List.map Prod.snd) hbk
    rw [<-M.hkz];simpa [List.map_map,Function.comp_def] using this
   refine ⟨⟨todo.erase i,y⟩,⟨⟨Y2,hYt,ι3,_,seen.push en.born,clock',X0,ck3,hRy,?_,PG,?_,M.ck,Nat.le_trans M.ck g3,y3,yb,hkeys,fun i e z he hz=>(M.hke i e z he hz).mono (fun b o x hx=>qE.i0 b o x hx),M.old,M.nd,M.len,M.td.erase i,fun j=>?_,?_⟩,fun J hJ=>?_⟩,?_⟩
   ·have := Oj.env rK
    rw [hit3] at this
    generalize a3.tmps.getD rK undef=tv at this ⊢
    cases this with
    |ptr _ _ L4 h4 =>
     rw [T1 aD L0 (by simp [Mu.set])] at h4
     cases h4
     rfl
   ·have := qE.below.block r (Array.getElem?_eq_some_iff.1 EW).1 (fun h => h.2 rfl)
    rw [this];exact EW
   ·rw [List.Nodup.mem_erase_iff M.td, M.left j]
    simp only [Array.toList_push,List.mem_append,List.mem_singleton]
    constructor
    ·rintro ⟨hj, b, hb, hs⟩
     refine ⟨b,hb,fun h=>?_⟩
     rcases h with h|h
     ·exact hs h
     ·subst h
      exact hj ((List.getElem?_inj (List.getElem?_eq_some_iff.1 hb).1 M.nd).1 (hb.trans hbi.symm))
    ·rintro ⟨b, hb, hs⟩
     refine ⟨fun e=>?_,b,hb,fun h=>hs (.inl h)⟩
     subst e
     rw [hbi] at hb;cases hb
     exact hs (.inr rfl)
   ·exact fun Er h2=>J6 J9 hmn3 CY (T1 _ _ (hle _ _ hL)) Zy Er h2
   ·obtain ⟨res, h, hK⟩ := J7 J hJ
    simp only [J5,hq] at h
    exact ⟨res,h,hK⟩
   ·rw [List.length_erase_of_mem Im]
    have:=List.length_pos_of_mem Im
    show todo.length - 1<todo.length
    omega
end
end Go.AM
end
section
namespace Go.AM
structure Kz (R:Type) where
 br:Bool->R->R->R
 am:R->R->R
 nd:Bool->R->R
 no:R
 bd:{A:Type}->Option A->(A->R)->R
 sm:{A B:Type}->A ⊕ B->(A->R)->(B->R)->R
 an:{E:Type}->List E->(List E->R)->R
noncomputable def need {X:Type} (c:Bool) (x:Option X):Option X:=@ite _ (c=true) (Classical.propDecidable _) x none
noncomputable def rM {X:Type} (c:Bool) (x y:Option X):Option X:=@ite _ (c=true) (Classical.propDecidable _) x y
noncomputable def Ft {X:Type} (x y:Option X):Option X:=@ite _ (x=y) (Classical.propDecidable _) x none
noncomputable def dF {A X:Type} (o:Option A) (f:A->Option X):Option X:=@dite _ (∃a,o=some a) (Classical.propDecidable _) (fun h=>f h.choose) (fun _=>none)
@[reducible] noncomputable def iz (X:Type):Kz (Option X) where
 br c a b:=rM c a b
 am a b:=Ft a b
 nd c a:=need c a
 no:=none
 bd o f:=dF o f
 sm s f g:=match s with
  | .inl a=>f a
  | .inr b=>g b
 an es f:=kV f es
theorem MF {X:Type} {x y:Option X} {r:X} (h:Ft x y=some r):x=some r/\y=some r:=by
 unfold Ft at h
 split at h
 ·rename_i e;exact ⟨h,e▸h⟩
 ·cases h
@[simp] theorem uT {X:Type} {x:Option X}:Ft x x=x:=by unfold Ft;rw [if_pos rfl]
theorem cD {X:Type} {c:Bool} {x:Option X} (h:c=true):need c x=x:=by unfold need;rw [if_pos h]
@[simp] theorem ax {X:Type} {x:Option X}:need true x=x:=cD rfl
@[simp] theorem Z9 {X:Type} {x:Option X}:need false x=none:=by unfold need;rw [if_neg (by simp)]
@[simp] theorem sU {X:Type} {x y:Option X}:rM true x y=x:=by unfold rM;rw [if_pos rfl]
@[simp] theorem gO {X:Type} {x y:Option X}:rM false x y=y:=by unfold rM;rw [if_neg (by simp)]
@[simp] theorem aH {A X:Type} {a:A} {f:A->Option X}:dF (some a) f=f a:=by
 have h:∃b,some a=some b:=⟨a,rfl⟩
 unfold dF;rw [dif_pos h]
 have:=h.choose_spec
 rw [<-Option.some.inj this]
@[simp] theorem qh {A X:Type} {f:A->Option X}:dF none f=none:=by
 unfold dF;rw [dif_neg];rintro ⟨a,h⟩;cases h
theorem cZ {X:Type} {c:Bool} {x:Option X} {r:X} (h:need c x=some r):c=true/\x=some r:=by
 cases c<;>simp at h ⊢;exact h
theorem rN {A X:Type} {o:Option A} {f:A->Option X} {r:X} (h:dF o f=some r):∃a,o=some a/\f a=some r:=by
 cases o<;>simp at h ⊢;exact h
theorem sV {X A:Type} {o:Option A} {f:A->Option X} {r:X} (h:(iz X).bd o f=some r):∃a,o=some a/\f a=some r:=rN h
theorem iN {X:Type} {c:Bool} {x y:Option X} {r:X} (h:rM c x y=some r):(c=true/\x=some r)\/(c=false/\y=some r):=by
 cases c<;>simp at h ⊢<;>exact h
section
variable {R:Type}
def fV (v:V) (k:V->R):R:=match v with
 | .any=>k .any
 | .tf b=>match b with
  |true=>k (.tf true)
  |false=>k (.tf false)
 | .bool b=>k (.bool b)
 | .int ik n=>k (.int ik n)
 | .str s=>k (.str s)
 | .ga=>k .ga
 | .cW=>k .cW
 | .gn=>k .gn
 | .fM t xs=>k (.fM t xs)
 | .cw=>k .cw
 | .sl id t lo n=>k (.sl id t lo n)
 | .ptr id off=>k (.ptr id off)
 | .fe cs=>k (.fe cs)
 | .ep id t i p=>k (.ep id t i p)
 | .ip t x=>k (.ip t x)
 | .fn f a b=>k (.fn f a b)
 | .yl id=>k (.yl id)
 | .agg cs=>k (.agg cs)
 | .dc vs=>k (.dc vs)
 | .cL t v=>k (.cL t v)
 | .cb c=>k (.cb c)
 | .mp id=>k (.mp id)
 | .cT=>k .cT
 | .pa id t n=>k (.pa id t n)
 | .mG t xs=>k (.mG t xs)
 | .sp id o l=>k (.sp id o l)
theorem ow (v:V) (k:V->R):fV v k=k v:=by
 cases v<;>try rfl
 rename_i b;cases b<;>rfl
def fN (n:Nat) (k:Nat->R):R:=match n with
 |0=>k 0
 |n+1=>k (n+1)
theorem gP (n:Nat) (k:Nat->R):fN n k=k n:=by cases n<;>rfl
def wJ (d:Option Nat) (v:V) (env:Env) (k:Env->R):R:=match d with
 |some t=>k ((t,v)::env)
 |none=>k env
theorem lV (d:Option Nat) (v:V) (env:Env) (k:Env->R):wJ d v env k=k (put d v env):=by cases d<;>rfl
def qF (id : Nat) : ah → (ah → R) → R
 |[],k=>k []
 |(s,b)::r,k=>match Nat.beq s id with
  |true=>qF id r k
  |false=>qF id r fun r'=>k ((s,b)::r')
theorem kW (id : Nat) : ∀ (bl : ah) (k : ah → R), qF id bl k = k (bC id bl)
 |[],k=>rfl
 |(s,b)::r,k=>by
  simp only [qF,bC]
  split<;>rename_i h<;>simp only [h]<;>exact kW id r _
def ij : eZ → ah → (ah → R) → R
 |[],bl,k=>k bl
 |(id,none)::r,bl,k=>qF id bl fun bl=>ij r bl k
 |(id,some b)::r,bl,k=>qF id bl fun bl=>ij r ((id,b)::bl) k
theorem gr : ∀ (u : eZ) (bl : ah) (k : ah → R), ij u bl k = k (bF u bl)
 |[],_,_=>rfl
 |(id,none)::r,bl,k=>by simp only [ij,kW,bF];exact gr r _ k
 |(id,some b)::r,bl,k=>by simp only [ij,kW,bF];exact gr r _ k
def sW (kz : Kz R) : List Bool → R → R
 |[],k=>k
 |b::r,k=>kz.nd b (sW kz r k)
structure Cx where
 pc:{R:Type}->Kz R->Nat->List V->(V->R)->R
 ca:{R:Type}->Kz R->Nat->List V->Nat->ah->(V->Nat->ah->R)->R
 rd:{R:Type}->Kz R->Nat->List V->Nat->ah->(V->Nat->ah->R)->R
 op:Nat:=0
structure Cx.Ok (P:Program) (cx:Cx):Prop where
 X1:∀{X:Type} {f:Nat} {vs:List V} {K:V->Option X} {r:X},cx.pc (iz X) f vs K=some r->∃v,kC P f vs v/\K v=some r
 T2:∀{X:Type} {f:Nat} {vs:List V} {nx:Nat} {bl:ah} {K:V->Nat->ah->Option X} {r:X},cx.ca (iz X) f vs nx bl K=some r ->
  ∀{Q:V->aF->Prop},(∀v nx bl,K v nx bl=some r->Q v ⟨nx,bl⟩)->eW P f vs ⟨nx,bl⟩ Q
 rok:∀{X:Type} {id:Nat} {vs:List V} {nx:Nat} {bl:ah} {K:V->Nat->ah->Option X} {r:X},cx.rd (iz X) id vs nx bl K=some r ->
  ∀{Q:V->aF->Prop},(∀v nx bl,K v nx bl=some r->Q v ⟨nx,bl⟩)->around P id vs ⟨nx,bl⟩ Q
def C0 (kz:Kz R) (g:Option (Nat×Bool)) (env:Env) (skip run:Env->R):R:=match g with
 |none=>run env
 |some (s,b)=>match get s env with
  | .tf c=>match c,b with
   |true,true=>run env
   |false,false=>run env
   |true,false=>skip env
   |false,true=>skip env
  | .bool c => kz.br c
   (match b with
    |true=>run ((s,.tf true)::env)
    |false=>skip ((s,.tf true)::env))
   (match b with
    |false=>run ((s,.tf false)::env)
    |true=>skip ((s,.tf false)::env))
  | .dc _=>skip env
  |_=>kz.no
def X2 (kz:Kz R) (op:Nat) (ar:Ar) (bl:ah) (k:ah->R):R:=match op with
 |0=>k bl
 |n+1=>match (match n with
   |0=>OB bl
   |_+1=>Co bl) with
  |[]=>k bl
  |ids=>match Of ar ids bl with
   |some u=>ij u bl k
   |none=>kz.no
def dmOp : Nat → Nat
 |0=>0
 |_+1=>1
def kI (kz : Kz R) (cx : Cx) (ar : Ar) : List dn → Env → Nat → ah → (Env → Nat → ah → R) → R
 |[],env,nx,bl,K=>K env nx bl
 | .op d g i::r,env,nx,bl,K=>C0 kz g env (fun env=>wJ d (.dc []) env fun env=>kI kz cx ar r env nx bl K) fun env =>
   match cx.op with
   |0=>(match XV ar i env bl nx with
    |some (ob,v,u)=>sW kz ob (fV v fun v=>wJ d v env fun env=>match i.lays with
     |true=>fN (nx+1) fun nx=>ij u bl fun bl=>kI kz cx ar r env nx bl K
     |false=>ij u bl fun bl=>kI kz cx ar r env nx bl K)
    |none=>kz.no)
   |_+1=>match xK ar i env bl nx with
    |some (ob,v,u)=>sW kz ob (fV v fun v=>wJ d v env fun env=>match i.lays with
     |true=>fN (nx+1) fun nx=>ij u bl fun bl=>kI kz cx ar r env nx bl K
     |false=>ij u bl fun bl=>kI kz cx ar r env nx bl K)
    |none=>match XV ar i env bl nx with
     |some (ob,v,u)=>sW kz ob (fV v fun v=>wJ d v env fun env=>match i.lays with
      |true=>fN (nx+1) fun nx=>ij u bl fun bl=>kI kz cx ar r env nx bl K
      |false=>ij u bl fun bl=>kI kz cx ar r env nx bl K)
     |none=>X2 kz 1 ar bl fun bl=>match XV ar i env bl nx with
      |some (ob,v,u)=>sW kz ob (fV v fun v=>wJ d v env fun env=>match i.lays with
       |true=>fN (nx+1) fun nx=>ij u bl fun bl=>kI kz cx ar r env nx bl K
       |false=>ij u bl fun bl=>kI kz cx ar r env nx bl K)
      |none=>kz.no
 | .call d g f a tys::r,env,nx,bl,K=>C0 kz g env (fun env=>wJ d (.dc []) env fun env=>kI kz cx ar r env nx bl K) fun env=>X2 kz (dmOp cx.op) ar bl fun bl =>
   match f.ev env with
   | .fn f fs cs=>cx.ca kz f (fs++cq tys (a.map (·.ev env))++cs) nx bl fun v nx bl=>fV v fun v=>wJ d v env fun env=>kI kz cx ar r env nx bl K
   | .yl id=>cx.rd kz id (cq tys (a.map (·.ev env))) nx bl fun v nx bl=>fV v fun v=>wJ d v env fun env=>kI kz cx ar r env nx bl K
   |_=>kz.no
def Bw (kz:Kz R) (gs:List Nat) (d:Option Nat) (v:V) (env:Env) (K:Env->R):R:=match d with
 |none=>K env
 |some t=>match Cw t gs with
  |false=>K ((t,v)::env)
  |true=>match v with
   | .bool c=>kz.br c (K ((t,.tf true)::env)) (K ((t,.tf false)::env))
   |v=>K ((t,v)::env)
def SX (kz : Kz R) (cx : Cx) (ar : Ar) (gs : List Nat) (b : Nat) : List dn → Nat → Env → ah → List DR → (Env → ah → List DR → R) → R
 |[],_,env,bl,cC,K=>K env bl cC
 | .op d g i::r,k,env,bl,cC,K=>match HQ g env with
  |some true=>match (match cx.op with
    |0=>none
    |_+1=>xK ar i env bl (b+k)) with
   |some (ob,v,u)=>sW kz ob (fV v fun v=>Bw kz gs d v env fun env'=>ij u bl fun bl=>SX kz cx ar gs b r (k+1) env' bl (xP k (nF i env) (u.map (·.1)) cC) K)
   |none=>match XV ar i env bl (b+k) with
    |some (ob,v,u)=>sW kz ob (fV v fun v=>Bw kz gs d v env fun env'=>ij u bl fun bl=>SX kz cx ar gs b r (k+1) env' bl (xP k (nF i env) (u.map (·.1)) cC) K)
    |none=>kz.no
  |some false=>wJ d (.dc []) env fun env=>SX kz cx ar gs b r (k+1) env bl cC K
  |none=>kz.no
 | .call d g f a tys::r,k,env,bl,cC,K=>match HQ g env with
  |some true=>match f.ev env with
   | .fn f fs cs=>match fs++cq tys (a.map (·.ev env))++cs with
    |vs=>match dY (fin ar bl 8) vs with
     |some vs'=>cx.pc kz f vs' fun x=>fV x fun x=>match EM x||vs.all (dX 8) with
      |true=>Bw kz gs d x env fun env'=>SX kz cx ar gs b r (k+1) env' bl (xP k (jI bl vs) [] cC) K
      |false=>match xQ (jI bl vs) bl with
       |some u=>Bw kz gs d x env fun env'=>ij u bl fun bP=>SX kz cx ar gs b r (k+1) env' bP (xP k (jI bl vs) (u.map (·.1)) cC) K
       |none=>kz.no
     |none=>kz.no
   |_=>kz.no
  |some false=>wJ d (.dc []) env fun env=>SX kz cx ar gs b r (k+1) env bl cC K
  |none=>kz.no
end
abbrev Kc (R:Type):=Ex->Env->Nat->ah->List Nat->R
structure bt (P:Program) (N:Nat) (out:Option Nat) (base:Nat):Type 1 where
 c:C
 run:{R:Type}->Kz R->Env->Nat->ah->List Nat->Kc R->R
 ok:∀{X:Type} {env:Env} {nx:Nat} {bl:ah} {ms:List Nat} {K:Kc (Option X)} {r:X},run (iz X) env nx bl ms K=some r ->
  ∀{Q:Ex->St->Prop},(∀e env nx bl ms,K e env nx bl ms=some r->Q e ⟨env,⟨nx,bl⟩,ms⟩)->(eL P N out base).loop c ⟨env,⟨nx,bl⟩,ms⟩ Q
structure gH (P:Program) (N:Nat) (out:Option Nat) (base:Nat):Type 1 where
 f:O
 ps:List Nat
 a:C
 b:C
 run:{R:Type}->Kz R->Env->Nat->ah->List Nat->Kc R->R
 ok:∀{X:Type} {env:Env} {nx:Nat} {bl:ah} {ms:List Nat} {K:Kc (Option X)} {r:X},run (iz X) env nx bl ms K=some r ->
  ∀{Q:Ex->St->Prop},(∀e env nx bl ms,K e env nx bl ms=some r->Q e ⟨env,⟨nx,bl⟩,ms⟩)->(eL P N out base).bK f ps a b ⟨env,⟨nx,bl⟩,ms⟩ Q
structure yL (P:Program) (N:Nat) (out:Option Nat) (base:Nat):Type 1 where
 pre:List dn
 m:O
 it:Nat
 cl:List Nat
 e:Option Nat
 kt:Ty
 kg:Bool
 vt:Ty
 vg:Bool
 uj:Nat
 b:C
 run:{R:Type}->Kz R->Env->Nat->ah->List Nat->Kc R->R
 ok:∀{X:Type} {env:Env} {nx:Nat} {bl:ah} {ms:List Nat} {K:Kc (Option X)} {r:X},run (iz X) env nx bl ms K=some r ->
  ∀{Q:Ex->St->Prop},(∀e env nx bl ms,K e env nx bl ms=some r->Q e ⟨env,⟨nx,bl⟩,ms⟩)->(eL P N out base).gY (.gY pre m it cl e kt kg vt vg uj b) ⟨env,⟨nx,bl⟩,ms⟩ Q
structure Io (P:Program) (N:Nat) (out:Option Nat) (base:Nat) (f:O) (ps:List Nat) (a b:C):Type 1 where
 run:{R:Type}->Kz R->Env->Nat->ah->List Nat->Kc R->R
 ok:∀{X:Type} {env:Env} {nx:Nat} {bl:ah} {ms:List Nat} {K:Kc (Option X)} {r:X},run (iz X) env nx bl ms K=some r ->
  ∀{Q:Ex->St->Prop},(∀e env nx bl ms,K e env nx bl ms=some r->Q e ⟨env,⟨nx,bl⟩,ms⟩)->(eL P N out base).bK f ps a b ⟨env,⟨nx,bl⟩,ms⟩ Q
def Io.s {P:Program} {N:Nat} {out:Option Nat} {base:Nat} {f:O} {ps:List Nat} {a b:C} (T:Io P N out base f ps a b):gH P N out base:=⟨f,ps,a,b,T.run,T.ok⟩
inductive D (P:Program) (N:Nat) (out:Option Nat) (base:Nat):Type 1 where
 |skip
 |aX (items:List dn)
 |draw (cm:List (List Nat)) (items:List dn)
 |seq (a b:D P N out base)
 |cond (c:O) (a b:D P N out base)
 |block (id:Nat) (c:D P N out base)
 |loop (l:bt P N out base)
 |exit (id:Nat)
 |ret
 |bK (l:gH P N out base)
 |gY (l:yL P N out base)
section
variable {P:Program} {N:Nat} {out:Option Nat} {base:Nat} {R:Type}
def D.er : D P N out base → C
 | .skip=>.skip
 | .aX is=>.aX is
 | .draw ps is=>.draw ps is
 | .seq a b=>.seq a.er b.er
 | .cond c a b=>.cond c a.er b.er
 | .block id c=>.block id c.er
 | .loop l=>.loop l.c
 | .exit id=>.exit id
 | .ret=>.ret
 | .bK l=>.bK l.f l.ps l.a l.b
 | .gY l=>.gY l.pre l.m l.it l.cl l.e l.kt l.kg l.vt l.vg l.uj l.b
def rwK (c:O) (b:Bool) (env:Env):Env:=match c with
 | .t n=>(n,.tf b)::env
 | .c _=>env
 | .m _ _=>env
def kE (kz : Kz R) (cx : Cx) (ar : Ar) : D P N out base → Env → Nat → ah → List Nat → Kc R → R
 | .skip,env,nx,bl,ms,K=>K .normal env nx bl ms
 | .aX is,env,nx,bl,ms,K=>kI kz cx ar is env nx bl fun env nx bl=>K .normal env nx bl ms
 | .draw ps is,env,nx,bl,ms,K=>SX kz cx ar (xU is) nx is 0 env bl [] fun env bl cC=>match EL ps cC with
  |true=>fN (nx+is.length) fun nx=>K .normal env nx bl ms
  |false=>kz.no
 | .seq a b,env,nx,bl,ms,K=>kE kz cx ar a env nx bl ms fun e env nx bl ms=>match e with
  | .normal=>kE kz cx ar b env nx bl ms K
  | .exit id=>K (.exit id) env nx bl ms
  | .ret=>K .ret env nx bl ms
 | .cond c a b,env,nx,bl,ms,K=>match c.ev env with
  | .tf true=>kE kz cx ar a env nx bl ms K
  | .tf false=>kE kz cx ar b env nx bl ms K
  | .bool x=>kz.br x (kE kz cx ar a (rwK c true env) nx bl ms K) (kE kz cx ar b (rwK c false env) nx bl ms K)
  | .cb x=>kz.br x (kz.am (kE kz cx ar a (rwK c true env) nx bl ms K) (kE kz cx ar b (rwK c false env) nx bl ms K)) (kE kz cx ar b (rwK c false env) nx bl ms K)
  |_=>kz.no
 | .block id c,env,nx,bl,ms,K=>kE kz cx ar c env nx bl ms fun e env nx bl ms=>match e with
  | .normal=>K .normal env nx bl ms
  | .exit id'=>match Nat.beq id' id with
   |true=>K .normal env nx bl ms
   |false=>K (.exit id') env nx bl ms
  | .ret=>K .ret env nx bl ms
 | .loop l,env,nx,bl,ms,K=>X2 kz cx.op ar bl fun bl=>l.run kz env nx bl ms K
 | .exit id,env,nx,bl,ms,K=>K (.exit id) env nx bl ms
 | .ret,env,nx,bl,ms,K=>K .ret env nx bl ms
 | .bK l,env,nx,bl,ms,K=>X2 kz cx.op ar bl fun bl=>l.run kz env nx bl ms K
 | .gY l,env,nx,bl,ms,K=>X2 kz cx.op ar bl fun bl=>l.run kz env nx bl ms K
variable {X:Type} {cx:Cx}
theorem nS {ob:List Bool} {x:Option X} {r:X} (h:sW (iz X) ob x=some r):wD ob/\x=some r:=by
 induction ob with
 |nil=>exact ⟨trivial,h⟩
 |cons b l ih =>
  obtain ⟨h1,h2⟩:=cZ h
  obtain ⟨h3,h4⟩:=ih h2
  cases l with
  |nil=>exact ⟨h1,h4⟩
  |cons c l=>exact ⟨⟨h1,h3⟩,h4⟩
theorem Bx {g : Option (Nat × Bool)} {env : Env} {nx : Nat} {bl : ah} {ms : List Nat} {skip run : Env → Option X} {r : X} (h : C0 (iz X) g env skip run = some r) {d : Option Nat} {K run' : St → Prop}
  (hs:∀env,skip env=some r->K ⟨put d (.dc []) env,⟨nx,bl⟩,ms⟩) (hr:∀env,run env=some r->run' ⟨env,⟨nx,bl⟩,ms⟩):nD g d ⟨env,⟨nx,bl⟩,ms⟩ K run':=by
 unfold C0 at h
 unfold nD
 split at h
 ·exact hr _ h
 ·rename_i s b
  simp only
  split at h
  ·rename_i c hc
   rw [hc]
   cases c<;>cases b<;>simp only at h ⊢
   ·exact hr _ h
   ·exact hs _ h
   ·exact hs _ h
   ·exact hr _ h
  ·rename_i c hc
   rw [hc]
   rcases iN h with ⟨e,h⟩|⟨e,h⟩
   ·refine ⟨fun _ => ?_, fun e' => by rw [e] at e'; cases e'⟩
    cases b<;>simp only at h ⊢
    ·exact hs _ h
    ·exact hr _ h
   ·refine ⟨fun e' => (by rw [e] at e'; cases e'), fun _ => ?_⟩
    cases b<;>simp only at h ⊢
    ·exact hr _ h
    ·exact hs _ h
  ·rename_i hc
   rw [hc]
   exact hs _ h
  ·cases h
theorem PI {op:Nat} {bl:ah} {k:ah->Option X} {r:X} (h:X2 (iz X) op bW bl k=some r):k bl=some r\/∃ids u,Of (eL P N out base) ids bl=some u/\k (bF u bl)=some r:=by
 unfold X2 at h
 split at h
 ·exact .inl h
 ·split at h
  ·exact .inl h
  ·split at h <;> try (cases h; done)
   rename_i u hu
   rw [gr] at h
   exact .inr ⟨_,u,by unfold eL;rw [Pn];exact hu,h⟩
theorem C1 {op:Nat} {env:Env} {nx:Nat} {bl:ah} {ms:List Nat} {k:ah->Option X} {r:X} (h:X2 (iz X) op bW bl k=some r) {K:St->Prop} (hK:∀bl,k bl=some r->K ⟨env,⟨nx,bl⟩,ms⟩):Mb (eL P N out base) ⟨env,⟨nx,bl⟩,ms⟩ K:=by
 rcases PI (P:=P) (N:=N) (out:=out) (base:=base) h with h|⟨ids,u,hu,h⟩
 ·exact .inl (hK _ h)
 ·exact .inr ⟨ids,u,hu,hK _ h⟩
theorem o5 (gm:cx.Ok P):∀{is:List dn} {env:Env} {nx:Nat} {bl:ah} {ms:List Nat} {K:Env->Nat->ah->Option X} {r:X} {Q:St->Prop},kI (iz X) cx bW is env nx bl K=some r ->
  (∀env nx bl,K env nx bl=some r->Q ⟨env,⟨nx,bl⟩,ms⟩)->dW (eL P N out base) is ⟨env,⟨nx,bl⟩,ms⟩ Q
 |[],env,nx,bl,ms,K,r,Q,h,hK=>hK _ _ _ h
 | .op d g i::is,env,nx,bl,ms,K,r,Q,h,hK=>by
  simp only [kI] at h
  simp only [dW]
  have body:∀{env:Env} {bl:ah} {ob:List Bool} {v:V} {u:eZ},XV bW i env bl nx=some (ob,v,u) ->
    sW (iz X) ob (fV v fun v=>wJ d v env fun env=>match i.lays with
     |true=>fN (nx+1) fun nx=>ij u bl fun bl=>kI (iz X) cx bW is env nx bl K
     |false=>ij u bl fun bl=>kI (iz X) cx bW is env nx bl K)=some r ->
    cg (eL P N out base) i env bl nx=some (ob,v,u)/\wD ob/\dW (eL P N out base) is ⟨put d v env,⟨Og i.lays nx,bF u bl⟩,ms⟩ Q:=by
   intro env bl ob v u ag h
   obtain ⟨cV,h⟩:=nS h
   rw [ow,lV] at h
   rw [Pv] at ag
   refine ⟨by unfold eL;rw [Pk];exact ag,cV,?_⟩
   split at h
   ·rename_i hl
    rw [gP,gr] at h
    simp only [hl,Og]
    exact o5 gm h hK
   ·rename_i hl
    rw [gr] at h
    simp only [hl,Og]
    exact o5 gm h hK
  refine Bx h (fun env h=>?_) (fun env h=>?_)
  ·rw [lV] at h;exact o5 gm h hK
  ·split at h
   ·split at h
    ·rename_i ob v u ag
     obtain ⟨h1,h2,h3⟩:=body ag h
     exact CU h1 h2 h3
    ·cases h
   ·split at h
    ·rename_i ob v u ag
     obtain ⟨cV,h⟩:=nS h
     rw [ow,lV] at h
     refine ZW (by unfold eL;rw [Pm];exact ag) cV ?_
     split at h
     ·rename_i hl
      rw [gP,gr] at h
      simp only [hl,Og]
      exact o5 gm h hK
     ·rename_i hl
      rw [gr] at h
      simp only [hl,Og]
      exact o5 gm h hK
    ·split at h
     ·rename_i ob v u ag
      obtain ⟨h1,h2,h3⟩:=body ag h
      exact CU h1 h2 h3
     ·rcases PI (P := P) (N := N) (out := out) (base := base) h with h | ⟨ids, u', hu, h⟩
      ·split at h
       ·rename_i ob v u ag
        obtain ⟨h1,h2,h3⟩:=body ag h
        exact CU h1 h2 h3
       ·cases h
      ·split at h
       ·rename_i ob v u ag
        obtain ⟨h1,h2,h3⟩:=body ag h
        exact ZX hu h1 h2 h3
       ·cases h
 | .call d g f a tys::is,env,nx,bl,ms,K,r,Q,h,hK=>by
  simp only [kI] at h
  simp only [dW]
  refine Bx h (fun env h=>?_) (fun env h=>?_)
  ·rw [lV] at h;exact o5 gm h hK
  ·simp only [Cr]
   refine C1 h fun bl h=>?_
   simp only [sv]
   split at h
   ·rename_i f' fs cs hf
    rw [hf]
    refine gm.T2 h fun v nx bl h=>?_
    rw [ow,lV] at h
    exact o5 gm h hK
   ·rename_i id hf
    rw [hf]
    refine gm.rok h fun v nx bl h=>?_
    rw [ow,lV] at h
    exact o5 gm h hK
   ·cases h
theorem sX {gs:List Nat} {d:Option Nat} {v:V} {env:Env} {K:Env->Option X} {r:X} (h:Bw (iz X) gs d v env K=some r) {K':Env->Prop} (hK:∀env,K env=some r->K' env):EN gs d v env K':=by
 unfold Bw at h
 unfold EN
 cases d with
 |none=>exact hK _ h
 |some t =>
  simp only at h ⊢
  split at h
  ·rename_i hm;rw [hm];exact hK _ h
  ·rename_i hm
   rw [hm]
   simp only
   split at h
   ·rename_i c
    simp only
    rcases iN h with ⟨e,h⟩|⟨e,h⟩
    ·exact ⟨fun _=>hK _ h,fun e'=>by rw [e] at e';cases e'⟩
    ·exact ⟨fun e'=>(by rw [e] at e';cases e'),fun _=>hK _ h⟩
   ·rename_i hv
    have:=hK _ h
    cases v<;>first|exact this|exact (hv _ rfl).elim
theorem rO (gm:cx.Ok P) {gs:List Nat} {b:Nat}:∀{is:List dn} {k:Nat} {env:Env} {bl:ah} {cC:List DR} {K:Env->ah->List DR->Option X} {r:X} {Q:Env->ah->List DR->Prop},
  SX (iz X) cx bW gs b is k env bl cC K=some r->(∀env bl cC,K env bl cC=some r->Q env bl cC)->sB (eL P N out base) gs b is k env bl cC Q
 |[],k,env,bl,cC,K,r,Q,h,hK=>hK _ _ _ h
 | .op d g i::is,k,env,bl,cC,K,r,Q,h,hK=>by
  simp only [SX] at h
  simp only [sB]
  split at h
  ·rename_i hg
   rw [hg]
   split at h
   ·rename_i ob v u ag
    obtain ⟨cV,h⟩:=nS h
    rw [ow] at h
    have aab:xK (eL P N out base) i env bl (b+k)=some (ob,v,u):=by
     unfold eL;rw [Pm]
     split at ag
     ·cases ag
     ·exact ag
    refine .inr (A6 aab cV (sX h fun env h=>?_))
    rw [gr] at h
    exact rO gm h hK
   ·split at h
    ·rename_i ob v u ag
     obtain ⟨cV,h⟩:=nS h
     rw [ow] at h
     rw [Pv] at ag
     have aab:cg (eL P N out base) i env bl (b+k)=some (ob,v,u):=by unfold eL;rw [Pk];exact ag
     refine .inl (A6 aab cV (sX h fun env h=>?_))
     rw [gr] at h
     exact rO gm h hK
    ·cases h
  ·rename_i hg
   rw [hg]
   rw [lV] at h
   exact rO gm h hK
  ·cases h
 | .call d g f a tys::is,k,env,bl,cC,K,r,Q,h,hK=>by
  simp only [SX] at h
  simp only [sB]
  split at h
  ·rename_i hg
   rw [hg]
   split at h
   ·rename_i f' fs cs hf
    rw [hf]
    split at h
    ·rename_i vs' hm
     obtain ⟨v,hp,h⟩:=gm.X1 h
     rw [ow] at h
     have e:dY (fin (eL P N out base) bl 8)=dY (fin bW bl 8):=funext fun vs=>nN (fun v=>by unfold eL;exact yy) vs
     simp only [e,hm]
     split at h
     ·rename_i hsc
      exact ⟨v,[],hp,by rw [hsc];rfl,sX h fun env h=>rO gm h hK⟩
     ·rename_i hsc
      split at h
      ·rename_i u hu
       exact ⟨v,u,hp,by rw [hsc];exact hu,sX h fun env h=>rO gm (by rw [gr] at h;exact h) hK⟩
      ·cases h
    ·cases h
   ·cases h
  ·rename_i hg
   rw [hg]
   rw [lV] at h
   exact rO gm h hK
  ·cases h
theorem kX (gm:cx.Ok P):∀{d:D P N out base} {env:Env} {nx:Nat} {bl:ah} {ms:List Nat} {K:Kc (Option X)} {r:X} {Q:Ex->St->Prop},kE (iz X) cx bW d env nx bl ms K=some r ->
  (∀e env nx bl ms,K e env nx bl ms=some r->Q e ⟨env,⟨nx,bl⟩,ms⟩)->sj (eL P N out base) d.er ⟨env,⟨nx,bl⟩,ms⟩ Q:=by
 intro d
 induction d with
 |skip=>intro env nx bl ms K r Q h hK;exact hK _ _ _ _ _ h
 |aX is=>intro env nx bl ms K r Q h hK;exact o5 gm h fun env nx bl h=>hK _ _ _ _ _ h
 |draw ps is =>
  intro env nx bl ms K r Q h hK
  refine rO gm h fun env bl cC h=>?_
  split at h
  ·rename_i hd
   rw [gP] at h
   exact ⟨hd,hK _ _ _ _ _ h⟩
  ·cases h
 |seq a b Ip Hz =>
  intro env nx bl ms K r Q h hK
  refine Ip h fun e env nx bl ms h=>?_
  cases e with
  |normal=>exact Hz h hK
  |exit id=>exact hK _ _ _ _ _ h
  |ret=>exact hK _ _ _ _ _ h
 |cond c a b Ip Hz =>
  intro env nx bl ms K r Q h hK
  simp only [kE] at h
  simp only [D.er,sj]
  have hrw:∀x env,Th c x ⟨env,⟨nx,bl⟩,ms⟩=⟨rwK c x env,⟨nx,bl⟩,ms⟩:=fun x env=>by cases c<;>rfl
  split at h
  ·rename_i hc;rw [hc];exact Ip h hK
  ·rename_i hc;rw [hc];exact Hz h hK
  ·rename_i x hc
   rw [hc]
   rcases iN h with ⟨e,h⟩|⟨e,h⟩
   ·refine ⟨fun _ => ?_, fun e' => by rw [e] at e'; cases e'⟩
    rw [hrw];exact Ip h hK
   ·refine ⟨fun e' => (by rw [e] at e'; cases e'), fun _ => ?_⟩
    rw [hrw];exact Hz h hK
  ·rename_i x hc
   rw [hc]
   rcases iN h with ⟨e,h⟩|⟨e,h⟩
   ·obtain ⟨h1, h2⟩ := MF h
    exact ⟨fun _=>by rw [hrw];exact Ip h1 hK,by rw [hrw];exact Hz h2 hK⟩
   ·exact ⟨fun e'=>(by rw [e] at e';cases e'),by rw [hrw];exact Hz h hK⟩
  ·cases h
 |block id c ih =>
  intro env nx bl ms K r Q h hK
  refine ih h fun e env nx bl ms h=>?_
  cases e with
  |normal=>exact hK _ _ _ _ _ h
  |exit id' =>
   simp only at h ⊢
   split at h
   ·rename_i e;rw [e];exact hK _ _ _ _ _ h
   ·rename_i e;rw [e];exact hK _ _ _ _ _ h
  |ret=>exact hK _ _ _ _ _ h
 |loop l=>intro env nx bl ms K r Q h hK;exact C1 h fun bl h=>l.ok h hK
 |exit id=>intro env nx bl ms K r Q h hK;exact hK _ _ _ _ _ h
 |ret=>intro env nx bl ms K r Q h hK;exact hK _ _ _ _ _ h
 |bK l=>intro env nx bl ms K r Q h hK;exact C1 h fun bl h=>l.ok h hK
 |gY l=>intro env nx bl ms K r Q h hK;exact C1 h fun bl h=>l.ok h hK
end
end Go.AM
end
section
namespace Go.AM
inductive CP where
 |any
 |tf (b:Bool)
 |ga
 |cW
 |gn
 |cw
 |hole (t:Ty)
 |bO (b:Nat) (t:Ty)
 |nT (b:Nat) (t:Ty)
 |ptr (b off:Nat)
 |yl (b:Nat)
 |fe (t:Ty)
 |fn0 (f:Nat)
 |Iq (l:CP)
 |MG (l:CP)
 |fn (f:Nat) (a b:CP)
 |Fu (t:Nat) (g:Bool) (l:CP)
 |mp (b:Nat)
 |cT
 |pa (b:Nat) (t:Ty) (n:Nat)
 |mG (t:Ty)
 |nil
 |cons (c l:CP)
inductive SP where
 |c (c:CP)
 |agg (cs:List CP)
 |dc (cs:List CP)
 |fn (f:Nat) (a b:List CP)
 |alt (a b:List CP)
def CP.T : CP → Type → Type
 | .hole t,A=>t.den×A
 | .bO _ _,A=>Nat×A
 | .nT _ _,A=>Nat×Nat×A
 | .fe t,A=>t.den×A
 | .mG t,A=>List t.den×A
 | .Fu _ _ l,A=>l.T A
 | .mp _,A=>A
 | .cT,A=>A
 | .pa _ _ _,A=>A
 | .Iq l,A=>l.T A
 | .MG l,A=>l.T A
 | .fn _ a b,A=>a.T (b.T A)
 | .cons c l,A=>c.T (l.T A)
 | .any,A=>A
 | .tf _,A=>A
 | .ga,A=>A
 | .cW,A=>A
 | .gn,A=>A
 | .cw,A=>A
 | .ptr _ _,A=>A
 | .yl _,A=>A
 | .fn0 _,A=>A
 | .nil,A=>A
def tyV : (t : Ty) → t.den → V
 | .unit,_=>.agg []
 | .bool,b=>.bool b
 | .str,s=>.str s
 | .int k,n=>.int k n
 | .list t,xs=>.fM t xs
 | .prod a b,x=>.agg (cG (.prod a b) x)
 | .cL d g t,x=>.cL d (cG.jc g (cG t x))
def CP.r : (c : CP) → {A : Type} → c.T A → A
 | .any,_,x=>x
 | .tf _,_,x=>x
 | .ga,_,x=>x
 | .cW,_,x=>x
 | .gn,_,x=>x
 | .cw,_,x=>x
 | .hole _,_,x=>x.2
 | .bO _ _,_,x=>x.2
 | .nT _ _,_,x=>x.2.2
 | .ptr _ _,_,x=>x
 | .yl _,_,x=>x
 | .fe _,_,x=>x.2
 | .mG _,_,x=>x.2
 | .Fu _ _ l,_,x=>l.r x
 | .mp _,_,x=>x
 | .cT,_,x=>x
 | .pa _ _ _,_,x=>x
 | .fn0 _,_,x=>x
 | .Iq l,_,x=>l.r x
 | .MG l,_,x=>l.r x
 | .fn _ a b,_,x=>b.r (a.r x)
 | .nil,_,x=>x
 | .cons c l,_,x=>l.r (c.r x)
def CP.vs : (c : CP) → {A : Type} → c.T A → List V
 | .any,_,_=>[.any]
 | .tf b,_,_=>[.tf b]
 | .ga,_,_=>[.ga]
 | .cW,_,_=>[.cW]
 | .gn,_,_=>[.gn]
 | .cw,_,_=>[.cw]
 | .hole t,_,x=>[tyV t x.1]
 | .bO b t,_,x=>[.sl b t 0 x.1]
 | .nT b t,_,x=>[.sl b t x.1 x.2.1]
 | .ptr b off,_,_=>[.ptr b off]
 | .yl b,_,_=>[.yl b]
 | .fe t,_,x=>[.fe (cG t x.1)]
 | .fn0 f,_,_=>[.fn f [] []]
 | .Iq l,_,x=>[.fe (l.vs x)]
 | .MG l,_,x=>[.agg (l.vs x)]
 | .Fu t g l,_,x=>[.cL t (cG.jc g (l.vs x))]
 | .mp b,_,_=>[.mp b]
 | .cT,_,_=>[.cT]
 | .pa b t n,_,_=>[.pa b t n]
 | .mG t,_,x=>[.mG t x.1]
 | .fn f a b,_,x=>[.fn f (a.vs x) (b.vs (a.r x))]
 | .nil,_,_=>[]
 | .cons c l,_,x=>c.vs x++l.vs (c.r x)
def Pz : List V → V
 |v::_=>v
 |[]=>.any
def CP.v {A:Type} (c:CP) (x:c.T A):V:=Pz (c.vs x)
def mY : List CP → Type → Type
 |[],A=>A
 |c::r,A=>c.T (mY r A)
def rP {A : Type} : (cs : List CP) → mY cs A → List V
 |[],_=>[]
 |c::r,x=>c.v x::rP r (c.r x)
def sY {A : Type} : (cs : List CP) → mY cs A → A
 |[],x=>x
 |c::r,x=>sY r (c.r x)
def SP.T : SP → Type → Type
 | .c q,A=>q.T A
 | .agg cs,A=>mY cs A
 | .dc cs,A=>mY cs A
 | .fn _ a b,A=>mY a (mY b A)
 | .alt a b,A=>mY a A ⊕ mY b A
def SP.v {A : Type} : (p : SP) → p.T A → V
 | .c q,x=>q.v x
 | .agg cs,x=>.agg (rP cs x)
 | .dc cs,x=>.dc (rP cs x)
 | .fn f a b,x=>.fn f (rP a x) (rP b (sY a x))
 | .alt a b,x=>match x with
  | .inl y=>.dc (rP a y)
  | .inr y=>.dc (rP b y)
def SP.r {A : Type} : (p : SP) → p.T A → A
 | .c q,x=>q.r x
 | .agg cs,x=>sY cs x
 | .dc cs,x=>sY cs x
 | .fn _ a b,x=>sY b (sY a x)
 | .alt a b,x=>match x with
  | .inl y=>sY a y
  | .inr y=>sY b y
def AB : List (Nat × SP) → Type → Type
 |[],A=>A
 |(_,p)::r,A=>p.T (AB r A)
def yM {A : Type} : (ps : List (Nat × SP)) → AB ps A → Env
 |[],_=>[]
 |(s,p)::r,x=>(s,p.v x)::yM r (p.r x)
def PJ {A : Type} : (ps : List (Nat × SP)) → AB ps A → A
 |[],x=>x
 |(_,p)::r,x=>PJ r (p.r x)
inductive BP where
 |arr (t:Ty) (fz:Bool)
 |cells (cs:List CP) (fz:Bool)
 |loop (st:rz) (j:Option Ex) (d:Nat) (env:List (Nat×SP)) (ps:List Nat) (as bd:C) (N:Nat)
 |iy
 |map (kt:Ty) (kg:Bool) (vt:Ty) (vg:Bool)
 |ov (t:Ty) (i:Nat) (p:List Bool) (c:CP)
def BP.T : BP → Type → Type
 | .arr t _,A=>List t.den×A
 | .cells cs _,A=>mY cs A
 | .loop _ _ _ env _ _ _ _,A=>AB env A
 | .iy,A=>A
 | .map kt _ vt _,A=>List (kt.den×vt.den)×A
 | .ov t _ _ c,A=>List t.den×c.T A
def BP.v {A : Type} : (p : BP) → p.T A → lJ
 | .arr t fz,x=>.arr t x.1 fz
 | .cells cs fz,x=>.cells (rP cs x) fz
 | .loop st j d env ps as bd N,x=>.loop st j d (yM env x) ps as bd N
 | .iy,_=>.iy
 | .map kt kg vt vg,x=>.map kt kg vt vg x.1
 | .ov t i p c,x=>.ov t x.1 i p (c.v x.2)
def BP.r {A : Type} : (p : BP) → p.T A → A
 | .arr _ _,x=>x.2
 | .cells cs _,x=>sY cs x
 | .loop _ _ _ env _ _ _ _,x=>PJ env x
 | .iy,x=>x
 | .map _ _ _ _,x=>x.2
 | .ov _ _ _ c,x=>c.r x.2
def T3 : List (Nat × BP) → Type → Type
 |[],A=>A
 |(_,p)::r,A=>p.T (T3 r A)
def SY {A : Type} : (ps : List (Nat × BP)) → T3 ps A → ah
 |[],_=>[]
 |(s,p)::r,x=>(s,p.v x)::SY r (p.r x)
inductive Lc where
 |slot (s:Nat)
 |part (s k:Nat)
 |cell (b k:Nat)
 |old (i:Nat)
 |mark (j:Nat)
structure au where
 env:List (Nat×SP)
 bl:List (Nat×BP)
 iA:List Lc
 ms:List Nat
def au.T (p:au):Type:=AB p.env (T3 p.bl Unit)
def au.E (p:au) (x:p.T):Env:=yM p.env x
def au.B (p:au) (x:p.T):ah:=SY p.bl (PJ p.env x)
def au.st (base:Nat) (p:au) (x:p.T):St:=⟨p.E x,⟨base+p.iA.length,p.B x⟩,p.ms⟩
def wK : List Nat → Nat → Option Nat
 |[],_=>none
 |i::_,0=>some i
 |_::r,n+1=>wK r n
def mC : Bool → Bool → Bool
 |true,true=>true
 |false,false=>true
 |_,_=>false
def mZ : (t t' : Ty) → Bool
 | .unit,.unit=>true
 | .bool,.bool=>true
 | .str,.str=>true
 | .int k,.int k'=>decide (k=k')
 | .list t,.list t'=>mZ t t'
 | .prod a b,.prod a' b'=>match mZ a a' with
  |true=>mZ b b'
  |false=>false
 | .cL d g a,.cL d' g' a'=>match Nat.beq d d' with
  |true=>match mC g g' with
   |true=>mZ a a'
   |false=>false
  |false=>false
 |_,_=>false
def AD (π:List Nat) (b i:Nat):Bool:=match wK π b with
 |some j=>Nat.beq j i
 |none=>false
def C2 : (t : Ty) → V → Option t.den
 | .bool,.bool b=>some b
 | .bool,.tf b=>some b
 | .str,.str s=>some s
 | .int k,.int k' n=>match decide (k=k') with
  |true=>some n
  |false=>none
 | .list t,.fM t' xs=>kD t' t xs
 | .list _,.cw=>some []
 | .prod a b,.agg cs=>match bw bW [] (.prod a b) cs with
  |some (x,_,[])=>some x
  |_=>none
 | .cL d g a,v=>match bw bW [] (.cL d g a) [v] with
  |some (x,_,[])=>some x
  |_=>none
 |_,_=>none
def CP.rd1 {A:Type} (π:List Nat) (c:CP) (v:V):Option (A->c.T A) :=
 match c with
 | .any=>some fun a=>a
 | .tf b=>match v with
  | .tf b'=>match mC b b' with
   |true=>some fun a=>a
   |false=>none
  |_=>none
 | .ga=>match v with
  | .ga=>some fun a=>a
  |_=>none
 | .cW=>match v with
  | .cW=>some fun a=>a
  |_=>none
 | .gn=>match v with
  | .gn=>some fun a=>a
  |_=>none
 | .cw=>match v with
  | .cw=>some fun a=>a
  |_=>none
 | .hole t=>match C2 t v with
  |some x=>some fun a=>(x,a)
  |none=>none
 | .bO b t=>match v with
  | .sl i t' lo n=>match AD π b i with
   |true=>match mZ t' t with
    |true=>match Nat.beq lo 0 with
     |true=>some fun a=>(n,a)
     |false=>none
    |false=>none
   |false=>none
  | .cw=>some fun a=>((0:Nat),a)
  |_=>none
 | .nT b t=>match v with
  | .sl i t' lo n=>match AD π b i with
   |true=>match mZ t' t with
    |true=>some fun a=>(lo,n,a)
    |false=>none
   |false=>none
  | .cw=>some fun a=>((0:Nat),(0:Nat),a)
  |_=>none
 | .ptr b off=>match v with
  | .ptr i o=>match AD π b i with
   |true=>match Nat.beq o off with
    |true=>some fun a=>a
    |false=>none
   |false=>none
  |_=>none
 | .yl b=>match v with
  | .yl i=>match AD π b i with
   |true=>some fun a=>a
   |false=>none
  |_=>none
 | .fe t=>match v with
  | .fe cs=>match bw bW [] t cs with
   |some (x,_,[])=>some fun a=>(x,a)
   |_=>none
  |_=>none
 | .mp b=>match v with
  | .mp i=>match AD π b i with
   |true=>some fun a=>a
   |false=>none
  |_=>none
 | .cT=>match v with
  | .cT=>some fun a=>a
  |_=>none
 | .pa b t n=>match v with
  | .pa i t' n'=>match AD π b i with
   |true=>match mZ t' t with
    |true=>match Nat.beq n' n with
     |true=>some fun a=>a
     |false=>none
    |false=>none
   |false=>none
  |_=>none
 | .mG t=>match v with
  | .mG t' xs=>match kD t' t xs with
   |some ys=>some fun a=>(ys,a)
   |none=>none
  |_=>none
 | .fn0 f=>match v with
  | .fn f' [] []=>match Nat.beq f' f with
   |true=>some fun a=>a
   |false=>none
  |_=>none
 |_=>none
def CP.HA (π : List Nat) : (c : CP) → {A : Type} → List V → Option ((A → c.T A) × List V)
 | .nil,_,vs=>some (fun a=>a,vs)
 | .cons c l,A,vs=>match c.HA π (A:=l.T A) vs with
  |some (f,vs')=>match l.HA π (A:=A) vs' with
   |some (g,vs'')=>some (fun a=>f (g a),vs'')
   |none=>none
  |none=>none
 | .Iq l,A,vs=>match vs with
  | .fe cs::r=>match l.HA π (A:=A) cs with
   |some (f,[])=>some (f,r)
   |_=>none
  |_=>none
 | .MG l,A,vs=>match vs with
  | .agg cs::r=>match l.HA π (A:=A) cs with
   |some (f,[])=>some (f,r)
   |_=>none
  |_=>none
 | .Fu t g l,A,vs=>match vs with
  | .cL t' v::r=>match Nat.beq t' t with
   |true=>match Cm g v with
    |some cs=>match l.HA π (A:=A) cs with
     |some (f,[])=>some (f,r)
     |_=>none
    |none=>none
   |false=>none
  |_=>none
 | .fn f a b,A,vs=>match vs with
  | .fn f' va vb::r=>match Nat.beq f' f with
   |true=>match a.HA π (A:=b.T A) va with
    |some (g,[])=>match b.HA π (A:=A) vb with
     |some (h,[])=>some (fun x=>g (h x),r)
     |_=>none
    |_=>none
   |false=>none
  |_=>none
 |c,_,vs=>match vs with
  |v::r=>match c.rd1 π v with
   |some f=>some (f,r)
   |none=>none
  |[]=>none
def CP.rd {A:Type} (π:List Nat) (c:CP) (v:V):Option (A->c.T A):=match c.HA π (A:=A) [v] with
 |some (f,[])=>some f
 |_=>none
def fZ {A : Type} (π : List Nat) : (cs : List CP) → List V → Option (A → mY cs A)
 |[],[]=>some fun a=>a
 |c::r,v::vs=>match CP.rd (A:=mY r A) π c v with
  |some f=>match fZ (A:=A) π r vs with
   |some g=>some fun a=>f (g a)
   |none=>none
  |none=>none
 |_,_=>none
def SP.rd {A:Type} (π:List Nat) (p:SP) (v:V):Option (A->p.T A) :=
 match p with
 | .c q=>q.rd π v
 | .agg cs=>match v with
  | .agg vs=>fZ π cs vs
  |_=>none
 | .dc cs=>match v with
  | .dc vs=>fZ π cs vs
  |_=>none
 | .fn f a b=>match v with
  | .fn f' va vb=>match Nat.beq f' f with
   |true=>match fZ (A:=mY b A) π a va with
    |some g=>match fZ (A:=A) π b vb with
     |some h=>some fun x=>g (h x)
     |none=>none
    |none=>none
   |false=>none
  |_=>none
 | .alt a b=>match v with
  | .dc vs=>match fZ (A:=A) π a vs with
   |some f=>some fun x=>.inl (f x)
   |none=>match fZ (A:=A) π b vs with
    |some f=>some fun x=>.inr (f x)
    |none=>none
  |_=>none
def SP.kv {R : Type} (kz : Kz R) : (p : SP) → p.T Unit → (V → R) → R
 | .alt a b,y,K=>kz.sm (A:=mY a Unit) (B:=mY b Unit) y (fun x=>K (.dc (rP a x))) (fun x=>K (.dc (rP b x)))
 | .c q,y,K=>K (SP.v (.c q) y)
 | .agg cs,y,K=>K (SP.v (.agg cs) y)
 | .dc cs,y,K=>K (SP.v (.dc cs) y)
 | .fn f a b,y,K=>K (SP.v (.fn f a b) y)
theorem SP.aeU {X : Type} : ∀ (p : SP) (y : p.T Unit) (K : V → Option X), p.kv (iz X) y K = K (p.v y)
 | .alt _ _,.inl _,_=>rfl
 | .alt _ _,.inr _,_=>rfl
 | .c _,_,_=>rfl
 | .agg _,_,_=>rfl
 | .dc _,_,_=>rfl
 | .fn _ _ _,_,_=>rfl
def Bz {A : Type} (π : List Nat) (env : Env) : (ps : List (Nat × SP)) → Option (A → AB ps A)
 |[]=>some fun a=>a
 |(s,p)::r=>match SP.rd (A:=AB r A) π p (get s env) with
  |some f=>match Bz (A:=A) π env r with
   |some g=>some fun a=>f (g a)
   |none=>none
  |none=>none
mutual
def T4 : V → V → Bool
 | .any,.any=>true
 | .tf a,.tf b=>mC a b
 | .bool a,.bool b=>mC a b
 | .int k n,.int k' m=>match decide (k=k') with
  |true=>decide (n=m)
  |false=>false
 | .ga,.ga=>true
 | .cW,.cW=>true
 | .gn,.gn=>true
 | .cT,.cT=>true
 | .cw,.cw=>true
 | .str s,.str s'=>decide (s=s')
 | .fn f a b,.fn f' a' b'=>match Nat.beq f f' with
  |true=>match qG a a' with
   |true=>qG b b'
   |false=>false
  |false=>false
 | .agg a,.agg b=>qG a b
 |_,_=>false
def qG : List V → List V → Bool
 |[],[]=>true
 |a::r,b::s=>match T4 a b with
  |true=>qG r s
  |false=>false
 |_,_=>false
end
mutual
theorem Ka : ∀ {a b : V}, T4 a b = true → a = b
 |a,b,h=>by
  cases a<;>cases b<;>simp only [T4,Bool.false_eq_true] at h<;>try rfl
  case tf.tf x y=>cases x<;>cases y<;>simp_all [mC]
  case bool.bool x y=>cases x<;>cases y<;>simp_all [mC]
  case int.int=>split at h<;>simp_all
  case str.str=>simp_all
  case fn.fn =>
   split at h<;>try (cases h;done)
   rename_i h1
   split at h<;>try (cases h;done)
   rename_i h2
   rw [Nat.eq_of_beq_eq_true h1,nc h2,nc h]
  case agg.agg=>rw [nc h]
theorem nc : ∀ {a b : List V}, qG a b = true → a = b
 |[],[],_=>rfl
 |a::r,b::s,h=>by
  simp only [qG] at h
  split at h<;>try (cases h;done)
  rename_i h1
  rw [Ka h1,nc h]
 |[],_::_,h=>by simp [qG] at h
 |_::_,[],h=>by simp [qG] at h
end
end Go.AM
end
section
namespace Go.AM
def an (a b:Bool):Bool:=match a with
 |true=>b
 |false=>false
theorem aS {a b:Bool}:an a b=true↔a=true/\b=true:=by cases a<;>simp [an]
theorem eS {a b:Bool} (h:mC a b=true):a=b:=by cases a<;>cases b<;>simp_all [mC]
theorem lW:∀{t t':Ty},mZ t t'=true->t=t':=by
 intro t
 induction t with
 |unit=>intro t' h;cases t'<;>simp [mZ] at h ⊢
 |bool=>intro t' h;cases t'<;>simp [mZ] at h ⊢
 |str=>intro t' h;cases t'<;>simp [mZ] at h ⊢
 |int k=>intro t' h;cases t'<;>simp [mZ] at h ⊢;exact h
 |list t ih=>intro t' h;cases t'<;>simp [mZ] at h ⊢;exact ih h
 |prod a b Ip Hz =>
  intro t' h
  cases t'<;>simp only [mZ,Bool.false_eq_true] at h
  split at h<;>try (cases h;done)
  rename_i h1
  rw [Ip h1,Hz h]
 |cL d g a ih =>
  intro t' h
  cases t'<;>simp only [mZ,Bool.false_eq_true] at h
  split at h<;>try (cases h;done)
  rename_i h1
  split at h<;>try (cases h;done)
  rename_i h2
  rw [Nat.eq_of_beq_eq_true h1,eS h2,ih h]
def PK (a b:IntKind):Bool:=decide (a=b)
theorem PL {a b:IntKind} (h:PK a b=true):a=b:=by simpa [PK] using h
def PM (a b:An):Bool:=decide (a=b)
theorem PN {a b:An} (h:PM a b=true):a=b:=by simpa [PM] using h
def PO : Kd → Kd → Bool
 | .b,.b=>true
 | .i,.i=>true
 | .s,.s=>true
 |_,_=>false
theorem PR {x y:Kd} (h:PO x y=true):x=y:=by cases x<;>cases y<;>simp_all [PO]
def kY {α : Type} (f : α → α → Bool) : List α → List α → Bool
 |[],[]=>true
 |a::r,b::s=>match f a b with
  |true=>kY f r s
  |false=>false
 |_,_=>false
theorem fH {α : Type} {f : α → α → Bool} (hf : ∀ {a b}, f a b = true → a = b) : ∀ {a b : List α}, kY f a b = true → a = b
 |[],[],_=>rfl
 |a::r,b::s,h=>by
  simp only [kY] at h
  split at h<;>try (cases h;done)
  rename_i h1
  rw [hf h1,fH hf h]
 |[],_::_,h=>by simp [kY] at h
 |_::_,[],h=>by simp [kY] at h
def X3:=kY PO
theorem PS {a b:List Kd} (h:X3 a b=true):a=b:=fH PR h
def PT:=kY mC
theorem Fv {a b:List Bool} (h:PT a b=true):a=b:=fH eS h
def Fw:=kY Nat.beq
theorem sZ {a b:List Nat} (h:Fw a b=true):a=b:=fH Nat.eq_of_beq_eq_true h
def PU:=kY Fw
theorem MH {a b:List (List Nat)} (h:PU a b=true):a=b:=fH sZ h
def eE : O → O → Bool
 | .t n,.t m=>Nat.beq n m
 | .c v,.c u=>T4 v u
 | .m n l,.m m k=>an (Nat.beq n m) (decide (l=k))
 |_,_=>false
theorem bf {a b:O} (h:eE a b=true):a=b:=by
 cases a<;>cases b<;>simp only [eE,Bool.false_eq_true] at h
 ·rw [Nat.eq_of_beq_eq_true h]
 ·rw [Ka h]
 ·rw [aS] at h;rw [Nat.eq_of_beq_eq_true h.1,of_decide_eq_true h.2]
def yN:=kY eE
theorem nh {a b:List O} (h:yN a b=true):a=b:=fH bf h
def Fx : Option O → Option O → Bool
 |none,none=>true
 |some a,some b=>eE a b
 |_,_=>false
theorem yO {a b:Option O} (h:Fx a b=true):a=b:=by
 cases a<;>cases b<;>simp only [Fx,Bool.false_eq_true] at h
 ·rfl
 ·rw [bf h]
def aac : Nat × Nat × O → Nat × Nat × O → Bool
 |(a,b,x),(a',b',x')=>an (Nat.beq a a') (an (Nat.beq b b') (eE x x'))
theorem T5 {p q:Nat×Nat×O} (h:aac p q=true):p=q:=by
 obtain ⟨a,b,c⟩:=p
 obtain ⟨a',b',c'⟩:=q
 simp only [aac,aS] at h
 rw [Nat.eq_of_beq_eq_true h.1,Nat.eq_of_beq_eq_true h.2.1,bf h.2.2]
def X4:=kY aac
theorem PV {a b:List (Nat×Nat×O)} (h:X4 a b=true):a=b:=fH T5 h
def gI : I → I → Bool
 | .mv x0,.mv y0=>eE x0 y0
 | .pick x0 x1 x2,.pick y0 y1 y2=>an (eE x0 y0) (an (eE x1 y1) (eE x2 y2))
 | .alloc x0,.alloc y0=>qG x0 y0
 | .box x0,.box y0=>eE x0 y0
 | .build x0 x1,.build y0 y1=>an (qG x0 y0) (X4 x1 y1)
 | .eY x0 x1,.eY y0 y1=>an (mZ x0 y0) (yN x1 y1)
 | .load x0 x1 x2,.load y0 y1 y2=>an (mC x0 y0) (an (Nat.beq x1 y1) (eE x2 y2))
 | .store x0 x1 x2,.store y0 y1 y2=>an (Nat.beq x0 y0) (an (eE x1 y1) (eE x2 y2))
 | .bin x0 x1 x2,.bin y0 y1 y2=>an (PM x0 y0) (an (eE x1 y1) (eE x2 y2))
 | .S9 x0 x1 x2,.S9 y0 y1 y2=>an (mC x0 y0) (an (eE x1 y1) (eE x2 y2))
 | .eqs x0 x1 x2 x3,.eqs y0 y1 y2 y3=>an (mC x0 y0) (an (X3 x1 y1) (an (eE x2 y2) (eE x3 y3)))
 | .neg x0,.neg y0=>eE x0 y0
 | .not x0,.not y0=>eE x0 y0
 | .conv x0 x1,.conv y0 y1=>an (PK x0 y0) (eE x1 y1)
 | .lI x0 x1 x2,.lI y0 y1 y2=>an (Nat.beq x0 y0) (an (PT x1 y1) (eE x2 y2))
 | .field x0 x1 x2 x3,.field y0 y1 y2 y3=>an (mC x0 y0) (an (Nat.beq x1 y1) (an (Nat.beq x2 y2) (eE x3 y3)))
 | .idx x0 x1 x2,.idx y0 y1 y2=>an (Nat.beq x0 y0) (an (eE x1 y1) (eE x2 y2))
 | .Ao x0 x1 x2 x3,.Ao y0 y1 y2 y3=>an (Nat.beq x0 y0) (an (Nat.beq x1 y1) (an (eE x2 y2) (eE x3 y3)))
 | .ext x0 x1,.ext y0 y1=>an (Nat.beq x0 y0) (eE x1 y1)
 | .len x0,.len y0=>eE x0 y0
 | .lens x0,.lens y0=>eE x0 y0
 | .Ap x0,.Ap y0=>Nat.beq x0 y0
 | .append x0 x1 x2,.append y0 y1 y2=>an (Nat.beq x0 y0) (an (eE x1 y1) (eE x2 y2))
 | .iU x0 x1,.iU y0 y1=>an (mZ x0 y0) (eE x1 y1)
 | .Ck x0 x1 x2,.Ck y0 y1 y2=>an (Nat.beq x0 y0) (an (yN x1 y1) (yN x2 y2))
 | .slice x0 x1 x2 x3 x4,.slice y0 y1 y2 y3 y4=>an (Nat.beq x0 y0) (an (eE x1 y1) (an (Fx x2 y2) (an (Fx x3 y3) (Fx x4 y4))))
 | .me x0 x1 x2,.me y0 y1 y2=>an (mC x0 y0) (an (eE x1 y1) (yN x2 y2))
 | .ex x0 x1,.ex y0 y1=>an (decide (x0=y0)) (yN x1 y1)
 |_,_=>false
theorem T6 {a b:I} (h:gI a b=true):a=b:=by
 cases a<;>cases b<;>first|(simp only [gI,Bool.false_eq_true] at h;done)|skip
 case mv.mv=>simp only [gI,aS] at h;rw [bf h]
 case pick.pick=>simp only [gI,aS] at h;rw [bf h.1,bf h.2.1,bf h.2.2]
 case alloc.alloc=>simp only [gI,aS] at h;rw [nc h]
 case box.box=>simp only [gI,aS] at h;rw [bf h]
 case build.build=>simp only [gI,aS] at h;rw [nc h.1,PV h.2]
 case eY.eY=>simp only [gI,aS] at h;rw [lW h.1,nh h.2]
 case load.load=>simp only [gI,aS] at h;rw [eS h.1,Nat.eq_of_beq_eq_true h.2.1,bf h.2.2]
 case store.store=>simp only [gI,aS] at h;rw [Nat.eq_of_beq_eq_true h.1,bf h.2.1,bf h.2.2]
 case bin.bin=>simp only [gI,aS] at h;rw [PN h.1,bf h.2.1,bf h.2.2]
 case S9.S9=>simp only [gI,aS] at h;rw [eS h.1,bf h.2.1,bf h.2.2]
 case eqs.eqs=>simp only [gI,aS] at h;rw [eS h.1,PS h.2.1,bf h.2.2.1,bf h.2.2.2]
 case neg.neg=>simp only [gI,aS] at h;rw [bf h]
 case not.not=>simp only [gI,aS] at h;rw [bf h]
 case conv.conv=>simp only [gI,aS] at h;rw [PL h.1,bf h.2]
 case lI.lI=>simp only [gI,aS] at h;rw [Nat.eq_of_beq_eq_true h.1,Fv h.2.1,bf h.2.2]
 case field.field=>simp only [gI,aS] at h;rw [eS h.1,Nat.eq_of_beq_eq_true h.2.1,Nat.eq_of_beq_eq_true h.2.2.1,bf h.2.2.2]
 case idx.idx=>simp only [gI,aS] at h;rw [Nat.eq_of_beq_eq_true h.1,bf h.2.1,bf h.2.2]
 case Ao.Ao=>simp only [gI,aS] at h;rw [Nat.eq_of_beq_eq_true h.1,Nat.eq_of_beq_eq_true h.2.1,bf h.2.2.1,bf h.2.2.2]
 case ext.ext=>simp only [gI,aS] at h;rw [Nat.eq_of_beq_eq_true h.1,bf h.2]
 case len.len=>simp only [gI,aS] at h;rw [bf h]
 case lens.lens=>simp only [gI,aS] at h;rw [bf h]
 case Ap.Ap=>simp only [gI,aS] at h;rw [Nat.eq_of_beq_eq_true h]
 case append.append=>simp only [gI,aS] at h;rw [Nat.eq_of_beq_eq_true h.1,bf h.2.1,bf h.2.2]
 case iU.iU=>simp only [gI,aS] at h;rw [lW h.1,bf h.2]
 case Ck.Ck=>simp only [gI,aS] at h;rw [Nat.eq_of_beq_eq_true h.1,nh h.2.1,nh h.2.2]
 case slice.slice=>simp only [gI,aS] at h;rw [Nat.eq_of_beq_eq_true h.1,bf h.2.1,yO h.2.2.1,yO h.2.2.2.1,yO h.2.2.2.2]
 case me.me=>simp only [gI,aS] at h;rw [eS h.1,bf h.2.1,nh h.2.2]
 case ex.ex=>simp only [gI,aS] at h;rw [of_decide_eq_true h.1,nh h.2]
def T7 : Option (Nat × Bool) → Option (Nat × Bool) → Bool
 |none,none=>true
 |some (s,b),some (s',b')=>an (Nat.beq s s') (mC b b')
 |_,_=>false
theorem Kb {p q:Option (Nat×Bool)} (h:T7 p q=true):p=q:=by
 rcases p with _|⟨a,b⟩<;>rcases q with _|⟨a',b'⟩<;>simp only [T7,Bool.false_eq_true,aS] at h
 ·rfl
 ·rw [Nat.eq_of_beq_eq_true h.1,eS h.2]
def PW : Option Nat → Option Nat → Bool
 |none,none=>true
 |some a,some b=>Nat.beq a b
 |_,_=>false
theorem C3 {a b:Option Nat} (h:PW a b=true):a=b:=by
 cases a<;>cases b<;>simp only [PW,Bool.false_eq_true] at h
 ·rfl
 ·rw [Nat.eq_of_beq_eq_true h]
def PX : Option Ty → Option Ty → Bool
 |none,none=>true
 |some a,some b=>mZ a b
 |_,_=>false
theorem PY {a b:Option Ty} (h:PX a b=true):a=b:=by
 cases a<;>cases b<;>simp only [PX,Bool.false_eq_true] at h
 ·rfl
 ·rw [lW h]
def yP : dn → dn → Bool
 | .op d g i,.op d' g' i'=>an (PW d d') (an (T7 g g') (gI i i'))
 | .call d g f a t,.call d' g' f' a' t'=>an (PW d d') (an (T7 g g') (an (eE f f') (an (yN a a') (kY PX t t'))))
 |_,_=>false
theorem uU {a b:dn} (h:yP a b=true):a=b:=by
 cases a<;>cases b<;>simp only [yP,Bool.false_eq_true,aS] at h
 ·rw [C3 h.1,Kb h.2.1,T6 h.2.2]
 ·rw [C3 h.1,Kb h.2.1,bf h.2.2.1,nh h.2.2.2.1,fH PY h.2.2.2.2]
def jy : C → C → Bool
 | .skip,.skip=>true
 | .aX is,.aX is'=>kY yP is is'
 | .draw ps is,.draw ps' is'=>an (PU ps ps') (kY yP is is')
 | .seq a b,.seq a' b'=>an (jy a a') (jy b b')
 | .cond c a b,.cond c' a' b'=>an (eE c c') (an (jy a a') (jy b b'))
 | .block id c,.block id' c'=>an (Nat.beq id id') (jy c c')
 | .loop c,.loop c'=>jy c c'
 | .exit id,.exit id'=>Nat.beq id id'
 | .ret,.ret=>true
 | .bK f ps a b,.bK f' ps' a' b'=>an (eE f f') (an (Fw ps ps') (an (jy a a') (jy b b')))
 | .gY p m i cl e kt kg vt vg d b,.gY p' m' i' cl' e' Od XG Oe Tc d' b'=>an (kY yP p p') (an (eE m m') (an (Nat.beq i i') (an (Fw cl cl') (an (PW e e') (an (mZ kt Od) (an (mC kg XG) (an (mZ vt Oe) (an (mC vg Tc) (an (Nat.beq d d') (jy b b'))))))))))
 |_,_=>false
theorem w9:∀{a b:C},jy a b=true->a=b:=by
 intro a
 induction a with
 |skip=>intro b h;cases b<;>simp [jy] at h ⊢
 |ret=>intro b h;cases b<;>simp [jy] at h ⊢
 |exit id=>intro b h;cases b<;>simp only [jy,Bool.false_eq_true] at h;rw [Nat.eq_of_beq_eq_true h]
 |aX is=>intro b h;cases b<;>simp only [jy,Bool.false_eq_true] at h;rw [fH uU h]
 |draw ps is=>intro b h;cases b<;>simp only [jy,Bool.false_eq_true,aS] at h;rw [MH h.1,fH uU h.2]
 |seq a b Ip Hz=>intro b h;cases b<;>simp only [jy,Bool.false_eq_true,aS] at h;rw [Ip h.1,Hz h.2]
 |cond c a b Ip Hz=>intro b h;cases b<;>simp only [jy,Bool.false_eq_true,aS] at h;rw [bf h.1,Ip h.2.1,Hz h.2.2]
 |block id c ih=>intro b h;cases b<;>simp only [jy,Bool.false_eq_true,aS] at h;rw [Nat.eq_of_beq_eq_true h.1,ih h.2]
 |loop c ih=>intro b h;cases b<;>simp only [jy,Bool.false_eq_true] at h;rw [ih h]
 |gY p m i cl e kt kg vt vg d b ih =>
  intro b h
  cases b<;>simp only [jy,Bool.false_eq_true,aS] at h
  obtain ⟨h1,h2,h3,h4,h5,h6,h7,h8,h9,h11,XM⟩:=h
  rw [fH uU h1,bf h2,Nat.eq_of_beq_eq_true h3,sZ h4,C3 h5,lW h6,eS h7,lW h8,eS h9,Nat.eq_of_beq_eq_true h11,ih XM]
 |bK f ps a b Ip Hz=>intro b h;cases b<;>simp only [jy,Bool.false_eq_true,aS] at h;rw [bf h.1,sZ h.2.1,Ip h.2.2.1,Hz h.2.2.2]
end Go.AM
end
