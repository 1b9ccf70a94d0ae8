/- A region whose order is drawn: whatever the order, it ends as the canonical one. Calls in the caller's heap, loops unrolled, loops over functions. A call of yield: a round of the loop. The small machine, run. The way in: what an argument reads as is data of the machine. States that stand for as much, in general: names may change, nil slices may stand for empty lists, blocks that nobody reads are forgotten. The small machine's code as a function: tests, needs and calls stay open, all else is reckoned. Patterns: what stands in slots and blocks, with places for data; read out of a state, and laid again. Code that is the same, as a test. What is read by a pattern stands for what was there. Loops and functions, as functions of their data. -/
import Derived.Test.YthemjfloiapaaaaGreatAMb
import Derived.OrdersIn
import Derived.ProofKit
import Derived.OpenShut
import Derived.Maps.RangeRun
set_option linter.unusedSectionVars false
set_option linter.unusedVariables false
set_option linter.unusedSimpArgs false
section
namespace Go.AM
section
variable {P:Program} {N:Nat} {Y:Ctx} {ι ι':ax} {μ μ':Mu} {H:aL} {w w':World} {out:Option Nat} {base:Nat} {ops:Array Oper}
def mo (acc:Array Nat) (o:Oper):Array Nat:=acc.push (o.after.foldl (fun s e=>if Region.binds .any e then s ||| 2 ^ e.on ||| acc.getD e.on 0 else s) 0)
theorem Av:Region.before ops=ops.toList.foldl mo #[]:=by
 unfold Region.before
 rw [<-Array.foldl_toList];rfl
theorem xH {acc:Array Nat} {j:Nat}:∀{l:List Edge} {s:Nat},(l.foldl (fun s e=>if Region.binds .any e then s ||| 2 ^ e.on ||| acc.getD e.on 0 else s) s).testBit j=true ->
  s.testBit j=true\/∃e∈l,Region.binds .any e=true/\(j=e.on\/(acc.getD e.on 0).testBit j=true)
 |[],s,h=>.inl h
 |e::r,s,h=>by
  simp only [List.foldl_cons] at h
  rcases xH h with h1|⟨e',he',h2⟩
  ·split at h1
   ·rename_i hb
    simp only [Nat.testBit_or,Bool.or_eq_true,Nat.testBit_two_pow,decide_eq_true_eq] at h1
    rcases h1 with (h1|h1)|h1
    ·exact .inl h1
    ·exact .inr ⟨e,List.mem_cons_self ..,hb,.inl h1.symm⟩
    ·exact .inr ⟨e,List.mem_cons_self ..,hb,.inr h1⟩
   ·exact .inl h1
  ·exact .inr ⟨e',List.mem_cons_of_mem _ he',h2⟩
theorem xI : ∀ (l : List Oper) (acc : Array Nat), (l.foldl mo acc).size = acc.size + l.length
 |[],acc=>by simp
 |o::r,acc=>by simp only [List.foldl_cons,xI r,mo,Array.size_push,List.length_cons];omega
theorem xJ {j:Nat}:∀(l:List Oper) (acc:Array Nat) (pre:List Oper),acc.size=pre.length ->
  (∀i,(acc.getD i 0).testBit j=true->∃o,pre[i]?=some o/\∃e∈o.after,Region.binds .any e=true/\(j=e.on\/(acc.getD e.on 0).testBit j=true)) ->
  ∀i,((l.foldl mo acc).getD i 0).testBit j=true->∃o,(pre++l)[i]?=some o/\∃e∈o.after,Region.binds .any e=true/\(j=e.on\/((l.foldl mo acc).getD e.on 0).testBit j=true)
 |[],acc,pre,hs,h,i,hi=>by simpa using h i hi
 |o::r,acc,pre,hs,h,i,hi=>by
  have:=xJ r (mo acc o) (pre++[o]) (by simp [mo,hs]) (fun i hi=>?_) i hi
  ·simpa using this
  ·have keep:∀k,(acc.getD k 0).testBit j=true->((mo acc o).getD k 0).testBit j=true:=fun k hk=>by
    have hlt:k<acc.size:=by
     rcases Nat.lt_or_ge k acc.size with h|h
     ·exact h
     ·simp [Array.getD,Nat.not_lt.2 h] at hk
    simpa [mo,Array.getD,hlt,Array.getElem_push,Nat.lt_succ_of_lt hlt] using (by simpa [Array.getD,hlt] using hk:acc[k].testBit j=true)
   by_cases hlt:i<acc.size
   ·have hi':(acc.getD i 0).testBit j=true:=by
     simpa [mo,Array.getD,hlt,Array.getElem_push,Nat.lt_succ_of_lt hlt] using hi
    obtain ⟨o',ho',e,he,hb,hj⟩:=h i hi'
    exact ⟨o',by rw [List.getElem?_append_left (List.getElem?_eq_some_iff.1 ho').1];exact ho',e,he,hb,hj.imp id (keep _)⟩
   ·by_cases heq : i = acc.size
    ·subst heq
     have hi':(o.after.foldl (fun s e=>if Region.binds .any e then s ||| 2 ^ e.on ||| acc.getD e.on 0 else s) 0).testBit j=true:=by
      simpa [mo,Array.getD,Array.getElem_push] using hi
     rw [<-Array.foldl_toList] at hi'
     rcases xH hi' with h1|⟨e,he,hb,hj⟩
     ·simp at h1
     ·exact ⟨o,by rw [hs];simp,e,by simpa using he,hb,hj.imp id (keep _)⟩
    ·have : ¬ i < (mo acc o).size := by simp [mo]; omega
     simp [Array.getD,this] at hi
theorem ox {i j:Nat} (h:((Region.before ops).getD i 0).testBit j=true) :
  ∃o,ops[i]?=some o/\∃e∈o.after,Region.binds .any e=true/\(j=e.on\/((Region.before ops).getD e.on 0).testBit j=true):=by
 rw [Av] at h ⊢
 obtain ⟨o,ho,h⟩:=xJ (j:=j) ops.toList #[] [] rfl (fun i hi=>by simp at hi) i h
 exact ⟨o,by simpa using ho,h⟩
theorem oy:(Region.before ops).size=ops.size:=by rw [Av,xI];simp
theorem j5 {i j:Nat}:j∈(bT ops).getD i []↔j<ops.size/\((Region.before ops).getD i 0).testBit j=true:=by
 unfold bT
 simp only [List.getD,List.getElem?_map]
 by_cases hi:i<ops.size
 ·have h:(Region.before ops).toList[i]?=some ((Region.before ops).getD i 0):=by
   have:i<(Region.before ops).size:=by rw [oy];exact hi
   simp [Array.getD,this]
  simp [h,List.mem_filter,List.mem_range]
 ·have h1 : (Region.before ops).toList[i]? = none := List.getElem?_eq_none (by simp [oy]; omega)
  have h2:(Region.before ops).getD i 0=0:=by simp [Array.getD,oy,hi]
  simp [h1,h2]
theorem gD : ∀ {os : List Oper} {is : List fe}, eC P N ops os = some is → is.length = os.length ∧ ∀ (k : Nat) o it, os[k]? = some o → is[k]? = some it → qc P N ops o = some it
 |[],is,h=>by cases h;exact ⟨rfl,fun k o it h=>by simp at h⟩
 |o::os,is,h=>by
  unfold eC at h
  split at h<;>try (cases h;done)
  rename_i it its hit Ot
  cases h
  obtain ⟨h1,h2⟩:=gD Ot
  refine ⟨by simp [h1],fun k o' it' ho hi=>?_⟩
  cases k with
  |zero=>simp at ho hi;subst ho;subst hi;exact hit
  |succ k=>exact h2 k o' it' (by simpa using ho) (by simpa using hi)
theorem Inv.tP (h:Inv P Y ι μ H w) {n:Nat} (hn:H.next<=n):Inv P Y ι μ ⟨n,H.bl⟩ w :=
 ⟨h.below,h.i0,h.iB,h.rd,h.m0,fun id hid=>h.nx id (Nat.le_trans hn hid),h.live,h.inj,fun id B hB=>Nat.lt_of_lt_of_le (h.lt id B hB) hn,h.gl⟩
theorem Inv.eqB (h:Inv P Y ι μ H w) {bl:av} (he:EqB bl H.bl):Inv P Y ι μ ⟨H.next,bl⟩ w :=
 ⟨h.below,h.i0,h.iB,h.rd,h.m0,h.nx,fun id B hB=>h.live id B (by rw [<-he id];exact hB),fun id id' B B' L L' hb hb'=>h.inj id id' B B' L L' (by rw [<-he id];exact hb) (by rw [<-he id'];exact hb'),
  fun id B hB=>h.lt id B (by rw [<-he id];exact hB),h.gl⟩
theorem dV.Oy {B:Nat->Prop} {id:Nat} {b:k8} (h:dV P B ι μ id w b) (hw:w'.heap=w.heap):dV P B ι μ id w' b:=by
 cases b with
 |cells cs fz=>obtain ⟨L,vs,hM,h⟩:=h;exact ⟨L,vs,⟨hM.mu,hM.old,by rw [hw];exact hM.row,hM.fits,hM.one,hM.Gw,hM.qV⟩,h⟩
 |arr t xs fz =>
  rcases h with h|⟨L,vs,hM,h⟩
  ·exact .inl h
  ·exact .inr ⟨L,vs,⟨hM.mu,hM.old,by rw [hw];exact hM.row,hM.fits,hM.one,hM.Gw,hM.qV⟩,h⟩
 |loop st j d env ps as bd N=>unfold dV at h ⊢;rw [hw];exact h
 |iF=>unfold dV at h ⊢;rw [hw];exact h
 |map kt kg vt vg es=>unfold dV at h ⊢;rw [hw];exact h
 |nL t xs i p v =>
  obtain ⟨L,us,vs,c,hM,h⟩:=h
  exact ⟨L,us,vs,c,⟨hM.mu,hM.old,by rw [hw];exact hM.row,hM.fits,hM.one,hM.Gw,hM.qV⟩,h⟩
theorem Inv.drawn (h:Inv P Y ι μ H w):Inv P Y ι μ H { w with drawn:=w.drawn+1 } :=
 ⟨⟨h.below.os,h.below.tape,h.below.output,h.below.size,h.below.block,Nat.le_succ_of_le h.below.dr,h.below.maps⟩,h.i0,h.iB,h.rd,h.m0,h.nx,fun id B hB=>(h.live id B hB).Oy rfl,h.inj,h.lt,h.gl⟩
theorem Inv.called (hI:Inv P Y ι μ H w) (hi:ι.le ι') (hib:∀b o,b<w.heap.size->ι' b o=ι b o) (hrd:dB ι' w') (jQ:Dw w w'):Inv P Y ι' μ H w':=by
 have hsz:=hI.below.size
 refine ⟨hI.below.then jQ,ax.le_trans hI.i0 hi,fun b o hb hx=>by rw [hib b o (by omega)];exact hI.iB b o hb hx,hrd,hI.m0,hI.nx,fun id B hB=>?_,hI.inj,hI.lt,hI.gl⟩
 have lu:=hI.live id B hB
 refine lu.mono hi (Mu.le_refl _) (fun h=>h) (fun L hL=>jQ.b.block _ (lu.loc hL).2) (fun L hL ho o=>?_)
 rw [hib _ _ (lu.loc hL).2];exact ho o
theorem dB.kept (h:dB ι w) (jQ:Dw w w'):dB ι w':=fun b o x hx=>by
 have h1:=h b o x hx
 have hlt:b<w.heap.size:=by
  rcases Nat.lt_or_ge b w.heap.size with h'|h'
  ·exact h'
  ·simp [World.cell?,Array.getElem?_eq_none h'] at h1
 unfold World.cell? at h1 ⊢
 simp only at h1 ⊢
 rw [jQ.b.block b hlt];exact h1
theorem Aw {v:V} {x:Value} (h:IV v=true) (hr:Rel ι μ v x):Rel ι' μ' v x:=by
 cases hr<;>simp only [IV] at h<;>try (cases h;done)
 case tf=>exact .tf _
 case bool=>exact .bool _
 case int=>exact .int _ _
 case str=>exact .str _
theorem Lb {v:V} {x:Value} (h:NX v=true) (hr:Rel ι μ v x):Rel ι' μ' v x:=by
 cases hr<;>simp only [NX] at h<;>try (cases h;done)
 case tf=>exact .tf _
 case bool=>exact .bool _
 case int=>exact .int _ _
 case str=>exact .str _
 case agg cs xs h1 h2 h3=>exact .agg cs xs h1 (fun i v x hv hx=>Aw (List.all_eq_true.1 h _ (List.mem_of_getElem? hv)) (h2 i v x hv hx)) h3
theorem DW {v:V} {x:Value} (h:Ds v=true) (hr:Rel ι μ v x):Rel ι' μ' v x:=by
 cases hr<;>simp only [Ds] at h<;>try (cases h;done)
 case tf=>exact .tf _
 case bool=>exact .bool _
 case int=>exact .int _ _
 case str=>exact .str _
 case agg cs xs h1 h2 h3=>exact .agg cs xs h1 (fun i v x hv hx=>Aw (List.all_eq_true.1 h _ (List.mem_of_getElem? hv)) (h2 i v x hv hx)) h3
 case cQ cs xs h1 h2=>exact .cQ cs xs h1 fun i v x hv hx=>Lb (List.all_eq_true.1 h _ (List.mem_of_getElem? hv)) (h2 i v x hv hx)
theorem BU {g : V → Option V} : ∀ {vs : List V}, (∀ v ∈ vs, g v = some v) → dU g vs = some vs
 |[],_=>rfl
 |v::r,h=>by simp only [dU,h v (List.mem_cons_self ..),BU (vs:=r) (fun v hv=>h v (List.mem_cons_of_mem _ hv))]
theorem xK {ar : Ar} {bl : av} : ∀ {n : Nat} {v : V}, dS n v = true → fin ar bl n v = some v
 |0,v,h=>by cases h
 |n+1,v,h=>by
  have all:∀{cs:List V},cs.all (dS n)=true->dU (fin ar bl n) cs=some cs:=fun h=>BU fun v hv=>xK (List.all_eq_true.1 h v hv)
  cases v<;>simp only [dS] at h<;>try (cases h;done)
  case gm cs=>simp only [fin,h,if_true]
  case fn f a b=>simp only [Bool.and_eq_true] at h;simp only [fin,all h.1,all h.2]
  case agg cs=>simp only [fin,all h]
  case cQ cs=>simp only [fin,all h]
  case cG t v=>simp only [fin,xK h]
  all_goals rfl
theorem vQ {v0 v:V} {x:Value} (h:vOk v0 v) (hr:Rel ι μ v0 x):Rel ι μ v x:=by
 rcases h with rfl|⟨c,rfl,rfl⟩
 ·exact hr
 ·cases hr;exact .tf _
theorem tQ {S:List (Nat×V)} {a:Act} (he:eY ι μ S a.tmps) {o:Oper} {g:Option (Nat×Bool)} (hg:trG ops o.guard=some g) {c:Bool} (h:IW g S=some c):Region.wanted o (yielded ops a.tmps)=c:=by
 cases Oq:o.guard with
 |none=>rw [Oq] at hg;cases hg;cases h;simp [Region.wanted,Oq]
 |some jb =>
  obtain ⟨j,b⟩:=jb
  rw [Oq] at hg
  simp only [trG] at hg
  split at hg<;>try (cases hg;done)
  rename_i oj hoj
  split at hg<;>try (cases hg;done)
  rename_i d hdj
  cases hg
  simp only [IW] at h
  split at h<;>try (cases h;done)
  rotate_left
  ·rename_i vs hc
   cases h
   simp only [Region.wanted,Oq,uC he hoj hdj hc]
   rfl
  rename_i c' hc
  simp only [Region.wanted,Oq,xd he hoj hdj (.inl hc)]
  revert h
  cases c'<;>cases b<;>intro h<;>cases h<;>rfl
theorem Jd {b n : Nat} {t : TR} {env : List (Nat × V)} {bl : av} {ms : List Nat} {a : Act} (hn : t.k < n) {o : Oper} (ho : ops[t.k]? = some o) (hit : qc P N ops o = some t.it)
  (Oz:En (gL P N out base) b t env bl) (hR:fk P N Y ι μ ⟨env,⟨b+n,bl⟩,ms⟩ a w) (hfree:μ (b+t.k)=none) {Q:Exit->Act->World->Prop} {K:Act->World->Prop}
  (hK:∀ι' μ' a' w',fk P N Y ι' μ' ⟨t.Ow env,⟨b+n,t.K9 bl⟩,ms⟩ a' w'->(∀id,id≠b+t.k->μ' id=μ id)->K a' w'):wpOpIn Y.F 0 P ops Q t.k K a w:=by
 obtain ⟨k,it,ac,rd⟩:=t
 simp only at hn ho hit hfree hK
 unfold qc at hit
 split at hit<;>try (cases hit;done)
 rename_i hd
 split at hit<;>try (cases hit;done)
 rename_i g hg
 have hgrd:it.Zg=g/\it.dst=o.dst:=by
  split at hit<;>(split at hit<;>try (cases hit;done))<;>(cases hit;exact ⟨rfl,rfl⟩)
 unfold wpOpIn
 simp only [ho]
 unfold En at Oz
 cases ac with
 |skip =>
  simp only at Oz
  rw [hgrd.1] at Oz
  rw [if_neg (by rw [tQ hR.env hg Oz.1];simp)]
  refine ⟨fun _ _=>trivial,hK ι μ _ _ ?_ fun _ _=>rfl⟩
  have:=hR.put hd (ax.le_refl _) (Mu.le_refl _) hR.inv Rel.und
  simpa [TR.Ow,TR.K9,hgrd.2,Ac.val,Ac.SJ,bJ] using this
 |op v u =>
  split at hit
  ·split at hit <;> try (cases hit; done)
   cases hit;exact Oz.elim
  ·split at hit <;> try (cases hit; done)
   cases hit;exact Oz.elim
  ·rename_i op _ _
   split at hit<;>try (cases hit;done)
   rename_i i hi
   cases hit
   obtain ⟨I4,ob,v0,ak,di,hv,_⟩:=Oz
   have hw:=tQ hR.env hg I4
   rw [if_pos hw]
   have hop:N7 P Y ι μ ⟨b+n,bl⟩ w (b+k) (execOp a.eval o) v0 u i.lays:=by
    rcases ak with ak|ak
    ·exact Ap hR.inv hfree hR.env hi ak di
    ·exact Aq hR.inv hfree hR.env hi ak di
   obtain ⟨ι',μ',x,w',hx,hi',hm,hne,hinv,GJ⟩:=hop
   refine ⟨fun _ _=>trivial,?_⟩
   rw [Oper.semAt_eq _ _ _ (mj hi)]
   have Gb:ga i.lays (b+n) (b+k)=b+n:=by unfold ga;cases i.lays<;>simp<;>omega
   have lU:fk P N Y ι' μ' ⟨AM.put o.dst v env,⟨b+n,bJ u bl⟩,ms⟩ (a.put o.dst x) w':=by
    refine hR.put hd hi' hm ?_ (vQ hv GJ)
    have:=hinv;simp only [Gb] at this;exact this
   rcases hx with h|⟨h,rfl⟩<;>rw [h]<;>exact hK _ _ _ _ lU hne
 |call v u =>
  obtain ⟨c,args,tys,fo,as,hop,hf,ha,rfl⟩:∃(c:Callee) (args:Array Operand) (tys:Array TypeId) (fo:O) (as:List O),o.op = .call { callee:=c,args:=args,argTypes:=tys }/\mU P c=some fo/\wJ args.toList=some as/\it = .call o.dst g fo as (ja P fo tys):=by
   split at hit
   ·rename_i f args tys hop
    split at hit<;>try (cases hit;done)
    rename_i fo as hf ha
    cases hit
    exact ⟨.value f,args,tys,fo,as,hop,hf,ha,rfl⟩
   ·rename_i r name args tys hop
    split at hit<;>try (cases hit;done)
    rename_i fo as hf ha
    cases hit
    exact ⟨.invoke r name,args,tys,fo,as,hop,hf,ha,rfl⟩
   ·split at hit <;> try (cases hit; done)
    cases hit;exact Oz.elim
  obtain ⟨I4,fid,fs,cs,vs',v0,mS,hmo,hp,hs,hv,_⟩:=Oz
  have hw:=tQ hR.env hg I4
  rw [if_pos hw]
  refine ⟨fun _ _=>trivial,?_⟩
  rw [Oper.semAt_eq _ _ _ (by rw [hop];simp)]
  have ra:=kq hR.env ha
  obtain ⟨cH,ic⟩:=hp
  obtain ⟨xs,ys,r1,r2,hrun⟩:=DS hop hf hR.env mS cH
  rw [hrun]
  have rl:aN ι μ (fs++cV (ja P fo tys) (as.map (·.ev env))++cs) (xs++args.map a.eval++ys).toList:=by
   have:=(r1.append (mb (ts:=ja P fo tys) ra)).append r2
   simpa using this
  refine ⟨fun h=>by simp [Ctx.F,Fence.wide] at h,?_⟩
  rcases Bool.eq_false_or_eq_true (Ds v0||(fs++cV (ja P fo tys) (as.map (·.ev env))++cs).all (dS 8)) with hb|hb
  rotate_left
  ·rw [hb] at hs
   obtain ⟨ι2,i1,i2,i3⟩:=vP hR.inv (BT hs)
   have hmo':dU (fin dZ bl 8) (fs++cV (ja P fo tys) (as.map (·.ev env))++cs)=some vs':=(nt (fun v=>by unfold gL;exact xG.symm) _).trans hmo
   refine CallsIn.mono (F:=Y.F) (ic ι2 w _ i2.dH (fun b o x hx=>i2.rd b o x hx) (TC i1 hmo' i3 rl)) ?_
   rintro e w' ⟨v',ι',rfl,hi,hib,hrd,jQ,GJ⟩
   have hinv':Inv P Y ι' μ ⟨b+n,bJ u bl⟩ w':=i2.called hi hib hrd jQ
   exact hK _ _ _ _ (hR.put hd (ax.le_trans i1 hi) (Mu.le_refl _) hinv' (vQ hv (GJ.mono (ax.le_refl _) (fun _ _ h=>by cases h)))) fun _ _=>rfl
  rw [hb] at hs
  cases hs
  replace hs:=hb
  rw [Bool.or_eq_true] at hs
  rcases hs with hs|hs
  ·refine CallsIn.mono (F := Y.F) (ic (ι.all Y.own w) w _ (hR.inv.dH.mono (ax.BO hR.inv.rd)) (fun b o x hx => ?_) (jm (fun v r x h hr => vN (fun _ _ _ => rfl) hR.inv h hr) hmo rl)) ?_
   ·exact ax.GM hR.inv.rd hx
   ·rintro e w' ⟨v', ι', rfl, _, _, _, jQ, GJ⟩
    have hinv':Inv P Y ι μ ⟨b+n,bl⟩ w':=hR.inv.called (ax.le_refl _) (fun _ _ _=>rfl) (dB.kept (fun b o x hx=>hR.inv.rd b o x hx) jQ) jQ
    exact hK _ _ _ _ (hR.put hd (ax.le_refl _) (Mu.le_refl _) hinv' (vQ hv (DW hs GJ))) fun _ _=>rfl
  ·have hid:dU (fin (gL P N out base) bl 8) (fs++cV (ja P fo tys) (as.map (·.ev env))++cs)=some (fs++cV (ja P fo tys) (as.map (·.ev env))++cs) :=
    BU fun v hv=>xK (List.all_eq_true.1 hs v hv)
   rw [hid] at hmo;cases hmo
   have rl':aN ι (fun _=>none) (fs++cV (ja P fo tys) (as.map (·.ev env))++cs) (xs++args.map a.eval++ys).toList :=
    ⟨rl.1,fun i v x hv hx=>dK (List.all_eq_true.1 hs _ (List.mem_of_getElem? hv)) (rl.2 i v x hv hx)⟩
   refine CallsIn.mono (F:=Y.F) (ic ι w _ hR.inv.dH (fun b o x hx=>hR.inv.rd b o x hx) rl') ?_
   rintro e w' ⟨v',ι',rfl,hi,hib,hrd,jQ,GJ⟩
   have hinv':Inv P Y ι' μ ⟨b+n,bl⟩ w':=hR.inv.called hi hib hrd jQ
   exact hK _ _ _ _ (hR.put hd hi (Mu.le_refl _) hinv' (vQ hv (GJ.mono (ax.le_refl _) (fun _ _ h=>by cases h)))) fun _ _=>rfl
structure Good (ops:Array Oper) (m:Nat) (is:List fe) (R:List TR) (listed:Array Bool):Prop where
 sz:listed.size=ops.size
 mem:∀t∈R,t.k<m/\is[t.k]?=some t.it/\listed.getD t.k true=false
 cov:∀i,i<m->listed.getD i true=false->∃t∈R,t.k=i
 srt:R.Pairwise (fun a b=>a.k<b.k)
 dr:R.Pairwise (DrP (bT ops))
 clo:∀i,listed.getD i false=true->∀j∈(bT ops).getD i [],listed.getD j false=true
 le:m<=ops.size
 tl:∀i,m<=i->i<ops.size->listed.getD i true=false
theorem BV {l:Array Bool} {i:Nat} (h:l.getD i true=false):l.getD i false=false/\i<l.size:=by
 rcases Nat.lt_or_ge i l.size with h'|h'
 ·simp [h'] at h ⊢;exact h
 ·simp [Array.getElem?_eq_none h'] at h
theorem nu {l:Array Bool} {i:Nat} (h:i<l.size) (d d':Bool):l.getD i d=l.getD i d':=by simp [h]
theorem BW {dc:List (List Nat)} {is:List fe} (h:rB dc is=true) {i j:Nat} (hij:i<j) {a b:fe} (ha:is[i]?=some a) (hb:is[j]?=some b):i∈dc.getD j []\/mV a b=true:=by
 unfold rB at h
 have hj:j<is.length:=(List.getElem?_eq_some_iff.1 hb).1
 have:=List.all_eq_true.1 (List.all_eq_true.1 h j (List.mem_range.2 hj)) i (List.mem_range.2 hij)
 simp only [ha,hb,Bool.or_eq_true] at this
 rcases this with h|h
 ·exact .inl (by simpa using h)
 ·exact .inr h
theorem oz {m:Nat} {is:List fe} {R:List TR} {listed:Array Bool} (hG:Good ops m is R listed) {i:Nat} (hi:i∈Region.ready .any ops listed):∀j∈(bT ops).getD i [],listed.getD j false=true:=by
 intro j hj
 obtain ⟨_,o,ho,hall⟩:=mem_ready.1 hi
 obtain ⟨hjs,ht⟩:=j5.1 hj
 obtain ⟨o',ho',e,he,hb,h⟩:=ox ht
 rw [ho] at ho';cases ho'
 have hl:=hall e he hb
 rcases h with rfl|h
 ·exact hl
 ·exact hG.clo _ hl j (j5.2 ⟨hjs,h⟩)
theorem OA {m:Nat} {is:List fe} {R:List TR} {listed:Array Bool} (hG:Good ops m is R listed) (eG:gZ ops=true) {k:Nat} (h1:k<ops.size) (h3:listed.getD k true=false) (oB:∀i,i<k->listed.getD i true=true):k∈Region.ready .any ops listed:=by
 refine mem_ready.2 ⟨h3,ops[k],by simp [h1],fun e he hb=>?_⟩
 have hlt:e.on<k:=by
  unfold gZ at eG
  have hmem:(ops[k],k)∈ops.toList.zipIdx:=by
   rw [List.mem_zipIdx_iff_getElem?];simp [h1]
  have:=List.all_eq_true.1 eG _ hmem
  simp only at this
  have:=Array.all_eq_true_iff_forall_mem.1 this e he
  simpa [hb] using this
 have hlt':e.on<listed.size:=by rw [hG.sz];omega
 rw [nu hlt' false true];exact oB _ hlt
theorem GR {m:Nat} {is:List fe} {t:TR} {R:List TR} {listed:Array Bool} (hG:Good ops m is (t::R) listed) (eG:gZ ops=true):t.k∈Region.ready .any ops listed:=by
 obtain ⟨h1,_,h3⟩:=hG.mem t (List.mem_cons_self ..)
 refine OA hG eG (by have:=hG.le;omega) h3 fun i hi=>?_
 rcases Bool.eq_false_or_eq_true (listed.getD i true) with h|h
 ·exact h
 ·obtain ⟨t', ht', hk⟩ := hG.cov i (by omega) h
  rcases List.mem_cons.1 ht' with rfl|ht'
  ·omega
  ·have := (List.pairwise_cons.1 hG.srt).1 t' ht'
   omega
theorem Good.step {m:Nat} {is:List fe} {L1 L2:List TR} {t:TR} {listed:Array Bool} (hG:Good ops m is (L1++t::L2) listed) (hr:t.k∈Region.ready .any ops listed):Good ops m is (L1++L2) (listed.setIfInBounds t.k true):=by
 have hsub:(L1++L2).Sublist (L1++t::L2):=(List.Sublist.refl L1).append (List.sublist_cons_self t L2)
 have hne:∀x∈L1++L2,x.k≠t.k:=fun x hx=>by
  have:=List.pairwise_append.1 hG.srt
  rcases List.mem_append.1 hx with h|h
  ·exact Nat.ne_of_lt (this.2.2 x h t (List.mem_cons_self ..))
  ·exact Nat.ne_of_gt ((List.pairwise_cons.1 this.2.1).1 x h)
 refine ⟨by simp [hG.sz],fun x hx=>?_,fun i hi TD=>?_,hG.srt.sublist hsub,hG.dr.sublist hsub,fun i hi j hj=>?_,hG.le,fun i hi hi2=>?_⟩
 ·obtain ⟨h1, h2, h3⟩ := hG.mem x (hsub.subset hx)
  exact ⟨h1,h2,by rw [getD_set_ne true (Ne.symm (hne x hx))];exact h3⟩
 ·have hki:t.k≠i:=fun e=>by
   subst e
   have:t.k<listed.size:=by rw [hG.sz];exact Nat.lt_of_lt_of_le hi hG.le
   simp [this] at TD
  rw [getD_set_ne true hki] at TD
  obtain ⟨x,hx,hk⟩:=hG.cov i hi TD
  refine ⟨x,?_,hk⟩
  rcases List.mem_append.1 hx with h|h
  ·exact List.mem_append_left _ h
  ·rcases List.mem_cons.1 h with rfl | h
   ·exact absurd hk hki
   ·exact List.mem_append_right _ h
 ·refine getD_set_true ?_
  by_cases hki:t.k=i
  ·subst hki;exact oz hG hr j hj
  ·rw [getD_set_ne false hki] at hi
   exact hG.clo i hi j hj
 ·have hk := (hG.mem t (List.mem_append_right _ (List.mem_cons_self ..))).1
  rw [getD_set_ne true (by omega)]
  exact hG.tl i hi hi2
theorem DX {os:List Oper} {is:List fe} {k:Nat} (h:eC P N ops os=some is):eC P N ops (os.drop k)=some (is.drop k):=by
 induction k generalizing os is with
 |zero=>simpa using h
 |succ k ih =>
  cases os with
  |nil=>cases h;rfl
  |cons o os =>
   unfold eC at h
   split at h<;>try (cases h;done)
   rename_i it its hit Ot
   cases h
   simpa using ih Ot
theorem DY {m:Nat} (eG:gZ ops=true) (Ay:∀i,m<=i->i<ops.size->∀j,j<i->j∈(bT ops).getD i []) {Q:Exit->Act->World->Prop}:∀(n k:Nat) {listed:Array Bool} {a:Act} {w:World},
  m<=k->k+n=ops.size->listed.size=ops.size->(∀i,i<k->listed.getD i true=true)->(∀i,k<=i->i<ops.size->listed.getD i true=false) ->
  (∀i,listed.getD i false=true->∀j∈(bT ops).getD i [],listed.getD j false=true)->wpOpsIn Y.F 0 P ops Q (List.range' k n) a w->wpAnyIn Y.F 0 P .any ops Q n listed a w
 |0,k,listed,a,w,hm,hk,hsz,oB,Je,tR,h=>by
  refine ⟨?_,h⟩
  cases hr:Region.ready .any ops listed with
  |nil=>rfl
  |cons i r =>
   have hi:i∈Region.ready .any ops listed:=by rw [hr];exact List.mem_cons_self ..
   obtain ⟨h0,o,ho,_⟩:=mem_ready.1 hi
   have:=(Array.getElem?_eq_some_iff.1 ho).1
   rw [oB i (by omega)] at h0;cases h0
 |n+1,k,listed,a,w,hm,hk,hsz,oB,Je,tR,h=>by
  have hks:k<ops.size:=by omega
  have hrk:k∈Region.ready .any ops listed:=by
   refine mem_ready.2 ⟨Je k (Nat.le_refl _) hks,ops[k],by simp [hks],fun e he hb=>?_⟩
   have hlt:e.on<k:=by
    unfold gZ at eG
    have hmem:(ops[k],k)∈ops.toList.zipIdx:=by
     rw [List.mem_zipIdx_iff_getElem?];simp [hks]
    have:=List.all_eq_true.1 eG _ hmem
    simp only at this
    have:=Array.all_eq_true_iff_forall_mem.1 this e he
    simpa [hb] using this
   have hlt':e.on<listed.size:=by rw [hsz];omega
   rw [nu hlt' false true];exact oB _ hlt
  have hrp:∀i,i∈Region.ready .any ops listed->∀j∈(bT ops).getD i [],listed.getD j false=true:=by
   intro i hi j hj
   obtain ⟨_,o,ho,hall⟩:=mem_ready.1 hi
   obtain ⟨hjs,ht⟩:=j5.1 hj
   obtain ⟨o',ho',e,he,hb,h⟩:=ox ht
   rw [ho] at ho';cases ho'
   have hl:=hall e he hb
   rcases h with rfl|h
   ·exact hl
   ·exact tR _ hl j (j5.2 ⟨hjs,h⟩)
  refine ⟨fun h0=>(by rw [h0] at hrk;cases hrk),fun i hi=>?_⟩
  obtain ⟨h0,o,ho,_⟩:=mem_ready.1 hi
  have nk:=(Array.getElem?_eq_some_iff.1 ho).1
  have hik:i=k:=by
   rcases Nat.lt_trichotomy i k with h1|h1|h1
   ·rw [oB i h1] at h0;cases h0
   ·exact h1
   ·have := hrp i hi k (Ay i (by omega) nk k h1)
    rw [(BV (Je k (Nat.le_refl _) hks)).1] at this;cases this
  subst hik
  rw [List.range'_succ,wpOpsIn_cons] at h
  refine wpOpIn_mono (fun a' w' h'=>DY eG Ay n (i+1) (by omega) (by omega) (by simpa using hsz) (fun j hj=>?_) (fun j hj hj2=>?_) (fun x hx j hj=>?_) h') h
  ·by_cases e : i = j
   ·subst e;simp [hsz,hks]
   ·rw [getD_set_ne true e];exact oB j (by omega)
  ·rw [getD_set_ne true (by omega)];exact Je j (by omega) hj2
  ·refine getD_set_true ?_
   by_cases e:i=x
   ·subst e;exact hrp i hi j hj
   ·rw [getD_set_ne false e] at hx
    exact tR x hx j hj
theorem OB {is : List fe} {m : Nat} (Ay : ∀ i, m ≤ i → i < ops.size → ∀ j, j < i → j ∈ (bT ops).getD i []) (nk : eC P N ops ops.toList = some is) (qz : rB (bT ops) is = true) (eG : gZ ops = true) {b : Nat} {ms : List Nat} {F : List (Nat × V) → av → Prop} (hF : BR F)
  {Q:Exit->Act->World->Prop} (hend:∀ι μ env bl a w,fk P N Y ι μ ⟨env,⟨b+m,bl⟩,ms⟩ a w->F env bl->wpOpsIn Y.F 0 P ops Q (List.range' m (ops.size - m)) a w) :
  ∀(fuel:Nat) {R:List TR} {listed:Array Bool} {a:Act} {w:World} {ι:ax} {μ:Mu} {env:List (Nat×V)} {bl:av},fuel=R.length+(ops.size - m)->Good ops m is R listed->vl (gL P N out base) b R env bl F ->
   fk P N Y ι μ ⟨env,⟨b+m,bl⟩,ms⟩ a w->(∀t∈R,μ (b+t.k)=none)->wpAnyIn Y.F 0 P .any ops Q fuel listed a w
 |fuel,R,listed,a,w,ι,μ,env,bl,hl,hG,hrun,hR,hfr=>by
  rcases Decidable.em (R=[]) with tS|tS
  ·subst tS
   have hle:=hG.le
   have hf:fuel=ops.size - m:=by simpa using hl
   rw [hf]
   refine DY eG Ay (ops.size - m) m (Nat.le_refl _) (by omega) hG.sz (fun i hi=>?_) hG.tl hG.clo (hend _ _ _ _ _ _ hR hrun)
   rcases Bool.eq_false_or_eq_true (listed.getD i true) with h|h
   ·exact h
   ·obtain ⟨t,ht,_⟩:=hG.cov i hi h;simp at ht
  obtain ⟨fuel,rfl⟩:∃f,fuel=f+1:=⟨fuel - 1,by have:=List.length_pos_iff.2 tS;omega⟩
  ·refine ⟨fun h0 => ?_, fun i hi => ?_⟩
   ·cases R with
    |nil=>exact absurd rfl tS
    |cons t R=>have:=GR hG eG;rw [h0] at this;simp at this
   ·obtain ⟨h0, o, ho, _⟩ := mem_ready.1 hi
    have him:i<m:=by
     rcases Nat.lt_or_ge i m with h|h
     ·exact h
     ·exfalso
      have wS:=(Array.getElem?_eq_some_iff.1 ho).1
      cases R with
      |nil=>exact tS rfl
      |cons t R =>
       have SK:=hG.mem t (List.mem_cons_self ..)
       have:=oz hG hi _ (Ay i h wS t.k (by omega))
       rw [(BV SK.2.2).1] at this;cases this
    obtain ⟨t,ht,hk⟩:=hG.cov i him h0
    subst hk
    obtain ⟨L1,L2,rfl⟩:=List.append_of_mem ht
    have hAp:∀x∈L1,Xw x t:=fun x hx=>by
     have hp:=(List.pairwise_append.1 hG.srt).2.2 x hx t (List.mem_cons_self ..)
     have hd:=(List.pairwise_append.1 hG.dr).2.2 x hx t (List.mem_cons_self ..)
     have Zt:=hG.mem x (List.mem_append_left _ hx)
     have SK:=hG.mem t ht
     have hnot:x.k∉(bT ops).getD t.k []:=fun h=>by
      have:=oz hG hi _ h
      rw [(BV Zt.2.2).1] at this;cases this
     rcases BW qz hp Zt.2.1 SK.2.1 with h|h
     ·exact absurd h hnot
     ·rcases hd with h' | h'
      ·exact absurd h' hnot
      ·exact ⟨h,h'.1,h'.2⟩
    obtain ⟨Oz,adU⟩:=pull hF hAp hrun
    have SK:=hG.mem t ht
    have hit:=(gD nk).2 t.k o t.it (by simpa using ho) SK.2.1
    refine Jd SK.1 ho hit Oz hR (hfr t ht) fun ι' μ' a' w' iG hne=>?_
    have hG':=hG.step hi
    refine OB Ay nk qz eG hF hend fuel (R:=L1++L2) (by simp at hl ⊢;omega) hG' adU iG fun x hx=>?_
    have hx':x∈L1++t::L2:=((List.Sublist.refl L1).append (List.sublist_cons_self t L2)).subset hx
    have h1:=(hG'.mem x hx).2.2
    have hnk:x.k≠t.k:=fun e=>by
     rw [e] at h1
     have:t.k<listed.size:=by rw [hG.sz];have:=hG.le;omega
     simp [this] at h1
    rw [hne _ (by omega)];exact hfr x hx'
theorem Az {ar : Ar} {b : Nat} {F G : List (Nat × V) → av → Prop} (h : ∀ e bl, F e bl → G e bl) : ∀ {ts : List TR} {env : List (Nat × V)} {bl : av}, vl ar b ts env bl F → vl ar b ts env bl G
 |[],_,_,hr=>h _ _ hr
 |_::_,_,_,hr=>⟨hr.1,Az h hr.2⟩
theorem DZ {ar : Ar} {b : Nat} {p : Prop} {F : List (Nat × V) → av → Prop} : ∀ {ts : List TR} {env : List (Nat × V)} {bl : av}, vl ar b ts env bl (fun e bl => p ∧ F e bl) → p ∧ vl ar b ts env bl F
 |[],_,_,hr=>hr
 |_::_,_,_,hr=>let ⟨h1,h2⟩:=DZ hr.2;⟨h1,hr.1,h2⟩
theorem iP (hm:P.follows .mixedOrders=true):nj P N out base:=by
 intro id ops Dh Tu nk qz eG hl S K hK Y ι μ a w ho hb hR
 refine wpIn_region_any hm ?_
 obtain ⟨ts,h1,h2,h3⟩:=ow hK
 simp only [List.nil_append] at h3
 obtain ⟨N4,hrun⟩:=DZ h3
 have hlen:Dh.length+Tu.length=ops.size:=by simpa using (gD nk).1
 have htl:ts.length=Dh.length:=by rw [<-h1];simp
 have hk:∀(j:Nat) t,ts[j]?=some t->t.k=j/\(Dh++Tu)[j]?=some t.it/\j<Dh.length:=fun j t ht=>by
  have hj:=(List.getElem?_eq_some_iff.1 ht).1
  refine ⟨?_,?_,by omega⟩
  ·have : (ts.map (·.k))[j]? = some t.k := by simp [ht]
   rw [h2,List.getElem?_range' (by omega)] at this
   simpa using this.symm
  ·rw [List.getElem?_append_left (by omega),<-h1];simp [ht]
 let F:List (Nat×V)->av->Prop:=fun env bl=>∃jR Jf,Nv jR env/\EqB Jf bl/\fU (gL P N out base) Tu ⟨jR,⟨S.H.next+Dh.length,Jf⟩,S.ms⟩ K
 have hF:BR F:=fun env env' bl bS he qW ⟨e0,b0,q1,q2,q3⟩=>⟨e0,b0,q1.trans he,fun i=>(q2 i).trans (qW i),q3⟩
 have lU:∀{ι' μ' env bl jR Jf a' w'},fk P N Y ι' μ' ⟨env,⟨S.H.next+Dh.length,bl⟩,S.ms⟩ a' w'->Nv jR env->EqB Jf bl->fk P N Y ι' μ' ⟨jR,⟨S.H.next+Dh.length,Jf⟩,S.ms⟩ a' w':=fun iG q1 q2 =>
  ⟨fun t=>by rw [q1 t];exact iG.env t,iG.sz,iG.inv.eqB q2,iG.ms⟩
 have hfl:ops.size=ts.length+(ops.size - Dh.length):=by omega
 have htr2:eC P N ops (ops.toList.drop Dh.length)=some Tu:=by
  have:=DX (k:=Dh.length) nk
  rwa [List.drop_left' rfl] at this
 refine OB (out:=out) (base:=base) (b:=S.H.next) (ms:=S.ms) (F:=F) (fun i hi hi2=>hl i hi (by omega)) nk qz eG hF (fun ι' μ' env bl a' w' iG hf=>?_) ops.size (R:=ts) (ι:=ι) (μ:=μ) (env:=S.env) (bl:=S.H.bl) hfl ?_ ?_ ?_ ?_
 ·obtain ⟨e0, b0, q1, q2, q3⟩ := hf
  have h:=xu (Y:=Y) (os:=ops.toList.drop Dh.length) (Q:=Post P N Y fun e S=>match e with | .normal=>K S|_=>False) (K:=K) (out:=out) (base:=base) (fun ι μ S a w hR hK=>Post.of (e':=.normal) hR rfl hK) (k:=Dh.length) htr2 (fun j=>by
   rw [List.getElem?_drop];simp) (lU iG q1 q2) q3
  rwa [List.length_drop,Array.length_toList] at h
 ·refine ⟨by simp, fun t ht => ?_, fun i hi TD => ?_, ?_, qy N4, fun i hi => ?_, by omega, fun i hi hi2 => by simp [hi2]⟩
  ·obtain ⟨j, hj⟩ := List.getElem?_of_mem ht
   obtain ⟨e1,e2,e3⟩:=hk j t hj
   subst e1
   exact ⟨e3,e2,by simp [show t.k<ops.size by omega]⟩
  ·have : i < ts.length := by omega
   refine ⟨ts[i],List.getElem_mem this,(hk i _ (by simp)).1⟩
  ·have h4 : (ts.map (·.k)).Pairwise (· < ·) := by rw [h2]; exact List.pairwise_lt_range'
   exact List.pairwise_map.1 h4
  ·exfalso
   rcases Nat.lt_or_ge i ops.size with h|h<;>simp [h] at hi
 ·refine Az (fun e bl h => ?_) hrun
  exact ⟨e,bl,fun _=>rfl,fun _=>rfl,h⟩
 ·exact ⟨hR.env,hR.sz,(hR.inv.tP (by omega)).drawn,hR.ms⟩
 ·intro t ht
  exact hR.inv.nx _ (by omega)
end
end Go.AM
end
section
namespace Go.AM
section
variable {P:Program} {N:Nat} {Y:Ctx} {ι ι':ax} {μ μ':Mu} {H:aL} {w w':World} {out:Option Nat} {base:Nat}
theorem TE {func:Func} {fn:Fn} (htr:cn P func=some fn):NV P func.results.toList=some fn.res:=by
 unfold cn at htr
 split at htr<;>try (cases htr;done)
 split at htr<;>try (cases htr;done)
 rename_i SH
 split at htr<;>try (cases htr;done)
 cases htr;exact SH
theorem Inv.down (h:Inv P Y ι μ H w) (ro:Option Nat):Inv P ⟨Y.w0,ι,μ,ro,Y.x,[]⟩ ι μ H w :=
 ⟨h.below,ax.le_refl _,fun _ _ _ _=>rfl,h.rd,Mu.le_refl _,h.nx,h.live,h.inj,h.lt,h.dH⟩
theorem Inv.up {ro:Option Nat} {H':aL} (h0:Inv P Y ι μ H w) (h:Inv P ⟨Y.w0,ι,μ,ro,Y.x,[]⟩ ι' μ' H' w'):Inv P Y ι' μ' H' w'/\ι.le ι'/\μ.le μ' :=
 ⟨⟨h.below,ax.le_trans h0.i0 h.i0,fun b o hb hx=>(h.iB b o hb hx).trans (h0.iB b o hb hx),h.rd,Mu.le_trans h0.m0 h.m0,h.nx,h.live,h.inj,h.lt,h0.gl⟩,h.i0,h.m0⟩
theorem kF {f : Nat} {func : Func} {fn : Fn} (hf : P.funcs[f]? = some func) (htr : cn P func = some fn) (cH : Enters P f) (ig : nj P fn.N none H.next) {vs : List V} {Q : V → aL → Prop} (hlen : vs.length ≤ fn.np)
  (h:sX (gL P fn.N none H.next) fn.body ⟨args 0 vs,H,[]⟩ (BN fn.res fn.tys Q)):iK P f vs H Q:=by
 refine ⟨cH,fun Y ι μ w as hI hr=>?_⟩
 refine Jb (Y:=⟨Y.w0,ι,μ,none,Y.x,[]⟩) hf htr ig hlen h rfl rfl (fun id hid=>hI.nx id hid) (hI.down none) hr fun Y1 ι' μ' S' a' w' e' hY hR hq=>?_
 have key:BN.qv fn.res fn.tys Q S'->LeavesInM Fence.wide 0 P func a'.tmps (Om P Y ι μ Q) a'.defers .returning w':=by
  intro hs
  unfold BN.qv at hs
  split at hs<;>try (exact hs.elim)
  rename_i bl qW
  split at hs<;>try (exact hs.elim)
  rename_i vs' hvs
  refine tJ (TE htr) (n:=S'.H.next) (bl:=S'.H.bl) hY rfl hR.inv hR.env hR.ms qW hvs fun x w2 n9 hx=>?_
  obtain ⟨h1,h2,h3⟩:=hI.up n9
  exact ⟨x,ι',μ',_,_,rfl,h2,h3,h1,hx (hTs fn.tys),hs⟩
 cases e' with
 |exit id=>exact hq.elim
 |normal=>exact ⟨.inl rfl,key hq⟩
 |ret=>exact ⟨.inr rfl,key hq⟩
theorem Inv.Le {bl:av} {n id:Nat} {L:Loc} {B:k8} (h:Inv P Y ι μ ⟨n,bl⟩ w) (hb:az id bl=some B) (hL:μ id=some L) {o o':Obj} (ho:w.heap[L.b]?=some o) (hnc:∀c e f,o ≠ .cells c e f) (hnm:∀ms c,o ≠ .map ms c) :
  Inv P Y ι μ ⟨n,bF id bl⟩ (w.putObj L.b o'):=by
 have hold:Y.own L.b:=((h.live id _ hb).loc hL).1
 have bX:∀k,k≠L.b->(w.putObj L.b o').heap[k]?=w.heap[k]?:=fun k hk=>World.putObj_heap_other hk
 have hsub:=h.del id
 refine ⟨⟨h.below.os, h.below.tape, h.below.output, by rw [World.putObj_size]; exact h.below.size, fun k hk hx => ?_, h.below.dr, fun k hk => (h.below.maps k hk).trans (by
   by_cases e:k=L.b
   ·subst e;exact .no (fun ms c e=>by rw [ho] at e;cases e;exact hnm _ _ rfl)
   ·exact .eq (bX k e))⟩,h.i0,h.iB,fun b o2 x hx=>?_,h.m0,h.nx,fun i B2 hB=>?_,hsub.inj,hsub.lt,h.gl⟩
 ·rw [bX k (Ctx.lR hold hk hx)];exact h.below.block k hk hx
 ·have := h.rd b o2 x hx
  have hne:b≠L.b:=fun e=>by
   subst e
   cases o<;>simp [World.cell?,ho] at this
   exact hnc _ _ _ rfl
  unfold World.cell? at this ⊢
  simp only at this ⊢
  rw [bX b hne];exact this
 ·simp only at hB
  rw [bw] at hB
  split at hB
  ·cases hB
  ·rename_i e
   refine (h.live i B2 hB).mono (ax.le_refl _) (Mu.le_refl _) (fun h=>h) (fun L' hL'=>bX _ (fun e'=>e (h.inj i id B2 _ L' L hB hb hL' hL e'))) (fun _ _ h=>h)
def Jg (j:Option Ex) (S:St) (K:Ex->St->Prop):Prop:=match j with
 |none=>K .normal S
 |some e=>match e with
  | .normal=>False
  | .exit i=>K (.exit i) S
  | .ret=>K .ret S
def j7 (id:Nat) (sh:List Nat) (S:St) (K:Ex->St->Prop) (H:aL):Prop:=match az id H.bl with
 |some (.loop st j _ _ _ _ _ _)=>match st with
  | .busy=>False
  |_=>match eV sh (bF id H.bl) with
   |some bl=>Jg j ⟨S.env,⟨H.next,bl⟩,S.ms⟩ K
   |none=>False
 |_=>False
def Zy (ar:Ar) (N:Nat) (out:Option Nat) (f:O) (ps:List Nat) (as bd:C) (S:St) (K:Ex->St->Prop):Prop :=
 ps.all (Nat.blt · N)=true /\
 match f.ev S.env with
 | .fn fid first cap=>match out with
  | none => S.ms = [] ∧ ar.call fid (first ++ [.yl (S.H.next + 1)] ++ cap) ⟨S.H.next + 2, (S.H.next + 1, .loop .ready none S.H.next S.env ps as bd N) :: (S.H.next, .iF) :: S.H.bl⟩
    fun _ H=>j7 (S.H.next+1) [S.H.next] S K H
  |some Xx=>match az Xx S.H.bl with
   | some (.loop _ _ d _ _ _ _ _) => ar.call fid (first ++ [.yl S.H.next] ++ cap) ⟨S.H.next + 1, (S.H.next, .loop .ready none d S.env ps as bd N) :: S.H.bl⟩
     fun _ H=>j7 S.H.next [] S K H
   |_=>False
 |_=>False
theorem uK {f:O} {ps:List Nat} {as bd:C} {S:St} {K:Ex->St->Prop} (h:Zy (gL P N out base) N out f ps as bd S K):(gL P N out base).bM f ps as bd S K:=by
 intro fo Df ao bo hfo hps hao hbo Y ι μ a w ho hb hR
 obtain ⟨hpN,h⟩:=h
 have rf:=aB hR.env hfo
 have hnc:∀(r:Loop) c e f,Obj.loop r ≠ .cells c e f:=fun r c e f=>by intro h;cases h
 split at h
 ·rename_i fid fs cs mS
  rw [mS] at rf
  generalize hg:a.eval fo=fv at rf
  cases rf with
  |fn _ _ _ xs ys h1 h2 h3 h4 =>
   have r1:aN ι μ fs xs.toList:=⟨by simpa using h1,fun i v x hv hx=>h2 i v x hv (by simpa using hx)⟩
   have r2:aN ι μ cs ys.toList:=⟨by simpa using h3,fun i v x hv hx=>h4 i v x hv (by simpa using hx)⟩
   -- behind the call
   have fin:∀{aD:Nat} {L:Loc} {sh ms':List Nat} {ds':List Deferred} {μ1:Mu},μ.le μ1->μ1 aD=some L->lV Y.hid μ1 ms' ds'->((sh=[]/\ms'=S.ms)\/∃i,sh=[i]/\ms'=[i]/\S.ms=[]/\Y.ro=none) ->
     ∀e w',Om P Y ι μ1 (fun _ H=>j7 aD sh S K H) e w' ->
     rangePost Y.F 0 P L.b (Post P N Y K) { a with defers:=ds' } e w':=fun {aD L sh ms' ds' μ1} gp hL hmk hsh e w' he=>by
    obtain ⟨v,ι',μ',r,H',rfl,hi,hm,hinv,hv,hq⟩:=he
    unfold j7 at hq
    split at hq<;>try (exact hq.elim)
    rename_i st j d env' ps' as' TF N' qW
    obtain ⟨L',r',Ld,q1,q2,q3,q4,q5,q6,q7,q8,q9,q10,q11,q12,q13⟩:=hinv.live _ _ qW
    rw [hm _ _ hL] at q1;cases q1
    have hst:r'.state ≠ .busy:=by rw [q4];cases st<;>simp [stR] at hq ⊢
    have hinv':=hinv.Le (o':=.loop { r' with state:=.exhausted }) qW (hm _ _ hL) q3 (hnc r') (fun _ _ e=>by cases e)
    have Xy:fk P N Y ι' μ' ⟨S.env,⟨H'.next,bF aD H'.bl⟩,ms'⟩ { a with defers:=ds' } (w'.putObj L.b (.loop { r' with state:=.exhausted })) :=
     ⟨hR.env.mono hi (Mu.le_trans gp hm),hR.sz,hinv',hmk.mono hm⟩
    have hq1:∃bl,eV sh (bF aD H'.bl)=some bl/\Jg j ⟨S.env,⟨H'.next,bl⟩,S.ms⟩ K:=by
     cases hsh2:eV sh (bF aD H'.bl) with
     |none=>rw [hsh2] at hq;cases st<;>exact hq.elim
     |some bl=>rw [hsh2] at hq;exact ⟨bl,rfl,by cases st<;>first|exact hq.elim|exact hq⟩
    obtain ⟨bl,OC,Zz⟩:=hq1
    obtain ⟨Y1,OD,lU⟩:∃Y1,Ext P Y Y1/\fk P N Y1 ι' μ' ⟨S.env,⟨H'.next,bl⟩,S.ms⟩ { a with defers:=ds' } (w'.putObj L.b (.loop { r' with state:=.exhausted })):=by
     rcases hsh with ⟨rfl,rfl⟩|⟨i,rfl,rfl,hS,hro⟩
     ·cases OC;exact ⟨Y,.refl Y,Xy⟩
     ·simp only [eV] at OC
      split at OC<;>try (cases OC;done)
      rename_i hb
      cases OC
      rw [hS]
      exact Xy.vj rfl hb hro
    have hend:=run_endLoop (P:=P) q3 hst
    generalize w'.putObj L.b (.loop { r' with state:=.exhausted })=w4 at lU hend
    refine ⟨r'.pending,w4,hend,?_⟩
    unfold Jg at Zz
    cases j with
    |none=>simp only [Du] at q5;rw [q5];exact .of1 (e':=.normal) OD lU rfl Zz
    |some e =>
     cases e with
     |normal=>exact Zz.elim
     |exit i=>simp only [Du] at q5;rw [q5];exact wpIn_exit (.of1 (e':=.exit i) OD lU rfl Zz)
     |ret=>simp only [Du] at q5;rw [q5];exact wpIn_ret (.of1 (e':=.ret) OD lU rfl Zz)
   have hpN':∀p∈ps,p<N:=fun p hp=>by have:=List.all_eq_true.1 hpN p hp;simpa using this
   cases out with
   |none =>
    simp only at h
    have hro:Y.ro=none:=ho
    obtain ⟨hms0,cH,ic⟩:=h
    let Ld:Loc:=⟨w.heap.size,0,0,0⟩
    let L:Loc:=⟨w.heap.size+1,0,0,0⟩
    have hn0:=hR.inv.nx S.H.next (Nat.le_refl _)
    have zJ:=Mu.fZ (L:=Ld) hn0
    have Ga:=hR.inv.lay hn0 (L:=Ld) (o:=.deferred (some [])) (b:=.iF) rfl ⟨Ld,by simp [Mu.set],.inl hR.inv.below.size,by show (w.heap.push _)[w.heap.size]?=_;simp⟩
    have Lf:(w.alloc (.deferred (some []))).heap.size=w.heap.size+1:=World.size_alloc _ _
    have Xv:(μ.set S.H.next Ld) (S.H.next+1)=none:=by simp only [Mu.set];rw [if_neg (by omega)];exact hR.inv.nx _ (by omega)
    have hle1:=Mu.fZ (L:=L) Xv
    have GS : ∀ fn : Nat, Inv P Y ι ((μ.set S.H.next Ld).set (S.H.next + 1) L) ⟨S.H.next + 2, (S.H.next + 1, .loop .ready none S.H.next S.env ps as bd N) :: (S.H.next, .iF) :: S.H.bl⟩
      ((w.alloc (.deferred (some []))).alloc (.loop { state:=.ready,pending:=none,fn:=fn,tmps:=a.tmps,params:=Df,assign:=ao,body:=bo,defers:=w.heap.size })):=fun fn=>by
     have n9 := Ga.lay Xv (L := L) (o := .loop { state := .ready, pending := none, fn := fn, tmps := a.tmps, params := Df, assign := ao, body := bo, defers := w.heap.size })
      (b:=.loop .ready none S.H.next S.env ps as bd N) (by simp [L,Lf]) ⟨L,{ state:=.ready,pending:=none,fn:=fn,tmps:=a.tmps,params:=Df,assign:=ao,body:=bo,defers:=w.heap.size },Ld,by simp [Mu.set],.inl (by have:=hR.inv.below.size;simp only [L];omega),by
       have:=World.alloc_heap_new (w.alloc (.deferred (some []))) (.loop { state:=.ready,pending:=none,fn:=fn,tmps:=a.tmps,params:=Df,assign:=ao,body:=bo,defers:=w.heap.size })
       rw [Lf] at this;exact this,rfl,rfl,hR.env.mono (ax.le_refl _) (Mu.le_trans zJ hle1),hps,hR.sz,hpN',hao,hbo,by simp [Mu.set],rfl⟩
     refine n9.congr (fun id=>?_) (by simp only;omega)
     rw [aJ,bE]
     by_cases e:S.H.next+1=id
     ·subst e;simp
     ·rw [if_neg e, if_neg (fun e' => e e'.symm), aJ, bE]
      by_cases e2:S.H.next=id
      ·subst e2;simp
      ·rw [if_neg e2,if_neg (fun e'=>e2 e'.symm)]
    have zK:=Mu.le_trans zJ hle1
    have hLd:((μ.set S.H.next Ld).set (S.H.next+1) L) S.H.next=some Ld:=by simp [Mu.set]
    have hL:((μ.set S.H.next Ld).set (S.H.next+1) L) (S.H.next+1)=some L:=by simp [Mu.set]
    refine wpIn_rangeFunc fun fn _=>?_
    have D0:=GS fn
    obtain ⟨W,hW⟩:∃W,W=(w.alloc (.deferred (some []))).alloc (.loop { state:=.ready,pending:=none,fn:=fn,tmps:=a.tmps,params:=Df,assign:=ao,body:=bo,defers:=w.heap.size }):=⟨_,rfl⟩
    rw [<-hW] at D0
    refine ⟨w.heap.size+1,[{ target:=.collected w.heap.size,args:=#[] }],W,{ target:=.fn (.func fid) ys,args:=xs++#[.func (.yield (w.heap.size+1)) #[] #[]] },W,fid,
     (xs++#[.func (.yield (w.heap.size+1)) #[] #[]])++ys,W,?_,?_,fun _ _=>trivial,?_,fun h=>by simp [Ctx.F,Fence.wide] at h,?_⟩
    ·show (Instr.enterLoop fn a.tmps Df ao bo Y.ro).run P w = _
     rw [hro,hW];exact run_enterLoop_outer _ _ _ _ _
    ·have e1 : ∀ v, a.eval (.const v) = v := fun _ => rfl
     simp [resolve,hg,Deferred.ofValue,e1]
    ·have := cH ((xs ++ #[Value.func (Fn.yield (w.heap.size + 1)) #[] #[]]) ++ ys) W
     simpa [invoke] using this
    ·have rl:aN ι ((μ.set S.H.next Ld).set (S.H.next+1) L) (fs++[.yl (S.H.next+1)]++cs) ((xs++#[Value.func (Fn.yield (w.heap.size+1)) #[] #[]])++ys).toList:=by
      have q1:=r1.mono (ax.le_refl _) zK
      have q2:=r2.mono (ax.le_refl _) zK
      have:=(q1.append (.cons (.yl _ L hL) .nil)).append q2
      simpa using this
     refine CallsIn.mono (F:=Y.F) (ic Y ι _ _ _ D0 rl) fun e w' he=>?_
     exact fin (L:=L) (aD:=S.H.next+1) (sh:=[S.H.next]) (ms':=[S.H.next]) (ds':={ target:=.collected w.heap.size,args:=#[] }::a.defers) zK hL ⟨Ld,_,a.defers,rfl,hLd,rfl,by have:=hR.ms;rw [hms0] at this;exact this⟩ (.inr ⟨_,rfl,rfl,hms0,hro⟩) e w' he
   |some Xx =>
    simp only at h
    obtain ⟨L0,hm0,hro⟩:=ho
    split at h<;>try (exact h.elim)
    rename_i st0 j0 d0 jR ps0 as0 bd0 N0 hb0
    obtain ⟨cH,ic⟩:=h
    obtain ⟨L0',r0,Ld,q1,q2,q3,q4,q5,q6,q7,q8,q9,q10,q11,q12,q13⟩:=hR.inv.live _ _ hb0
    rw [hR.inv.m0 _ _ hm0] at q1;cases q1
    let L:Loc:=⟨w.heap.size,0,0,0⟩
    have hn0:=hR.inv.nx S.H.next (Nat.le_refl _)
    have zK:=Mu.fZ (L:=L) hn0
    have GS : ∀ fn : Nat, Inv P Y ι (μ.set S.H.next L) ⟨S.H.next + 1, (S.H.next, .loop .ready none d0 S.env ps as bd N) :: S.H.bl⟩
      (w.alloc (.loop { state:=.ready,pending:=none,fn:=fn,tmps:=a.tmps,params:=Df,assign:=ao,body:=bo,defers:=r0.defers })):=fun fn=>by
     have n9 := hR.inv.lay hn0 (L := L) (o := .loop { state := .ready, pending := none, fn := fn, tmps := a.tmps, params := Df, assign := ao, body := bo, defers := r0.defers })
      (b:=.loop .ready none d0 S.env ps as bd N) rfl ⟨L,{ state:=.ready,pending:=none,fn:=fn,tmps:=a.tmps,params:=Df,assign:=ao,body:=bo,defers:=r0.defers },Ld,by simp [Mu.set],.inl hR.inv.below.size,by
       show (w.heap.push _)[w.heap.size]?=_
       simp,rfl,rfl,hR.env.mono (ax.le_refl _) zK,hps,hR.sz,hpN',hao,hbo,zK _ _ q12,q13⟩
     refine n9.congr (fun id=>?_) (by simp only;omega)
     rw [aJ,bE]
     by_cases e:S.H.next=id
     ·subst e;simp
     ·rw [if_neg e,if_neg (fun e'=>e e'.symm)]
    have hL:(μ.set S.H.next L) S.H.next=some L:=by simp [Mu.set]
    refine wpIn_rangeFunc fun fn _=>?_
    have D0:=GS fn
    obtain ⟨W,hW⟩:∃W,W=w.alloc (.loop { state:=.ready,pending:=none,fn:=fn,tmps:=a.tmps,params:=Df,assign:=ao,body:=bo,defers:=r0.defers }):=⟨_,rfl⟩
    rw [<-hW] at D0
    refine ⟨w.heap.size,[],W,{ target:=.fn (.func fid) ys,args:=xs++#[.func (.yield w.heap.size) #[] #[]] },W,fid,
     (xs++#[.func (.yield w.heap.size) #[] #[]])++ys,W,?_,?_,fun _ _=>trivial,?_,fun h=>by simp [Ctx.F,Fence.wide] at h,?_⟩
    ·show (Instr.enterLoop fn a.tmps Df ao bo Y.ro).run P w = _
     rw [hro,hW];exact run_enterLoop_inner q3 _ _ _ _ _
    ·have e1 : ∀ v, a.eval (.const v) = v := fun _ => rfl
     simp [resolve,hg,Deferred.ofValue,e1]
    ·have := cH ((xs ++ #[Value.func (Fn.yield w.heap.size) #[] #[]]) ++ ys) W
     simpa [invoke] using this
    ·have rl:aN ι (μ.set S.H.next L) (fs++[.yl S.H.next]++cs) ((xs++#[Value.func (Fn.yield w.heap.size) #[] #[]])++ys).toList:=by
      have q1:=r1.mono (ax.le_refl _) zK
      have q2:=r2.mono (ax.le_refl _) zK
      have:=(q1.append (.cons (.yl _ L hL) .nil)).append q2
      simpa using this
     refine CallsIn.mono (F:=Y.F) (ic Y ι _ _ _ D0 rl) fun e w' he=>?_
     exact fin (L:=L) (aD:=S.H.next) (sh:=[]) zK hL (hR.ms.mono zK) (.inl ⟨rfl,rfl⟩) e w' he
 ·exact h.elim
end
end Go.AM
end
section
namespace Go.AM
def uL : List Nat → List V → List (Nat × V) → List (Nat × V)
  |p::ps,v::vs,env=>uL ps vs (Bw p v env)
  |_,_,env=>env
def rL (id:Nat) (Q:V->aL->Prop) (e:Ex) (S:St):Prop:=match az id S.H.bl with
  |some (.loop .busy _ d env ps as bd N)=>match e with
    | .normal=>Q (.tf true) ⟨S.H.next,(id,.loop .ready none d env ps as bd N)::bF id S.H.bl⟩
    | .exit i=>Q (.tf false) ⟨S.H.next,(id,.loop .done (some (.exit i)) d env ps as bd N)::bF id S.H.bl⟩
    | .ret=>Q (.tf false) ⟨S.H.next,(id,.loop .done (some .ret) d env ps as bd N)::bF id S.H.bl⟩
  |_=>False
def GU (ar:Nat->Ar) (id:Nat) (vs:List V) (H:aL) (Q:V->aL->Prop):Prop:=match az id H.bl with
  |some (.loop .ready none d env ps as bd N)=>vs.length=ps.length/\sX (ar N) as ⟨uL ps vs env,H,[]⟩ fun e S=>match e with
    | .normal=>match az id S.H.bl with
      |some (.loop .ready none d' env' ps' as' TF N')=>sX (ar N) bd ⟨S.env,⟨S.H.next,(id,.loop .busy none d' env' ps' as' TF N')::bF id S.H.bl⟩,S.ms⟩ (rL id Q)
      |_=>False
    |_=>False
  |_=>False
section
variable {P:Program} {N:Nat} {Y:Ctx} {ι ι':ax} {μ μ':Mu} {H:aL} {w w':World} {out:Option Nat} {base:Nat}
theorem AA:∀{ps:List Nat} {vs:List V} {args:List Value} {env:List (Nat×V)} {tmps:Array Value},aN ι μ vs args->(∀p∈ps,p<N)->tmps.size=N->eY ι μ env tmps ->
    eY ι μ (uL ps vs env) ((ps.zip args).foldl (fun t (p,v)=>t.setIfInBounds p v) tmps)/\((ps.zip args).foldl (fun (t:Array Value) (p,v)=>t.setIfInBounds p v) tmps).size=N
  |[],vs,args,env,tmps,hr,hp,hs,he=>by simp only [uL,List.zip_nil_left,List.foldl_nil];exact ⟨he,hs⟩
  |p::ps,[],args,env,tmps,hr,hp,hs,he=>by rw [hr.of_nil];simp only [uL,List.zip_nil_right,List.foldl_nil];exact ⟨he,hs⟩
  |p::ps,v::vs,args,env,tmps,hr,hp,hs,he=>by
    obtain ⟨x,r,rfl,h1,h2⟩:=hr.bN
    simp only [uL,List.zip_cons_cons,List.foldl_cons]
    refine AA h2 (fun q hq=>hp q (List.mem_cons_of_mem _ hq)) (by simp [hs]) fun t=>?_
    have hd':p<N:=hp p (List.mem_cons_self ..)
    rw [me]
    by_cases h:p=t
    · subst h
      rw [if_pos rfl]
      have:(tmps.setIfInBounds p x).getD p undef=x:=by simp [Array.getD,hs,hd']
      rw [this];exact h1
    · rw [if_neg h]
      have:(tmps.setIfInBounds p x).getD t undef=tmps.getD t undef:=by
        simp only [Array.getD_eq_getD_getElem?]
        rw [Array.getElem?_setIfInBounds_ne h]
      rw [this];exact he t
theorem Lg {id:Nat} {vs:List V} {Q:V->aL->Prop} (ig:∀N,nj P N (some id) H.next) (h:GU (fun N=>gL P N (some id) H.next) id vs H Q):around P id vs H Q:=by
  intro Y ι μ w args L hI hr hL
  unfold GU at h
  split at h<;>try (exact h.elim)
  rename_i d env ps as bd N hb
  obtain ⟨hlen,h⟩:=h
  obtain ⟨L',r,Ld,q1,q2,q3,q4,q5,q6,q7,q8,q9,q10,q11,q12,q13⟩:=hI.live _ _ hb
  rw [hL] at q1;cases q1
  have hnc:∀(r:Loop) c e f,Obj.loop r ≠ .cells c e f:=fun r c e f=>by intro h;cases h
  have hsize : args.size = r.params.size := by have h1 := hr.1; have h2 : r.params.toList.length = ps.length := by rw [q7]
                                               simp at h1 h2;omega
  refine ⟨r.fn,_,r.assign,r.body,w,run_yield q3 hsize,roundIn_of_wpIn trivial ?_⟩
  let Y':Ctx:=⟨Y.w0,ι,μ,some L.b,Y.x,[]⟩
  obtain ⟨he1,he2⟩:=AA (env:=env) hr q9 q8 q6
  have hzip:(r.params.zip args).foldl (fun tmps (x:Tmp×Value)=>tmps.setIfInBounds x.1 x.2) r.tmps=(ps.zip args.toList).foldl (fun (t:Array Value) (p,v)=>t.setIfInBounds p v) r.tmps:=by
    rw [<-Array.foldl_toList,Array.toList_zip,q7]
  have hR:fk P N Y' ι μ ⟨uL ps vs env,H,[]⟩ { tmps:=(r.params.zip args).foldl (fun tmps (x:Tmp×Value)=>tmps.setIfInBounds x.1 x.2) r.tmps,defers:=[] } w :=
    ⟨by rw [hzip];exact he1,by rw [hzip];exact he2,hI.down _,rfl⟩
  have hbase:Y'.base H.next:=fun id hid=>hI.nx id hid
  have hout:kB Y' (some id):=⟨L,hL,rfl⟩
  refine wpIn_mono (gN (ig N) r.assign q10 h Y' ι μ _ w hout hbase hR) fun e a1 w1 hp=>?_
  obtain ⟨Y1,OD,ι1,μ1,S1,e1,qX,hx1,hq1⟩:=hp
  have:=OD.same (by simp [Y'])
  subst this
  cases e1 with
  |exit i=>exact hq1.elim
  |ret=>exact hq1.elim
  |normal =>
    cases hx1
    simp only at hq1
    split at hq1<;>try (exact hq1.elim)
    rename_i d1 env1 ps1 as1 bd1 N1 iO
    obtain ⟨L1,r1,Ld1,p1,p2,p3,p4,p5,p6,p7,p8,p9,p10,p11,p12,p13⟩:=qX.inv.live _ _ iO
    have Zp:μ1 id=some L:=qX.inv.m0 _ _ hL
    rw [Zp] at p1;cases p1
    refine ⟨_,run_beginRound p3 p4,?_⟩
    have hlt1:L.b<w1.heap.size:=(Array.getElem?_eq_some_iff.1 p3).1
    have n9 := qX.inv.I5 (o' := .loop { r1 with state := .busy }) (B' := .loop .busy none d1 env1 ps1 as1 bd1 N1) iO Zp p3 (hnc _) (fun _ _ e => by cases e)
      ⟨L,{ r1 with state:=.busy },Ld1,Zp,p2,World.putObj_heap_same hlt1,rfl,p5,p6,p7,p8,p9,p10,p11,p12,p13⟩
    have nM:fk P N Y' ι1 μ1 ⟨S1.env,⟨S1.H.next,(id,.loop .busy none d1 env1 ps1 as1 bd1 N1)::bF id S1.H.bl⟩,S1.ms⟩ a1 (w1.putObj L.b (.loop { r1 with state:=.busy })):=⟨qX.env,qX.sz,n9,qX.ms⟩
    refine wpIn_mono (gN (ig N) r.body q11 hq1 Y' ι1 μ1 _ _ hout hbase nM) fun e a3 w3 hp=>?_
    obtain ⟨Y3,hY3,ι3,μ3,S3,e3,Nw,Xz,TG⟩:=hp
    have:=hY3.same (by simp [Y'])
    subst this
    unfold rL at TG
    split at TG<;>try (exact TG.elim)
    rename_i j3 d3 env3 ps3 as3 bd3 N3 Aj
    obtain ⟨L3,r3,Ld3,s1,s2,s3,s4,s5,s6,s7,s8,s9,s10,s11,s12,s13⟩:=Nw.inv.live _ _ Aj
    have hL3:μ3 id=some L:=Nw.inv.m0 _ _ hL
    rw [hL3] at s1;cases s1
    have hlt3:L.b<w3.heap.size:=(Array.getElem?_eq_some_iff.1 s3).1
    have fin:∀(jump:Option Code) (st:qq) (j:Option Ex) (v:V),stR st=(if jump.isNone then .ready else .done)->Du j jump->v = .tf jump.isNone->Q v ⟨S3.H.next,(id,.loop st j d3 env3 ps3 as3 bd3 N3)::bF id S3.H.bl⟩ ->
        ∃v w',(Instr.endRound L.b jump).run P w3 = .ok v w'/\Om P Y ι μ Q (.returned v) w':=fun jump st j v h1 h2 h3 h4=>by
      have hI4 := Nw.inv.I5 (o' := .loop { r3 with state := if jump.isNone then .ready else .done, pending := jump }) (B' := .loop st j d3 env3 ps3 as3 bd3 N3) Aj hL3 s3 (hnc _) (fun _ _ e => by cases e)
        ⟨L,{ r3 with state:=if jump.isNone then .ready else .done,pending:=jump },Ld3,hL3,s2,World.putObj_heap_same hlt3,h1.symm,h2,s6,s7,s8,s9,s10,s11,s12,s13⟩
      obtain ⟨u1,u2,u3⟩:=hI.up hI4
      subst h3
      exact ⟨_,_,run_endRound jump s3,_,ι3,μ3,_,_,rfl,u2,u3,u1,.tf _,h4⟩
    cases e3 with
    |normal=>cases Xz;exact fin none .ready none _ rfl rfl rfl TG
    |exit i=>cases Xz;exact fin (some (.exit i)) .done (some (.exit i)) _ rfl rfl rfl TG
    |ret=>cases Xz;exact fin (some .ret) .done (some .ret) _ rfl rfl rfl TG
end
end Go.AM
end
section
namespace Go.AM
section
variable {c1 : Nat → List V → aL → (V → aL → Prop) → Prop} {c2 : Nat → List V → V → Prop} {c3 : C → St → (Ex → St → Prop) → Prop}
 {c4:Nat->List V->aL->(V->aL->Prop)->Prop} {c5:O->List Nat->C->C->St->(Ex->St->Prop)->Prop} {c6:C->St->(Ex->St->Prop)->Prop} {bl:av}
theorem jS : ∀ {t : Ty} {bl : av} {vs : List V}, bC (bx c1 c2 c3 c4 c5 c6) bl t vs = bC dZ bl t vs
 | .unit,bl,vs=>by simp only [bC]
 | .prod a b,bl,vs=>by simp only [bC,jS (t:=a),jS (t:=b)]
 | .bool,_,[]=>rfl
 | .str,_,[]=>rfl
 | .int _,_,[]=>rfl
 | .list _,_,[]=>rfl
 | .cG _ _ _,_,[]=>rfl
 | .bool,_,c::cs=>by cases c<;>rfl
 | .str,_,c::cs=>by cases c<;>rfl
 | .int k,_,c::cs=>by cases c<;>rfl
 | .list t,_,c::cs=>by cases c<;>rfl
 | .cG d g t,_,c::cs=>by cases c<;>first|rfl|(simp only [bC,jS (t:=t)])
theorem rM {t : Ty} {bl : av} : ∀ {n : Nat} {vs : List V}, l8 (bx c1 c2 c3 c4 c5 c6) bl t n vs = l8 dZ bl t n vs
 |0,[]=>rfl
 |0,_::_=>rfl
 |n+1,vs=>by simp only [l8,jS,rM (n:=n)]
theorem BX {t : Ty} {xs : List t.den} : ∀ {n i : Nat}, Dl (bx c1 c2 c3 c4 c5 c6) t xs n i = Dl dZ t xs n i
 |0,_=>rfl
 |n+1,i=>by simp only [Dl,BX (n:=n)];rfl
theorem D1 {t:Ty} {g:Bool} {v:V}:keyOf (bx c1 c2 c3 c4 c5 c6) t g v=keyOf dZ t g v:=by simp only [keyOf,jS]
theorem B3 {t : Ty} : ∀ {vs : List V}, qZ (bx c1 c2 c3 c4 c5 c6) bl t vs = qZ dZ bl t vs
 |[]=>rfl
 |v::r=>by simp only [qZ,jS,B3 (vs:=r)]
theorem nw : ∀ {t : Ty} {x : t.den} {p : List Bool} {vs : List V}, cS (bx c1 c2 c3 c4 c5 c6) bl t x p vs = cS dZ bl t x p vs
 |t,x,[],vs=>by cases t<;>simp only [cS,jS]
 | .prod a b,x,false::p,vs=>by simp only [cS,nw (t:=a)]
 | .prod a b,x,true::p,vs=>by simp only [cS,nw (t:=b)]
 | .unit,_,_::_,_=>by simp [cS]
 | .bool,_,_::_,_=>by simp [cS]
 | .str,_,_::_,_=>by simp [cS]
 | .int _,_,_::_,_=>by simp [cS]
 | .list _,_,_::_,_=>by simp [cS]
 | .cG _ _ _,_,_::_,_=>by simp [cS]
theorem rN {t:Ty} {v:V}:elems (bx c1 c2 c3 c4 c5 c6) bl t v=elems dZ bl t v:=by cases v<;>rfl
theorem xL:∀{ks:List Kd} {xs ys:List V},aP (bx c1 c2 c3 c4 c5 c6) ks xs ys=aP dZ ks xs ys:=by
 intro ks
 induction ks with
 |nil=>intro xs ys;cases xs<;>cases ys<;>rfl
 |cons k ks ih =>
  intro xs ys
  cases xs with
  |nil=>cases k<;>rfl
  |cons x xs =>
   cases ys with
   |nil=>cases k<;>cases x<;>rfl
   |cons y ys=>cases k<;>cases x<;>cases y<;>first|rfl|(simp only [aP,ih];rfl)
theorem xM {mx:Bool} {k:IntKind}:∀{ys:List V} {a:Int},iZ (bx c1 c2 c3 c4 c5 c6) mx k a ys=iZ dZ mx k a ys:=by
 intro ys
 induction ys with
 |nil=>intro a;rfl
 |cons y ys ih=>intro a;cases y<;>first|rfl|(simp only [iZ,ih];rfl)
theorem OE {e:gJ} {vs:List V} {aD:Nat}:jh (bx c1 c2 c3 c4 c5 c6) e vs bl aD=jh dZ e vs bl aD:=by
 cases e<;>first|rfl|(simp only [jh,rN,D1,rM];done)|(simp only [jh,rN,D1,rM];rfl)
theorem xN {f g : Nat → Option V} (h : ∀ n, f n = g n) : ∀ ns, Bu f ns = Bu g ns
 |[]=>rfl
 |n::r=>by simp only [Bu,h n,xN h r]
theorem TH {vs:List V} {j:Int}:NM (bx c1 c2 c3 c4 c5 c6) vs j=NM dZ vs j:=rfl
theorem B4 {cs : List V} : ∀ {l : List (Nat × Nat × Int)} {o : Nat}, Dm (bx c1 c2 c3 c4 c5 c6) cs l o = Dm dZ cs l o
 |[],o=>rfl
 |(eU,len,j)::r,o=>by simp only [Dm,xN (fun n=>B4 (l:=r) (o:=o+n * eU)),TH]
theorem OG {i:I} {env:List (Nat×V)} {aD:Nat}:b7 (bx c1 c2 c3 c4 c5 c6) i env bl aD=b7 dZ i env bl aD:=by
 cases i<;>first|rfl|(simp only [b7,B3,nw,rN,xL,xM,OE,rM,BX,B4];done)|(simp only [b7,B3,nw,rN,xL,xM,OE,rM,BX,B4];rfl)
theorem OH {i:I} {env:List (Nat×V)} {aD:Nat}:zD (bx c1 c2 c3 c4 c5 c6) i env bl aD=zD dZ i env bl aD:=by
 cases i<;>first|rfl|(simp only [zD,nw,jS];done)|(simp only [zD,nw,jS];rfl)
theorem ZA {id:Nat}:clU (bx c1 c2 c3 c4 c5 c6) id bl=clU dZ id bl:=by
 unfold clU
 split
 ·simp only [nw];rfl
 ·rfl
end
theorem OI {c1 : Nat → List V → aL → (V → aL → Prop) → Prop} {c2 : Nat → List V → V → Prop} {c3 : C → St → (Ex → St → Prop) → Prop}
  {c4:Nat->List V->aL->(V->aL->Prop)->Prop} {c5:O->List Nat->C->C->St->(Ex->St->Prop)->Prop} {c6:C->St->(Ex->St->Prop)->Prop}:∀{ids:List Nat} {bl:av},Nt (bx c1 c2 c3 c4 c5 c6) ids bl=Nt dZ ids bl
 |[],_=>rfl
 |id::r,bl=>by simp only [Nt,ZA,OI (ids:=r)]
def ad5 (ar:Ar) (x:O) (env:List (Nat×V)) (bl:av) (aD:Nat):Out:=some ([],x.ev env,[])
def TI (ar:Ar) (c:O) (a:O) (b:O) (env:List (Nat×V)) (bl:av) (aD:Nat):Out :=
  match c.ev env with
  | .tf true=>some ([],a.ev env,[])
  | .tf false=>some ([],b.ev env,[])
  | .bool c=>match KZ (a.ev env),KZ (b.ev env) with
   |some x,some y=>some ([],.bool (ar.Gn c x y),[])
   |_,_=>none
  |_=>none
def OJ (ar:Ar) (z:List V) (env:List (Nat×V)) (bl:av) (aD:Nat):Out:=some ([],.ptr aD 0,[(aD,some (.cells z false))])
def ZB (ar:Ar) (x:O) (env:List (Nat×V)) (bl:av) (aD:Nat):Out:=match (x.ev env).cells? with
  |some cs=>some ([],.ptr aD 0,[(aD,some (.cells cs false))])
  |none=>none
def OK (ar:Ar) (z:List V) (parts:List (Nat×Nat×O)) (env:List (Nat×V)) (bl:av) (aD:Nat):Out:=match uv parts env z with
  |some cs=>some ([],.agg cs,[])
  |none=>none
def Lh (ar:Ar) (t:Ty) (xs:List O) (env:List (Nat×V)) (bl:av) (aD:Nat):Out:=match qZ ar bl t (xs.map (·.ev env)) with
  |some (ys,u)=>some ([],.sl aD t 0 xs.length,u++[(aD,some (.arr t ys false))])
  |none=>none
def TJ (ar:Ar) (agg:Bool) (k:Nat) (x:O) (env:List (Nat×V)) (bl:av) (aD:Nat):Out :=
  match x.ev env with
  | .ptr id off=>match az id bl with
   |some (.cells cs _)=>match cut off k cs with
    |some vs=>match cz agg vs with
     |some v=>some ([],v,[])
     |none=>none
    |none=>none
   |_=>none
  | .gm cs=>match cut 0 k cs with
   |some vs=>match cz agg vs with
    |some v=>some ([],v,[])
    |none=>none
   |none=>none
  | .ep id t i p=>match az id bl with
   |some (.arr t' xs _)=>if t=t' then
     match pU t' (ar.get t'.zero xs i) p with
     |some ⟨t2,y⟩=>match cC t2 y with
      |vs=>if vs.length=k then (match cz agg vs with
       |some v=>some ([ar.Nq i (ar.len xs)],v,[])
       |none=>none) else none
     |none=>none
    else none
   |some (.nL t' xs i' p' v)=>if t=t'/\p=p'/\k=1 then (match agg with
    |false=>some ([ar.eq (Int.ofNat i) (Int.ofNat i')],v,[])
    |true=>none) else none
   |_=>none
  | .ip t y=>match cC t y with
   |vs=>if vs.length=k then (match cz agg vs with
    |some v=>some ([],v,[])
    |none=>none) else none
  | .pa id t m=>match az id bl with
   |some (.arr t' xs _)=>if t=t' then (match Dl ar t' xs m 0 with
    |vs=>if vs.length=k then (match cz agg vs with
     |some v=>some ([],v,[])
     |none=>none) else none) else none
   |_=>none
  | .sp id o l=>match az id bl with
   |some (.cells cs _)=>match k with
    |1=>match Dm ar cs l o with
     |some v=>match cz agg [v] with
      |some v=>some ([],v,[])
      |none=>none
     |none=>none
    |_=>none
   |_=>none
  |_=>none
def OL (ar:Ar) (k:Nat) (a:O) (x:O) (env:List (Nat×V)) (bl:av) (aD:Nat):Out :=
  match (x.ev env).cells? with
  |none=>none
  |some vs=>if vs.length=k then
   (match a.ev env with
   | .ptr id off=>match az id bl with
    |some (.cells cs false)=>match rj off vs cs with
     |some cs'=>some ([],.any,[(id,some (.cells cs' false))])
     |none=>none
    |_=>none
   | .ep id t i p=>match az id bl with
    |some (.arr t' xs false)=>if t=t' then
      match cS ar bl t' (ar.get t'.zero xs i) p vs with
      |some (y,u)=>match uw id u with
       |true=>some ([ar.Nq i (ar.len xs)],.any,u++[(id,some (.arr t' (ar.set xs i y) false))])
       |false=>none
      |none=>none
     else none
    |_=>none
   | .pa id t m=>match az id bl with
    |some (.arr t' xs false)=>if t=t' then
      match l8 ar bl t' m vs with
      |some (ys,u)=>match uw id u with
       |true=>some ([],.any,u++[(id,some (.arr t' ys false))])
       |false=>none
      |none=>none
     else none
    |_=>none
   |_=>none) else none
def ZC (ar:Ar) (op:zA) (x:O) (y:O) (env:List (Nat×V)) (bl:av) (aD:Nat):Out :=
  match x.ev env,y.ev env with
  | .int k a,.int k' b=>match op with
   | .shl=>zZ ar .shl k a b
   | .shr=>zZ ar .shr k a b
   |_=>if k=k' then Gq ar op k a b else none
  | .str a,.str b=>Gr ar op a b
  |_,_=>none
def ZD (ar:Ar) (neg:Bool) (x:O) (y:O) (env:List (Nat×V)) (bl:av) (aD:Nat):Out:=match KZ (x.ev env),KZ (y.ev env) with
  |some a,some b=>some ([],.bool (match neg with|true=>ar.ta (ar.beq a b)|false=>ar.beq a b),[])
  |_,_=>none
def ZE (ar:Ar) (neg:Bool) (ks:List Kd) (x:O) (y:O) (env:List (Nat×V)) (bl:av) (aD:Nat):Out :=
  match x.ev env,y.ev env with
  | .agg xs,.agg ys=>match aP ar ks xs ys with
   |some c=>some ([],.bool (match neg with|true=>ar.ta c|false=>c),[])
   |none=>none
  |_,_=>none
def ZF (ar:Ar) (x:O) (env:List (Nat×V)) (bl:av) (aD:Nat):Out:=match x.ev env with
  | .int k a=>match k.signed with
   |true=>match ar.sub 0 a with|z=>some ([ar.cN k z],.int k z,[])
   |false=>some ([],.int k (ar.wr k (ar.sub 0 a)),[])
  |_=>none
def ZG (ar:Ar) (x:O) (env:List (Nat×V)) (bl:av) (aD:Nat):Out:=match x.ev env with
  | .tf b=>some ([],.tf (!b),[])
  | .bool b=>some ([],.bool (ar.ta b),[])
  |_=>none
def TK (ar:Ar) (k:IntKind) (x:O) (env:List (Nat×V)) (bl:av) (aD:Nat):Out:=match x.ev env with
  | .int _ n=>some ([ar.cN k n],.int k n,[])
  |_=>none
def ZH (ar:Ar) (off:Nat) (path:List Bool) (x:O) (env:List (Nat×V)) (bl:av) (aD:Nat):Out:=match x.ev env with
  | .ptr id o=>some ([],.ptr id (o+off),[])
  | .gm cs=>if off<=cs.length then some ([],.gm (cs.drop off),[]) else none
  | .ep id t i p=>match t.qU p with
   |some t1=>if t1.bK path=off then (match t1.qU path with
    |some _=>some ([],.ep id t i (p++path),[])
    |none=>none) else none
   |none=>none
  | .ip t y=>if t.bK path=off then (match pU t y path with
   |some ⟨t2,z⟩=>some ([],.ip t2 z,[])
   |none=>none) else none
  | .pa id t m=>if (off / t.sz) * t.sz=off/\off / t.sz<m then some ([],.ep id t (off / t.sz) [],[]) else none
  | .l6 t xs=>if (off / t.sz) * t.sz=off then some ([ar.Nq (off / t.sz) (ar.len xs)],.ip t (ar.get t.zero xs (off / t.sz)),[]) else none
  | .sp id o l=>some ([],.sp id (o+off) l,[])
  |_=>none
def OM (ar:Ar) (agg:Bool) (off:Nat) (k:Nat) (x:O) (env:List (Nat×V)) (bl:av) (aD:Nat):Out:=match x.ev env with
  | .agg cs=>match cut off k cs with
   |some vs=>match cz agg vs with
    |some v=>some ([],v,[])
    |none=>none
   |none=>none
  |_=>none
def ZI (ar:Ar) (eU:Nat) (x:O) (i:O) (env:List (Nat×V)) (bl:av) (aD:Nat):Out :=
  match i.ev env with
  | .int _ n=>match x.ev env with
   | .sl id t lo m=>if t.sz=eU then some ([ar.bR n (Int.ofNat m)],.ep id t (ar.Gp lo (ar.tc n)) [],[]) else none
   | .fJ t xs=>if t.sz=eU then some ([ar.bR n (Int.ofNat (ar.len xs))],.ip t (ar.get t.zero xs (ar.tc n)),[]) else none
   |_=>none
  |_=>none
def TL (ar:Ar) (len:Nat) (eU:Nat) (x:O) (i:O) (env:List (Nat×V)) (bl:av) (aD:Nat):Out :=
  match x.ev env with
  | .pa id t m=>match i.ev env with
   | .int _ j=>if t.sz=eU/\m=len then some ([ar.bR j (Int.ofNat len)],.ep id t (ar.tc j) [],[]) else none
   |_=>none
  | .l6 t xs=>match i.ev env with
   | .int _ j=>if t.sz=eU then some ([ar.bR j (Int.ofNat len),ar.bR j (Int.ofNat (ar.len xs))],.ip t (ar.get t.zero xs (ar.tc j)),[]) else none
   |_=>none
  | .ptr id o=>match i.ev env with
   | .int _ j=>some ([ar.bR j (Int.ofNat len)],.sp id o [(eU,len,j)],[])
   |_=>none
  | .sp id o l=>match i.ev env with
   | .int _ j=>some ([ar.bR j (Int.ofNat len)],.sp id o ((eU,len,j)::l),[])
   |_=>none
  | .gm cs=>match i.ev env with
   | .int _ (.ofNat n)=>if n<len then (if n * eU<=cs.length then some ([],.gm (cs.drop (n * eU)),[]) else none) else none
   |_=>none
  |_=>none
def ZJ (ar:Ar) (k:Nat) (x:O) (env:List (Nat×V)) (bl:av) (aD:Nat):Out:=match x.ev env with
  | .cQ vs=>match vs[k]? with
   |some v=>some ([],v,[])
   |none=>none
  |_=>none
def ZK (ar:Ar) (x:O) (env:List (Nat×V)) (bl:av) (aD:Nat):Out:=match x.ev env with
  | .sl _ _ _ n=>some ([],.int .i64 (Int.ofNat n),[])
  | .fJ _ xs=>some ([],.int .i64 (Int.ofNat (ar.len xs)),[])
  | .bZ=>some ([],.int .i64 0,[])
  |_=>none
def TM (ar:Ar) (x:O) (env:List (Nat×V)) (bl:av) (aD:Nat):Out:=match x.ev env with
  | .str s=>some ([],.int .i64 (ar.KY s),[])
  |_=>none
def TN (ar:Ar) (n:Nat) (env:List (Nat×V)) (bl:av) (aD:Nat):Out:=some ([],.int .i64 (Int.ofNat n),[])
def Li (ar:Ar) (eU:Nat) (x:O) (y:O) (env:List (Nat×V)) (bl:av) (aD:Nat):Out :=
  match x.ev env with
  | .bZ=>match Gs (y.ev env) with
   |some t=>if t.sz=eU then
     (match elems ar bl t (y.ev env) with
     |some ys=>match ar.len ys with
      |m=>some ([ar.Nq m bp],.sl aD t 0 m,[(aD,some (.arr t ys false))])
     |none=>none) else none
   |none=>none
  | .sl id t lo n=>if t.sz=eU then
   (match az id bl with
   |some (.arr t' xs false)=>if t'=t then
    (match kf t' t xs with
    |some xs'=>match elems ar bl t (y.ev env) with
     |some ys=>match ar.Gp n (ar.len ys) with
      |m=>some ([ar.Nq m bp],.sl aD t 0 m,[(id,none),(aD,some (.arr t (ar.app (ar.sub' xs' lo n) ys) false))])
     |none=>none
    |none=>none) else none
   |_=>none) else none
  |_=>none
def GV (ar:Ar) (t:Ty) (n:O) (env:List (Nat×V)) (bl:av) (aD:Nat):Out:=match n.ev env with
  | .int _ z=>match ar.tc z with
   |m=>some ([ar.bR z (Int.ofNat bp)],.sl aD t 0 m,[(aD,some (.arr t (ar.rep m t.zero) false))])
  |_=>none
def TO (ar:Ar) (f:Nat) (a:List O) (b:List O) (env:List (Nat×V)) (bl:av) (aD:Nat):Out:=some ([],.fn f (a.map (·.ev env)) (b.map (·.ev env)),[])
def ON (ar:Ar) (eU:Nat) (x:O) (lo:Option O) (hi:Option O) (mx:Option O) (env:List (Nat×V)) (bl:av) (aD:Nat):Out :=
  match mx with
  |some m=>match hi with
   |some h=>match qt (m.ev env),qt (h.ev env),cD env 0 lo with
    |some a,some b,some c=>match x.ev env with
     | .sl _ _ _ _=>some ([ar.eq a 0,ar.eq b 0,ar.eq c 0],.bZ,[])
     | .fJ _ _=>some ([ar.eq a 0,ar.eq b 0,ar.eq c 0],.bZ,[])
     | .bZ=>some ([ar.eq a 0,ar.eq b 0,ar.eq c 0],.bZ,[])
     |_=>none
    |_,_,_=>none
   |none=>none
  |none =>
   match x.ev env with
   | .sl id t l n=>if t.sz=eU then
    (match cD env 0 lo,cD env (Int.ofNat n) hi with
    |some a,some b=>some ([ar.le 0 a,ar.le a b,ar.le b (Int.ofNat n)],.sl id t (ar.Gp l (ar.tc a)) (ar.NL (ar.tc b) (ar.tc a)),[])
    |_,_=>none) else none
   | .fJ t xs=>if t.sz=eU then
    (match cD env 0 lo,cD env (Int.ofNat (ar.len xs)) hi with
    |some a,some b=>some ([ar.le 0 a,ar.le a b,ar.le b (Int.ofNat (ar.len xs))],.fJ t (ar.sub' xs (ar.tc a) (ar.NL (ar.tc b) (ar.tc a))),[])
    |_,_=>none) else none
   | .bZ=>(match cD env 0 lo,cD env 0 hi with
    |some a,some b=>some ([ar.eq a 0,ar.eq b 0],.bZ,[])
    |_,_=>none)
   |_=>none
def Lk (ar:Ar) (mx:Bool) (x:O) (ys:List O) (env:List (Nat×V)) (bl:av) (aD:Nat):Out:=match x.ev env with
  | .int k a=>match iZ ar mx k a (ys.map (·.ev env)) with
   |some z=>some ([],.int k z,[])
   |none=>none
  |_=>none
def XA (ar:Ar) (i:I) (env:List (Nat×V)) (bl:av) (aD:Nat):Out:=match i with
 | .mv x=>ad5 ar x env bl aD
 | .pick c a b=>TI ar c a b env bl aD
 | .alloc z=>OJ ar z env bl aD
 | .box x=>ZB ar x env bl aD
 | .build z parts=>OK ar z parts env bl aD
 | .ew t xs=>Lh ar t xs env bl aD
 | .load agg k x=>TJ ar agg k x env bl aD
 | .store k a x=>OL ar k a x env bl aD
 | .bin op x y=>ZC ar op x y env bl aD
 | .S6 neg x y=>ZD ar neg x y env bl aD
 | .eqs neg ks x y=>ZE ar neg ks x y env bl aD
 | .neg x=>ZF ar x env bl aD
 | .not x=>ZG ar x env bl aD
 | .conv k x=>TK ar k x env bl aD
 | .mT off path x=>ZH ar off path x env bl aD
 | .field agg off k x=>OM ar agg off k x env bl aD
 | .idx eU x i=>ZI ar eU x i env bl aD
 | .zB len eU x i=>TL ar len eU x i env bl aD
 | .ext k x=>ZJ ar k x env bl aD
 | .len x=>ZK ar x env bl aD
 | .lens x=>TM ar x env bl aD
 | .zC n=>TN ar n env bl aD
 | .append eU x y=>Li ar eU x y env bl aD
 | .iY t n=>GV ar t n env bl aD
 | .Bp f a b=>TO ar f a b env bl aD
 | .slice eU x lo hi mx=>ON ar eU x lo hi mx env bl aD
 | .lP mx x ys=>Lk ar mx x ys env bl aD
 | .ex e xs=>jh ar e (xs.map (·.ev env)) bl aD
theorem OO {ar:Ar} {i:I} {env:List (Nat×V)} {bl:av} {aD:Nat}:XA ar i env bl aD=b7 ar i env bl aD:=by cases i<;>rfl
section
variable {P:Program} {N:Nat} {Y:Ctx} {ι ι':ax} {μ μ':Mu} {H:aL} {w w':World} {out:Option Nat} {base:Nat}
theorem B5 {ar : Ar} {d : Option Nat} {i : I} {S : St} {K : St → Prop} {ob : List Bool} {v : V} {u : eX} (ak : b7 ar i S.env S.H.bl S.H.next = some (ob, v, u)) (di : vf ob)
  (hk:K ⟨put d v S.env,⟨Nu i.lays S.H.next,bJ u S.H.bl⟩,S.ms⟩):wpOp ar d i S K:=by
 refine .inl ?_
 unfold rq
 rw [ak]
 cases ob with
 |nil=>exact hk
 |cons b r=>exact ⟨di,hk⟩
theorem ZL {ar : Ar} {d : Option Nat} {i : I} {S : St} {K : St → Prop} {ob : List Bool} {v : V} {u : eX} (ak : zD ar i S.env S.H.bl S.H.next = some (ob, v, u)) (di : vf ob)
  (hk:K ⟨put d v S.env,⟨Nu i.lays S.H.next,bJ u S.H.bl⟩,S.ms⟩):wpOp ar d i S K:=by
 refine .inr (.inl ?_)
 unfold rq
 rw [ak]
 cases ob with
 |nil=>exact hk
 |cons b r=>exact ⟨di,hk⟩
theorem ZM {ar : Ar} {d : Option Nat} {i : I} {S : St} {K : St → Prop} {ob : List Bool} {v : V} {u u' : eX} {ids : List Nat} (hu : Nt ar ids S.H.bl = some u') (ak : b7 ar i S.env (bJ u' S.H.bl) S.H.next = some (ob, v, u)) (di : vf ob)
  (hk:K ⟨put d v S.env,⟨Nu i.lays S.H.next,bJ u (bJ u' S.H.bl)⟩,S.ms⟩):wpOp ar d i S K:=by
 refine .inr (.inr ⟨ids,u',hu,?_⟩)
 unfold rq
 rw [ak]
 cases ob with
 |nil=>exact hk
 |cons b r=>exact ⟨di,hk⟩
end
end Go.AM
end
section
namespace Go.AM
open Go.RowKit
def kG (P : Program) (g : TypeId → Ty → Bool) : Nat → List Field → Ty → Bool
 |_,[],.unit=>true
 |off,[f],ty=>Nat.beq f.offset off&&Nat.beq (P.cellsOf f.type) ty.sz&&g f.type ty
 |off,f::f2::r,.prod a b=>Nat.beq f.offset off&&Nat.beq (P.cellsOf f.type) a.sz&&g f.type a&&kG P g (off+a.sz) (f2::r) b
 |_,_,_=>false
def AB (P:Program) (g:TypeId->Ty->Bool) (fs:List Field) (ty:Ty):Bool:=match fs with
 |[f]=>match ty with
  | .prod a .unit=>kG P g 0 [f] a
  |_=>false
 |fs=>kG P g 0 fs ty
def AD (P : Program) (g : TypeId → Ty → Bool) : Nat → TypeId → Ty → Bool
 |0,_,.unit=>true
 |1,e,ty=>Nat.beq (P.cellsOf e) ty.sz&&g e ty
 |n+2,e,.prod a b=>Nat.beq (P.cellsOf e) a.sz&&g e a&&AD P g (n+1) e b
 |_,_,_=>false
def gq (P : Program) : Nat → TypeId → Ty → Bool
 |0,_,_=>false
 |n+1,t,ty=>match P.underlying t with
  |some .bool=>match ty with | .bool=>true|_=>false
  |some (.int k)=>match ty with | .int k'=>decide (k=k')|_=>false
  |some .string=>match ty with | .str=>true|_=>false
  |some (.slice e)=>match ty with | .list te=>Nat.beq (P.cellsOf e) te.sz&&Nat.blt 0 te.sz&&gq P n e te|_=>false
  |some (.struct fs)=>Nat.beq (P.cellsOf t) ty.sz&&AB P (gq P n) fs.toList ty
  |some (.array m e)=>Nat.beq (P.cellsOf t) ty.sz&&AD P (gq P n) m e ty
  |_=>false
def Wf : (t : Ty) → t.den → Prop
 | .unit,_=>True
 | .bool,_=>True
 | .str,s=>s.size<=maxLen
 | .int k,n=>k.min<=n/\n<=k.max
 | .list t,xs=>xs.length<=maxLen/\∀x∈xs,Wf t x
 | .prod a b,x=>Wf a x.1/\Wf b x.2
 | .cG _ _ a,x=>Wf a x
def jJ (w:World):ax:=fun b o=>w.cell? ⟨b,o,none⟩
section
variable {H:Type} {enc:TypeId×Value->H} {P:Program} {w:World} {sp:Nat->Bool} {held:Bool}
theorem B6 {b o:Nat} {a:Addr} {n:Nat} {cs:List Value} (ha:a=⟨b,o,none⟩\/0<n) (hb:a.block=b) (ho:a.off=o) (h:w.cells? 0 a n=some cs):cs.length=n/\Reads (jJ w) b o cs/\(0<n->a.spot=none):=by
 unfold World.cells? at h
 rw [if_pos (Nat.zero_le _)] at h
 have key:∀(m:Nat) (xs:List Nat) (cs:List Value),xs.mapM (fun i=>w.cell? (a.add i))=some cs->cs.length=xs.length/\∀(j i:Nat),xs[j]?=some i->w.cell? (a.add i)=cs[j]?:=by
  intro m xs
  induction xs with
  |nil=>intro cs h;simp at h;subst h;exact ⟨rfl,fun j i hj=>by simp at hj⟩
  |cons x xs ih =>
   intro cs h
   rw [List.mapM_cons] at h
   cases hx:w.cell? (a.add x) with
   |none=>simp [hx] at h
   |some v =>
    cases hr:xs.mapM (fun i=>w.cell? (a.add i)) with
    |none=>simp [hx,hr] at h
    |some vs =>
     simp [hx,hr] at h
     subst h
     obtain ⟨h1,h2⟩:=ih vs hr
     refine ⟨by simp [h1],fun j i hj=>?_⟩
     cases j with
     |zero=>simp at hj;subst hj;simpa using hx
     |succ j=>simpa using h2 j i (by simpa using hj)
 obtain ⟨h1,h2⟩:=key 0 _ _ h
 have hlen:cs.length=n:=by simpa using h1
 have OP:0<n->a.spot=none:=fun hn=>by
  have:=h2 0 0 (by simp [hn])
  simp only [Addr.add,if_true] at this
  have hc:∃v,w.cell? a=some v:=⟨cs[0]'(by omega),by rw [this];simp⟩
  obtain ⟨v,hv⟩:=hc
  unfold World.cell? at hv
  cases hs:a.spot with
  |none=>rfl
  |some s=>rw [hs] at hv;split at hv<;>simp at hv
 refine ⟨hlen,fun j v hv=>?_,OP⟩
 have hj:j<cs.length:=(List.getElem?_eq_some_iff.1 hv).1
 have:=h2 j j (by rw [List.getElem?_range (by omega)])
 rw [hv] at this
 unfold jJ
 have e:a.add j=⟨b,o+j,none⟩:=by
  have hs:=OP (by omega)
  unfold Addr.add
  subst hb;subst ho
  split
  ·rename_i h0;subst h0;cases a;simp_all
  ·rfl
 rw [e] at this
 exact this
theorem Jh {α : Type} {D : α → List Value → Prop} : ∀ (n : Nat) (f : Nat → α) (g : Nat → List Value), (∀ i, i < n → D (f i) (g i)) → bD D ((List.range n).map f) ((List.range n).flatMap g)
 |0,_,_,_=>rfl
 |n+1,f,g,h=>by
  rw [List.range_succ,List.map_append,List.flatMap_append]
  exact (Jh n f g fun i hi=>h i (by omega)).append ⟨g n,[],by simp,h n (by omega),rfl⟩
theorem TP {k:IntKind} {n:Int} (h:(Lit.int k n).wf=true):k.min<=n/\n<=k.max:=by
 simpa [Lit.wf] using h
theorem qA {n : Nat} (ih : ∀ {t : TypeId} {ty : Ty}, gq P n t ty = true → ∀ {fuel : Nat} {cs : List Value} {x : DataW H × List MemPlace}, DataW.trod enc P w 0 sp held fuel t cs = some x → ∃ y : ty.den, aj (jJ w) ty y cs ∧ Wf ty y)
  {fuel:Nat} {cs:List Value}:∀{fs:List Field} {off:Nat} {ty:Ty},kG P (gq P n) off fs ty=true->cs.length=off+ty.sz ->
   (∀f∈fs,∃x,DataW.trod enc P w 0 sp held fuel f.type ((cs.drop f.offset).take (P.cellsOf f.type))=some x)->∃y:ty.den,aj (jJ w) ty y (cs.drop off)/\Wf ty y
 |[],off,ty,h,hl,_=>by
  cases ty<;>simp [kG] at h
  exact ⟨(),by simp [aj];simp [Ty.sz] at hl;omega,trivial⟩
 |[f],off,ty,h,hl,hf=>by
  have h':(Nat.beq f.offset off&&Nat.beq (P.cellsOf f.type) ty.sz&&gq P n f.type ty)=true:=by
   cases ty<;>simpa [kG] using h
  simp only [Bool.and_eq_true] at h'
  obtain ⟨⟨h1,h2⟩,h3⟩:=h'
  have e1:=Nat.eq_of_beq_eq_true h1
  have e2:=Nat.eq_of_beq_eq_true h2
  obtain ⟨x,hx⟩:=hf f (List.mem_singleton_self _)
  rw [e1,e2,List.take_of_length_le (by simp;omega)] at hx
  exact ih h3 hx
 |f::f2::r,off,ty,h,hl,hf=>by
  cases ty<;>simp only [kG,Bool.false_eq_true] at h
  rename_i a b
  simp only [Bool.and_eq_true] at h
  obtain ⟨⟨⟨h1,h2⟩,h3⟩,h4⟩:=h
  have e1:=Nat.eq_of_beq_eq_true h1
  have e2:=Nat.eq_of_beq_eq_true h2
  obtain ⟨x,hx⟩:=hf f (List.mem_cons_self ..)
  rw [e1,e2] at hx
  obtain ⟨y,hy,wy⟩:=ih h3 hx
  simp only [Ty.sz] at hl
  obtain ⟨z,hz,wz⟩:=qA ih h4 (by omega) (fun g hg=>hf g (List.mem_cons_of_mem _ hg))
  refine ⟨(y,z),⟨_,_,?_,hy,hz⟩,wy,wz⟩
  rw [<-List.drop_drop,List.take_append_drop]
theorem Ji {n : Nat} (ih : ∀ {t : TypeId} {ty : Ty}, gq P n t ty = true → ∀ {fuel : Nat} {cs : List Value} {x : DataW H × List MemPlace}, DataW.trod enc P w 0 sp held fuel t cs = some x → ∃ y : ty.den, aj (jJ w) ty y cs ∧ Wf ty y)
  {fuel:Nat} {cs:List Value} {e:TypeId}:∀{m i:Nat} {ty:Ty},AD P (gq P n) m e ty=true->cs.length=i * P.cellsOf e+ty.sz ->
   (∀j,i<=j->j<i+m->∃x,DataW.trod enc P w 0 sp held fuel e ((cs.drop (j * P.cellsOf e)).take (P.cellsOf e))=some x)->∃y:ty.den,aj (jJ w) ty y (cs.drop (i * P.cellsOf e))/\Wf ty y
 |0,i,ty,h,hl,_=>by
  cases ty<;>simp [AD] at h
  exact ⟨(),by simp [aj];simp [Ty.sz] at hl;omega,trivial⟩
 |1,i,ty,h,hl,hf=>by
  have h':(Nat.beq (P.cellsOf e) ty.sz&&gq P n e ty)=true:=by
   cases ty<;>simpa [AD] using h
  simp only [Bool.and_eq_true] at h'
  have e2:=Nat.eq_of_beq_eq_true h'.1
  obtain ⟨x,hx⟩:=hf i (Nat.le_refl _) (by omega)
  rw [List.take_of_length_le (by rw [List.length_drop];omega)] at hx
  exact ih h'.2 hx
 |m+2,i,ty,h,hl,hf=>by
  cases ty<;>simp only [AD,Bool.false_eq_true] at h
  rename_i a b
  simp only [Bool.and_eq_true] at h
  obtain ⟨⟨h1,h3⟩,h4⟩:=h
  have e2:=Nat.eq_of_beq_eq_true h1
  obtain ⟨x,hx⟩:=hf i (Nat.le_refl _) (by omega)
  obtain ⟨y,hy,wy⟩:=ih h3 hx
  simp only [Ty.sz] at hl
  obtain ⟨z,hz,wz⟩:=Ji ih h4 (i:=i+1) (by rw [Nat.add_mul];omega) (fun j h1 h2=>hf j (by omega) (by omega))
  refine ⟨(y,z),⟨_,_,?_,hy,hz⟩,wy,wz⟩
  rw [show (i+1) * P.cellsOf e=i * P.cellsOf e+P.cellsOf e by rw [Nat.add_mul];omega,<-List.drop_drop,List.take_append_drop]
theorem OQ {n:Nat}:∀{t:TypeId} {ty:Ty},gq P n t ty=true->∀{fuel:Nat} {cs:List Value} {x:DataW H×List MemPlace},DataW.trod enc P w 0 sp held fuel t cs=some x->∃y:ty.den,aj (jJ w) ty y cs/\Wf ty y:=by
 induction n with
 |zero=>intro t ty h;cases h
 |succ n ih =>
  intro t ty h fuel cs x hx
  have hx0:=hx
  unfold gq at h
  split at h
  ·rename_i hu
   cases ty<;>simp at h
   cases fuel with
   |zero=>simp [DataW.trod] at hx
   |succ fuel =>
    rcases cs with _|⟨c,_|⟨c2,r⟩⟩
    ·simp [DataW.trod,hu] at hx
    ·cases c <;> simp [DataW.trod, hu] at hx
     exact ⟨_,rfl,trivial⟩
    ·simp [DataW.trod,hu] at hx
  ·rename_i k hu
   cases ty<;>simp at h
   subst h
   cases fuel with
   |zero=>simp [DataW.trod] at hx
   |succ fuel =>
    rcases cs with _|⟨c,_|⟨c2,r⟩⟩
    ·simp [DataW.trod,hu] at hx
    ·cases c <;> simp [DataW.trod, hu] at hx
     obtain ⟨⟨rfl,h2⟩,_⟩:=hx
     exact ⟨_,rfl,TP h2⟩
    ·simp [DataW.trod,hu] at hx
  ·rename_i hu
   cases ty<;>simp at h
   cases fuel with
   |zero=>simp [DataW.trod] at hx
   |succ fuel =>
    rcases cs with _|⟨c,_|⟨c2,r⟩⟩
    ·simp [DataW.trod,hu] at hx
    ·cases c <;> simp [DataW.trod, hu] at hx
     exact ⟨_,rfl,hx.1⟩
    ·simp [DataW.trod,hu] at hx
  ·rename_i e hu
   cases ty<;>simp only [Bool.false_eq_true] at h
   rename_i te
   simp only [Bool.and_eq_true] at h
   obtain ⟨⟨h1,h2⟩,h3⟩:=h
   have e1:=Nat.eq_of_beq_eq_true h1
   have hpos:0<te.sz:=by simpa using h2
   rcases DataW.trod_slice hu hx with ⟨rfl,rfl⟩|⟨a,len,cap,elems,rest,m,_,rfl,rfl,_,hlc,hm,hel,hE,_,_⟩
   ·exact ⟨[],⟨none,0,by simp,by simp,.inl rfl⟩,by simp,by simp⟩
   ·have each:∀i,i<len->∃(y:te.den) (us:List Value),aj (jJ w) te y us/\Wf te y/\us.length=te.sz/\Reads (jJ w) a.block (a.off+i * te.sz) us/\(i=0->a.spot=none):=fun i hi=>by
     have:=hE i hi
     have hlt:i<elems.length:=by omega
     rw [List.getElem?_eq_getElem hlt,e1] at this
     cases hc:w.cells? 0 (a.add (i * te.sz)) te.sz with
     |none=>rw [hc] at this;simp at this
     |some us =>
      rw [hc,Option.bind_some] at this
      obtain ⟨y,hy,wy⟩:=ih h3 this
      have hb:(a.add (i * te.sz)).block=a.block:=by unfold Addr.add;split<;>rfl
      have ho:(a.add (i * te.sz)).off=a.off+i * te.sz:=by unfold Addr.add;split<;>simp_all
      obtain ⟨q1,q2,q3⟩:=B6 (.inr hpos) hb ho hc
      refine ⟨y,us,hy,wy,q1,q2,fun h0=>?_⟩
      subst h0
      have:=q3 hpos
      simpa [Addr.add] using this
    by_cases hl0:len=0
    ·subst hl0
     exact ⟨[],⟨some a,cap,rfl,by simp,.inl rfl⟩,by simp,by simp⟩
    ·obtain ⟨f,hf⟩:∃f:Nat->te.den×List Value,∀i,i<len->aj (jJ w) te (f i).1 (f i).2/\Wf te (f i).1/\(f i).2.length=te.sz/\Reads (jJ w) a.block (a.off+i * te.sz) (f i).2/\(i=0->a.spot=none) :=
      ⟨fun i=>if h:i<len then ((each i h).choose,(each i h).choose_spec.choose) else (te.zero,[]),fun i hi=>by simp only [hi,dif_pos];exact (each i hi).choose_spec.choose_spec⟩
     have OP:=(hf 0 (by omega)).2.2.2.2 rfl
     have hrd:∀n,n<=len->((List.range n).flatMap fun i=>(f i).2).length=n * te.sz/\Reads (jJ w) a.block a.off ((List.range n).flatMap fun i=>(f i).2):=fun n=>by
      induction n with
      |zero=>intro _;exact ⟨by simp,fun j v hv=>by simp at hv⟩
      |succ n ih2 =>
       intro hn
       obtain ⟨l1,l2⟩:=ih2 (by omega)
       obtain ⟨_,_,l3,l4,_⟩:=hf n (by omega)
       rw [List.range_succ,List.flatMap_append]
       simp only [List.flatMap_cons,List.flatMap_nil,List.append_nil]
       refine ⟨by rw [List.length_append,l1,l3,Nat.add_mul];simp,fun j v hv=>?_⟩
       rw [List.getElem?_append] at hv
       split at hv
       ·exact l2 j v hv
       ·rename_i hj
        have:=l4 _ _ hv
        rw [l1] at this hj
        rw [show a.off+n * te.sz+(j - n * te.sz)=a.off+j by omega] at this
        exact this
     refine ⟨(List.range len).map fun i=>(f i).1,⟨some a,cap,by simp,by simpa using hlc,.inr ⟨a.block,a.off,(List.range len).flatMap fun i=>(f i).2,by cases a;simp_all,(hrd len (Nat.le_refl _)).2,Jh _ _ _ fun i hi=>(hf i hi).1⟩⟩,by simp;omega,fun x hx=>?_⟩
     obtain ⟨i,hi,rfl⟩:=List.mem_map.1 hx
     exact (hf i (List.mem_range.1 hi)).2.1
  ·rename_i fs hu
   simp only [Bool.and_eq_true] at h
   obtain ⟨h1,h2⟩:=h
   obtain ⟨xs,m,_,_,hl,hxl,hf⟩:=DataW.trod_struct hu hx
   have hfm:∀f∈fs.toList,∃y,DataW.trod enc P w 0 sp held m f.type ((cs.drop f.offset).take (P.cellsOf f.type))=some y:=fun f hfm=>by
    obtain ⟨i,hi⟩:=List.getElem?_of_mem hfm
    have hi':fs[i]?=some f:=by simpa using hi
    have hlt:i<xs.length:=by rw [hxl];exact (Array.getElem?_eq_some_iff.1 hi').1
    exact ⟨xs[i],by rw [hf i f hi'];simp⟩
   have hlen:cs.length=ty.sz:=by rw [hl,Nat.eq_of_beq_eq_true h1]
   unfold AB at h2
   split at h2
   ·rename_i f hfs
    split at h2<;>try (cases h2;done)
    rename_i a
    have:=qA ih (fuel:=m) (cs:=cs) h2 (by simpa [Ty.sz] using hlen) (fun f' hf'=>by rw [<-hfs] at hf';exact hfm f' hf')
    obtain ⟨y,hy,wy⟩:=this
    exact ⟨(y,()),⟨cs,[],by simp,by simpa using hy,rfl⟩,wy,trivial⟩
   ·have := qA ih (fuel := m) (cs := cs) h2 (by simpa using hlen) hfm
    simpa using this
  ·rename_i m e hu
   simp only [Bool.and_eq_true] at h
   obtain ⟨h1,h2⟩:=h
   obtain ⟨xs,k,_,_,hl,hxl,hf⟩:=DataW.trod_array hu hx
   have:=Ji ih (fuel:=k) (cs:=cs) (i:=0) h2 (by rw [hl,Nat.eq_of_beq_eq_true h1];simp) (fun j _ hj=>⟨xs[j]'(by omega),by rw [hf j (by omega)];simp⟩)
   simpa using this
  ·cases h
end
end Go.AM
end
section
namespace Go.AM
inductive EV (π : List Nat) : V → V → Prop
 |any (v):EV π .any v
 |tf (b):EV π (.tf b) (.tf b)
 |bool (b):EV π (.bool b) (.bool b)
 |tfb (b):EV π (.bool b) (.tf b)
 |int (k n):EV π (.int k n) (.int k n)
 |str (s):EV π (.str s) (.str s)
 |fq:EV π .fq .fq
 |cU:EV π .cU .cU
 |gj:EV π .gj .gj
 |fJ (t xs):EV π (.fJ t xs) (.fJ t xs)
 |ZN (t):EV π (.fJ t []) .bZ
 |bZ:EV π .bZ .bZ
 |sl (id i t lo n) (h:π[id]?=some i):EV π (.sl id t lo n) (.sl i t lo n)
 |ZO (id t lo):EV π (.sl id t lo 0) .bZ
 |ptr (id i o) (h:π[id]?=some i):EV π (.ptr id o) (.ptr i o)
 |ep (id i t j p) (h:π[id]?=some i):EV π (.ep id t j p) (.ep i t j p)
 |yl (id i) (h:π[id]?=some i):EV π (.yl id) (.yl i)
 |ip (t x):EV π (.ip t x) (.ip t x)
 |gm (cs ds) (h:cs.length=ds.length) (h2:∀(i:Nat) v u,cs[i]?=some v->ds[i]?=some u->EV π v u):EV π (.gm cs) (.gm ds)
 | fn (f as as' cs cs') (h : as.length = as'.length) (h2 : ∀ (i : Nat) v u, as[i]? = some v → as'[i]? = some u → EV π v u)
   (h3:cs.length=cs'.length) (h4:∀(i:Nat) v u,cs[i]?=some v->cs'[i]?=some u->EV π v u):EV π (.fn f as cs) (.fn f as' cs')
 |agg (cs ds) (h:cs.length=ds.length) (h2:∀(i:Nat) v u,cs[i]?=some v->ds[i]?=some u->EV π v u):EV π (.agg cs) (.agg ds)
 |cQ (cs ds) (h:cs.length=ds.length) (h2:∀(i:Nat) v u,cs[i]?=some v->ds[i]?=some u->EV π v u):EV π (.cQ cs) (.cQ ds)
 |cG (t v u) (h:EV π v u):EV π (.cG t v) (.cG t u)
 |cb (c):EV π (.cb c) (.cb c)
 |mp (id i) (h:π[id]?=some i):EV π (.mp id) (.mp i)
 |cR:EV π .cR .cR
 |pa (id i t n) (h:π[id]?=some i):EV π (.pa id t n) (.pa i t n)
 |l6 (t xs):EV π (.l6 t xs) (.l6 t xs)
def Di (π:List Nat) (cs ds:List V):Prop:=cs.length=ds.length/\∀(i:Nat) v u,cs[i]?=some v->ds[i]?=some u->EV π v u
theorem Di.nil {π:List Nat}:Di π [] []:=⟨rfl,fun i v u h=>by simp at h⟩
theorem Di.cons {π:List Nat} {v u:V} {cs ds:List V} (h:EV π v u) (hl:Di π cs ds):Di π (v::cs) (u::ds) :=
 ⟨by simp [hl.1],fun i w y hw hy=>by
  cases i with
  |zero=>simp at hw hy;subst hw;subst hy;exact h
  |succ i=>exact hl.2 i w y (by simpa using hw) (by simpa using hy)⟩
def EE (π:List Nat) (env' env:List (Nat×V)):Prop:=∀p∈env',EV π p.2 (get p.1 env)
def EBk (π:List Nat) (nx:Nat) (bl:av) (id:Nat) (B:k8):Prop:=∃i,π[id]?=some i/\match B with
 | .cells cs fz=>∃ds,az i bl=some (.cells ds fz)/\Di π cs ds
 | .arr t xs fz=>az i bl=some (.arr t xs fz)\/(xs=[]/\nx<=i)
 | .loop st j d env ps as bd N=>∃d0 jR,az i bl=some (.loop st j d0 jR ps as bd N)/\π[d]?=some d0/\EE π env jR
 | .iF=>az i bl=some .iF
 | .map kt kg vt vg es=>az i bl=some (.map kt kg vt vg es)
 | .nL t xs k p v=>∃u,az i bl=some (.nL t xs k p u)/\EV π v u
structure jw (base:Nat) (π:List Nat) (S S':St):Prop where
 pre:π.take base=List.range base
 nx:S'.H.next=π.length
 ms:S'.ms.map (fun i=>π[i]?)=S.ms.map some
 env:EE π S'.env S.env
 bl:∀p∈S'.H.bl,EBk π S.H.next S.H.bl p.1 p.2
 inj:∀p∈S'.H.bl,∀q∈S'.H.bl,π[p.1]?=π[q.1]?->p.1=q.1
section
variable {P:Program} {N:Nat} {Y:Ctx} {ι ι':ax} {μ μ':Mu} {H:aL} {w w':World} {out:Option Nat} {base:Nat} {π:List Nat}
theorem aN.j4 {cs ds:List V} {xs:List Value} (h:cs.length=ds.length) (ih:∀(i:Nat) v u,cs[i]?=some v->ds[i]?=some u->∀{x:Value},Rel ι μ u x->Rel ι (μ.j4 π) v x) (hr:aN ι μ ds xs):aN ι (μ.j4 π) cs xs :=
 ⟨h.trans hr.1,fun i v x hv hx=>by
  have hi:i<ds.length:=by have:=(List.getElem?_eq_some_iff.1 hv).1;omega
  exact ih i v ds[i] hv (by simp [hi]) (hr.2 i ds[i] x (by simp [hi]) hx)⟩
theorem EV.rel {v' v:V} (h:EV π v' v):∀{x:Value},Rel ι μ v x->Rel ι (μ.j4 π) v' x:=by
 induction h with
 |any v=>intro x _;exact .any _
 |tf b=>intro x hr;cases hr;exact .tf _
 |bool b=>intro x hr;cases hr;exact .bool _
 |tfb b=>intro x hr;cases hr;exact .bool _
 |int k n=>intro x hr;cases hr;exact .int _ _
 |str s=>intro x hr;cases hr;exact .str _
 |fq=>intro x hr;cases hr;exact .fq
 |cU=>intro x hr;cases hr;exact .cU
 |gj=>intro x hr;cases hr;exact .gj
 |fJ t xs=>intro x hr;cases hr with|fJ _ _ _ hd=>exact .fJ t xs _ hd
 |ZN t=>intro x hr;cases hr;exact .fJ _ _ _ ⟨_,0,rfl,Nat.le_refl _,.inl rfl⟩
 |bZ=>intro x hr;cases hr;exact .bZ _
 |sl id i t lo n hi =>
  intro x hr
  cases hr with
  |sl _ _ _ _ cap L hL h1 h2 h3=>exact .sl id t lo n cap L (by simp [Mu.j4,hi,hL]) h1 h2 h3
  |bI=>exact .bI _ _ _ _
 |ZO id t lo=>intro x hr;cases hr;exact .bI _ _ _ _
 |ptr id i o hi=>intro x hr;cases hr with|ptr _ _ L hL=>exact .ptr id o L (by simp [Mu.j4,hi,hL])
 |ep id i t j p hi=>intro x hr;cases hr with|ep _ _ _ _ L hL=>exact .ep id t j p L (by simp [Mu.j4,hi,hL])
 |yl id i hi=>intro x hr;cases hr with|yl _ L hL=>exact .yl id L (by simp [Mu.j4,hi,hL])
 |ip t y=>intro x hr;cases hr with|ip _ _ b o us h1 h2=>exact .ip t y b o us h1 h2
 |gm cs ds h h2 ih =>
  intro x hr
  cases hr with
  |gm _ b o gf h1 h3 h4 =>
   have hR:aN ι μ ds ((List.range ds.length).map gf):=⟨by simp,fun i v x hv hx=>by
    have hi:=(List.getElem?_eq_some_iff.1 hv).1
    simp [hi] at hx;subst hx;exact h3 i v hv⟩
   have iG:=aN.j4 h ih hR
   exact .gm cs b o gf (fun i hi => h1 i (by omega)) (fun i v hv => iG.2 i v (gf i) hv (by
    have hi:=(List.getElem?_eq_some_iff.1 hv).1
    simp [show i<ds.length by omega])) h4
 |fn f as as' cs cs' h h2 h3 h4 ih1 ih2 =>
  intro x hr
  cases hr with
  |fn _ _ _ xs ys q1 q2 q3 q4 =>
   have r1:=aN.j4 h ih1 (xs:=xs.toList) ⟨by simpa using q1,fun i v x hv hx=>q2 i v x hv (by simpa using hx)⟩
   have r2:=aN.j4 h3 ih2 (xs:=ys.toList) ⟨by simpa using q3,fun i v x hv hx=>q4 i v x hv (by simpa using hx)⟩
   exact .fn f as cs xs ys (by simpa using r1.1) (fun i v x hv hx=>r1.2 i v x hv (by simpa using hx)) (by simpa using r2.1) (fun i v x hv hx=>r2.2 i v x hv (by simpa using hx))
 |agg cs ds h h2 ih =>
  intro x hr
  cases hr with
  |agg _ xs q1 q2 q3 =>
   have r1:=aN.j4 h ih (xs:=xs.toList) ⟨by simpa using q1,fun i v x hv hx=>q2 i v x hv (by simpa using hx)⟩
   exact .agg cs xs (by simpa using r1.1) (fun i v x hv hx=>r1.2 i v x hv (by simpa using hx)) q3
 |cQ cs ds h h2 ih =>
  intro x hr
  cases hr with
  |cQ _ xs q1 q2 =>
   have r1:=aN.j4 h ih (xs:=xs.toList) ⟨by simpa using q1,fun i v x hv hx=>q2 i v x hv (by simpa using hx)⟩
   exact .cQ cs xs (by simpa using r1.1) (fun i v x hv hx=>r1.2 i v x hv (by simpa using hx))
 |cG t v u h ih=>intro x hr;cases hr with|cG _ _ x hx=>exact .cG t v x (ih hx)
 |cb c=>intro x hr;cases hr with|cb _ b hc=>exact .cb c b hc
 |mp id i hi=>intro x hr;cases hr with|mp _ L hL=>exact .mp id L (by simp [Mu.j4,hi,hL])
 |cR=>intro x hr;cases hr;exact .cR
 |pa id i t n hi=>intro x hr;cases hr with|pa _ _ _ L hL hm=>exact .pa id t n L (by simp [Mu.j4,hi,hL]) hm
 |l6 t xs=>intro x hr;cases hr with|l6 _ _ b o us h1 h2=>exact .l6 t xs b o us h1 h2
theorem EE.rel {tmps : Array Value} {env : List (Nat × V)} (he : eY ι μ env tmps) : ∀ {env' : List (Nat × V)}, EE π env' env → eY ι (μ.j4 π) env' tmps
 |[],_=>fun t=>.any _
 |(t,v)::r,h=>fun i=>by
  rw [cq];split
  ·rename_i e;subst e;exact (h _ (List.mem_cons_self ..)).rel (he _)
  ·exact EE.rel he (fun p hp=>h p (List.mem_cons_of_mem _ hp)) i
theorem dD : ∀ {bl : av} {id : Nat} {b : k8}, az id bl = some b → (id, b) ∈ bl
 |[],id,b,h=>by simp [az] at h
 |(s,c)::r,id,b,h=>by
  rw [bE] at h
  split at h
  ·rename_i e;subst e;cases h;exact List.mem_cons_self ..
  ·exact List.mem_cons_of_mem _ (dD h)
theorem jw.rep {S S':St} (h:jw base π S S') (hbase:Y.base base) {a:Act} (hR:fk P N Y ι μ S a w):fk P N Y ι (μ.j4 π) S' a w:=by
 have hI:=hR.inv
 have hle:Y.m0.le (μ.j4 π):=fun id L hL=>by
  have hlt:id<base:=by
   rcases Nat.lt_or_ge id base with h|h
   ·exact h
   ·rw [hbase id h] at hL;cases hL
  have:π[id]?=some id:=by
   have e1:(π.take base)[id]?=(List.range base)[id]?:=by rw [h.pre]
   rw [List.getElem?_take,if_pos hlt,List.getElem?_range hlt] at e1
   exact e1
  simp [Mu.j4,this,hI.m0 id L hL]
 refine ⟨h.env.rel hR.env,hR.sz,⟨hI.below,hI.i0,hI.iB,hI.rd,hle,fun id hid=>?_,fun id B hB=>?_,?_,fun id B hB=>?_,hI.gl⟩,?_⟩
 ·have : π[id]? = none := List.getElem?_eq_none (by rw [← h.nx]; exact hid)
  simp [Mu.j4,this]
 ·obtain ⟨i, e1, hb⟩ := h.bl _ (dD hB)
  have iD:(μ.j4 π) id=μ i:=by simp only [Mu.j4];rw [e1];rfl
  cases B with
  |cells cs fz =>
   obtain ⟨ds,e2,ak⟩:=hb
   obtain ⟨L,vs,hM,Nx⟩:=hI.live i _ e2
   exact ⟨L,vs,⟨by rw [iD];exact hM.mu,hM.old,hM.row,hM.fits,hM.one,hM.Gw,hM.qV⟩,aN.j4 ak.1 (fun i v u hv hu=>fun {x} hr=>(ak.2 i v u hv hu).rel hr) Nx⟩
  |arr t xs fz =>
   rcases hb with e2|⟨rfl,hge⟩
   ·rcases hI.live i _ e2 with ⟨e, hn⟩ | ⟨L, vs, hM, hc, hl⟩
    ·exact .inl ⟨e,by rw [iD];exact hn⟩
    ·exact .inr ⟨L,vs,⟨by rw [iD];exact hM.mu,hM.old,hM.row,hM.fits,hM.one,hM.Gw,hM.qV⟩,hc,hl⟩
   ·exact .inl ⟨rfl,by rw [iD];exact hI.nx i hge⟩
  |loop st j d env ps as bd N =>
   obtain ⟨d0,jR,e2,e3,hee⟩:=hb
   obtain ⟨L,r,Ld,q1,q2,q3,q4,q5,q6,q7,q8,q9,q10,q11,q12,q13⟩:=hI.live i _ e2
   exact ⟨L,r,Ld,by rw [iD];exact q1,q2,q3,q4,q5,hee.rel q6,q7,q8,q9,q10,q11,by simp only [Mu.j4];rw [e3];exact q12,q13⟩
  |iF =>
   obtain ⟨L,q1,q2,q3⟩:=hI.live i _ hb
   exact ⟨L,by rw [iD];exact q1,q2,q3⟩
  |map kt kg vt vg es =>
   obtain ⟨L,ms,clock,dR,q1,q2,q3⟩:=hI.live i _ hb
   exact ⟨L,ms,clock,dR,by rw [iD];exact q1,q2,q3⟩
  |nL t xs k p v =>
   obtain ⟨u,e2,ak⟩:=hb
   obtain ⟨L,us,vs,c,hM,hc,hl,q1,q2,q3,q4⟩:=hI.live i _ e2
   exact ⟨L,us,vs,c,⟨by rw [iD];exact hM.mu,hM.old,hM.row,hM.fits,hM.one,hM.Gw,hM.qV⟩,hc,hl,q1,q2,q3,ak.rel q4⟩
 ·intro id id' B B' L L' hb hb' hm hm' e
  obtain ⟨i,e1,hbk⟩:=h.bl _ (dD hb)
  obtain ⟨i',K2,hbk'⟩:=h.bl _ (dD hb')
  simp only at e1 K2
  have iD:(μ.j4 π) id=μ i:=by simp only [Mu.j4];rw [e1];rfl
  have hmu':(μ.j4 π) id'=μ i':=by simp only [Mu.j4];rw [K2];rfl
  rw [iD] at hm;rw [hmu'] at hm'
  have live:∀{i:Nat} {B:k8} {id:Nat} {L:Loc},EBk π S.H.next S.H.bl id B->π[id]?=some i->μ i=some L->∃C,az i S.H.bl=some C:=by
   intro i B id L hbk e hm
   obtain ⟨i2,e2,fh⟩:=hbk
   rw [e] at e2;cases e2
   cases B with
   |cells cs fz=>obtain ⟨ds,e2,_⟩:=fh;exact ⟨_,e2⟩
   |arr t xs fz =>
    rcases fh with e2|⟨_,hge⟩
    ·exact ⟨_,e2⟩
    ·rw [hI.nx i hge] at hm;cases hm
   |loop st j d env ps as bd N=>obtain ⟨d0,jR,e2,_⟩:=fh;exact ⟨_,e2⟩
   |iF=>exact ⟨_,fh⟩
   |map kt kg vt vg es=>exact ⟨_,fh⟩
   |nL t xs k p v=>obtain ⟨u,e2,_⟩:=fh;exact ⟨_,e2⟩
  obtain ⟨C,hC⟩:=live (h.bl _ (dD hb)) e1 hm
  obtain ⟨C',Tf⟩:=live (h.bl _ (dD hb')) K2 hm'
  have:=hI.inj i i' C C' L L' hC Tf hm hm' e
  subst this
  exact h.inj _ (dD hb) _ (dD hb') (e1.trans K2.symm)
 ·obtain ⟨i, e1, _⟩ := h.bl _ (dD hB)
  have:=(List.getElem?_eq_some_iff.1 e1).1
  rw [h.nx];exact this
 ·have key:∀{ms ms':List Nat} {ds:List Deferred},ms'.map (fun i=>π[i]?)=ms.map some->lV Y.hid μ ms ds->lV Y.hid (μ.j4 π) ms' ds:=by
   intro ms
   induction ms with
   |nil=>intro ms' ds e hm;cases ms'<;>simp at e;exact hm
   |cons i ms ih =>
    intro ms' ds e hm
    cases ms' with
    |nil=>simp at e
    |cons i' ms' =>
     simp only [List.map_cons,List.cons.injEq] at e
     obtain ⟨L,d,ds',q1,q2,q3,q4⟩:=hm
     exact ⟨L,d,ds',q1,by simp [Mu.j4,e.1,q2],q3,ih e.2 q4⟩
  exact key h.ms hR.ms
def lz {α β : Type} (step : α → Option (α ⊕ β)) : Nat → α → Option β
 |0,_=>none
 |n+1,x=>match step x with
  |none=>none
  |some (.inl y)=>lz step n y
  |some (.inr b)=>some b
noncomputable def iter {α β:Type} (step:α->Option (α ⊕ β)) (x:α):Option β:=by
 classical exact if h:∃n b,lz step n x=some b then some h.choose_spec.choose else none
theorem AE {α β : Type} {step : α → Option (α ⊕ β)} : ∀ {n m : Nat} {x : α} {b c : β}, lz step n x = some b → lz step m x = some c → b = c
 |0,_,_,_,_,h,_=>by cases h
 |_+1,0,_,_,_,_,h=>by cases h
 |n+1,m+1,x,b,c,h,h'=>by
  simp only [lz] at h h'
  split at h
  ·cases h
  ·rename_i y e;rw [e] at h';exact AE h h'
  ·rename_i b' e;rw [e] at h';cases h;cases h';rfl
theorem Jj {α β:Type} {step:α->Option (α ⊕ β)} {n:Nat} {x:α} {b:β} (h:lz step n x=some b):iter step x=some b:=by
 unfold iter
 have h':∃n b,lz step n x=some b:=⟨n,b,h⟩
 rw [dif_pos h']
 exact congrArg some (AE h'.choose_spec.choose_spec h)
theorem tT {α β:Type} {step:α->Option (α ⊕ β)} {x:α} {b:β} (h:iter step x=some b):∃n,lz step n x=some b:=by
 unfold iter at h
 split at h
 ·rename_i h';cases h;exact ⟨_,h'.choose_spec.choose_spec⟩
 ·cases h
theorem oC {α β:Type} {step:α->Option (α ⊕ β)} {x y:α} {b:β} (h:step x=some (.inl y)) (h':iter step y=some b):iter step x=some b:=by
 obtain ⟨n,hn⟩:=tT h'
 exact Jj (n:=n+1) (by simp [lz,h,hn])
theorem jo {α β:Type} {step:α->Option (α ⊕ β)} {x:α} {b:β} (h:step x=some (.inr b)):iter step x=some b :=
 Jj (n:=1) (by simp [lz,h])
theorem Ll (ig : nj P N out base) {α β : Type} {I : α → St} {X : β → Ex × St} {step : α → Option (α ⊕ β)} {c : C}
  (hstep:∀x r,step x=some r->sX (gL P N out base) c (I x) fun e S'=>match r with
   | .inl y=>e = .normal/\∃π,jw base π S' (I y)
   | .inr b=>e ≠ .normal/\e=(X b).1/\∃π,jw base π S' (X b).2)
  {x:α} {b:β} (hx:iter step x=some b) {S:St} {π:List Nat} (hS:jw base π S (I x)) {K:Ex->St->Prop} (hK:K (X b).1 (X b).2):(gL P N out base).loop c S K:=by
 obtain ⟨n,hn⟩:=tT hx
 intro body hbody Y ι μ a w ho hb hR
 refine wpIn_loop_ghost (fun (n:Nat) a w=>∃Y1,Ext P Y Y1/\∃x ι μ,fk P N Y1 ι μ (I x) a w/\lz step n x=some b) id (x:=n) ⟨Y,.refl Y,x,ι,_,hS.rep hb hR,hn⟩ ?_
 rintro n a w ⟨Y0,SM,x,ι,μ,hR,hx⟩
 cases n with
 |zero=>cases hx
 |succ n =>
  simp only [lz] at hx
  split at hx
  ·cases hx
  ·rename_i y e
   refine wpIn_mono (GK (gN ig body hbody (hstep x _ e)) SM ho hb hR) fun e a' w' hp=>?_
   obtain ⟨Y1,hY,ι',μ',S',e',h1,h2,rfl,π',h3⟩:=hp
   cases h2
   exact ⟨n,⟨Y1,hY,y,ι',_,h3.rep (hY.uB hb) h1,hx⟩,Nat.lt_succ_self n⟩
  ·rename_i b' e
   cases hx
   refine wpIn_mono (GK (gN ig body hbody (hstep x _ e)) SM ho hb hR) fun e a' w' hp=>?_
   obtain ⟨Y1,hY,ι',μ',S',e',h1,h2,hne,h3,π',h4⟩:=hp
   have hp:Post P N Y K e a' w':=⟨Y1,hY,ι',_,_,_,h4.rep (hY.uB hb) h1,by rw [<-h3];exact h2,hK⟩
   cases e' with
   |normal=>exact absurd rfl hne
   |exit id=>cases h2;exact hp
   |ret=>cases h2;exact hp
end
abbrev Env:=List (Nat×V)
section
variable {P:Program} {N:Nat} {Y:Ctx} {ι ι':ax} {μ μ':Mu} {H H':aL} {w w':World} {out:Option Nat} {base:Nat}
theorem Inv.junk (h:Inv P Y ι μ H w) (o:Obj):Inv P Y ι μ H (w.alloc o):=by
 have heap:∀k,k<w.heap.size->(w.alloc o).heap[k]?=w.heap[k]?:=fun k hk=>by
  show (w.heap.push o)[k]?=_
  rw [Array.getElem?_push];split
  ·omega
  ·rfl
 refine ⟨⟨h.below.os,h.below.tape,h.below.output,by have:=h.below.size;simp;omega,fun k hk hx=>?_,h.below.dr,fun k hk=>(h.below.maps k hk).trans (.eq (heap k (Nat.lt_of_lt_of_le hk h.below.size)))⟩,h.i0,h.iB,fun b o x hx=>?_,h.m0,h.nx,fun id B hB=>?_,h.inj,h.lt,h.gl⟩
 ·have := h.below.size
  rw [heap k (by omega)];exact h.below.block k hk hx
 ·have := h.rd b o x hx
  rw [World.cell?_alloc_lt _ _ _ (World.block_lt_of_cell? _ _ this)];exact this
 ·exact (h.live id B hB).mono (ax.le_refl _) (Mu.le_refl _) (fun h=>h) (fun L' hL'=>heap _ ((h.live id B hB).loc hL').2) (fun _ _ h=>h)
theorem dV.XB {B:Nat->Prop} {id:Nat} {b:k8} (h:dV P B ι μ id w b) {L:Loc} (hL:μ id=some L) {r:Nat} {m:Option Nat} {s c:Nat} {seen:Array Nat} (hr:w.heap[r]?=some (.mapIter m s seen c)):L.b≠r:=by
 intro e
 subst e
 cases b with
 |cells cs fz =>
  obtain ⟨L',vs,hM,_⟩:=h
  have:=hM.mu;rw [hL] at this;cases this
  obtain ⟨c,e,h1,_⟩:=hM.row
  rw [hr] at h1;cases h1
 |arr t xs fz =>
  rcases h with ⟨_,h⟩|⟨L',vs,hM,_⟩
  ·rw [h] at hL;cases hL
  ·have := hM.mu; rw [hL] at this; cases this
   obtain ⟨c,e,h1,_⟩:=hM.row
   rw [hr] at h1;cases h1
 |loop st j d env ps as bd N =>
  obtain ⟨L',r,Ld,h1,h2,h3,_⟩:=h
  rw [hL] at h1;cases h1
  rw [hr] at h3;cases h3
 |iF =>
  obtain ⟨L',h1,h2,h3⟩:=h
  rw [hL] at h1;cases h1
  rw [hr] at h3;cases h3
 |map kt kg vt vg es =>
  obtain ⟨L',ms,clock,dR,h1,h2,h3,_⟩:=h
  rw [hL] at h1;cases h1
  rw [hr] at h3;cases h3
 |nL t xs i p v =>
  obtain ⟨L',us,vs,c,hM,_⟩:=h
  have:=hM.mu;rw [hL] at this;cases this
  obtain ⟨c,e,h1,_⟩:=hM.row
  rw [hr] at h1;cases h1
theorem Inv.side (h:Inv P Y ι μ H w) {r:Nat} {m:Option Nat} {s c:Nat} {seen:Array Nat} (hr:w.heap[r]?=some (.mapIter m s seen c)) (hown:Y.own r) (o:Obj):Inv P Y ι μ H (w.putObj r o):=by
 have bX:∀k,k≠r->(w.putObj r o).heap[k]?=w.heap[k]?:=fun k hk=>World.putObj_heap_other hk
 refine ⟨⟨h.below.os,h.below.tape,h.below.output,by rw [World.putObj_size];exact h.below.size,fun k hk hx=>?_,h.below.dr,fun k hk=>(h.below.maps k hk).trans ?_⟩,h.i0,h.iB,fun b o2 x hx=>?_,h.m0,h.nx,fun i B hB=>?_,h.inj,h.lt,h.gl⟩
 ·rw [bX k (Ctx.lR hown hk hx)];exact h.below.block k hk hx
 ·by_cases e : k = r
  ·subst e;rw [hr];exact .no fun _ _ e=>by cases e
  ·exact .eq (bX k e)
 ·have := h.rd b o2 x hx
  have hne:b≠r:=fun e=>by subst e;simp [World.cell?,hr] at this
  unfold World.cell? at this ⊢
  simp only at this ⊢
  rw [bX b hne];exact this
 ·exact (h.live i B hB).mono (ax.le_refl _) (Mu.le_refl _) (fun h=>h) (fun L' hL'=>bX _ ((h.live i B hB).XB hL' hr)) (fun _ _ h=>h)
def Ctx.side (Y:Ctx) (w:World) (ι:ax) (μ:Mu) (r:Nat):Ctx:=⟨w,ι,μ,Y.ro,fun b=>Y.own b/\b≠r,Y.hid⟩
theorem Inv.into (h:Inv P Y ι μ H w) {r:Nat} {m:Option Nat} {s c:Nat} {seen:Array Nat} (hr:w.heap[r]?=some (.mapIter m s seen c)):Inv P (Y.side w ι μ r) ι μ H w :=
 ⟨IY.refl _ _,ax.le_refl _,fun _ _ _ _=>rfl,h.rd,Mu.le_refl _,h.nx,fun id B hB=>(h.live id B hB).owns fun L hL ho=>.inr ⟨ho,(h.live id B hB).XB hL hr⟩,h.inj,h.lt,h.dH⟩
theorem Inv.ad7 (h:Inv P Y ι μ H w) {r:Nat} (h2:Inv P (Y.side w ι μ r) ι' μ' H' w'):Inv P Y ι' μ' H' w':=by
 have hs:=h.below.size
 have hx2:∀k,k<Y.w0.heap.size->¬Y.x k->¬(Y.side w ι μ r).x k:=fun k hk hx hX=>by
  rcases hX.1 with h|h
  ·omega
  ·exact hx h
 have b2:=h2.below
 refine ⟨⟨b2.os.trans h.below.os,b2.tape.trans h.below.tape,b2.output.trans h.below.output,Nat.le_trans hs b2.size,fun k hk hx=>?_,Nat.le_trans h.below.dr b2.dr,fun k hk=>(h.below.maps k hk).trans (b2.maps k (Nat.lt_of_lt_of_le hk hs))⟩,
  ax.le_trans h.i0 h2.i0,fun b o hb hx=>?_,h2.rd,Mu.le_trans h.m0 h2.m0,h2.nx,fun id B hB=>(h2.live id B hB).owns fun L _ ho=>?_,h2.inj,h2.lt,h.gl⟩
 ·exact (b2.block k (Nat.lt_of_lt_of_le hk hs) (hx2 k hk hx)).trans (h.below.block k hk hx)
 ·exact (h2.iB b o (Nat.lt_of_lt_of_le hb hs) (hx2 b hb hx)).trans (h.iB b o hb hx)
 ·rcases ho with ho | ho
  ·exact .inl (Nat.le_trans hs ho)
  ·exact ho.1
end
def zL {E α β : Type} (step : E → α → Option (α ⊕ β)) : List E → α → Option (α ⊕ β)
 |[],x=>some (.inl x)
 |e::r,x=>match step e x with
  |none=>none
  |some (.inl y)=>zL step r y
  |some (.inr b)=>some (.inr b)
def AF {E α : Type} (step : E → α → Option α) : List E → α → Option α
 |[],x=>some x
 |e::r,x=>match step e x with
  |none=>none
  |some y=>AF step r y
noncomputable def iQ {E B:Type} (f:List E->Option B) (es:List E):Option B:=by
 classical exact if h:∃b,∀l:List E,l.Perm es->f l=some b then some h.choose else none
theorem oD {E B:Type} {f:List E->Option B} {es:List E} {b:B} (h:iQ f es=some b):∀l:List E,l.Perm es->f l=some b:=by
 unfold iQ at h
 split at h
 ·rename_i h';cases h;exact h'.choose_spec
 ·cases h
theorem gO {E B:Type} {f:List E->Option B} {es:List E} {b:B} (h:∀l:List E,l.Perm es->f l=some b):iQ f es=some b:=by
 have h':∃b,∀l:List E,l.Perm es->f l=some b:=⟨b,h⟩
 unfold iQ
 rw [dif_pos h']
 have h1:=h'.choose_spec es (.refl _)
 rw [h es (.refl _)] at h1
 exact h1.symm▸rfl
noncomputable def jK {α:Type} (a b:α):Bool:=@decide (a=b) (Classical.propDecidable _)
theorem D2 {α:Type} {a b:α} (h:jK a b=true):a=b:=by simpa [jK] using h
@[simp] theorem dL {α:Type} (a:α):jK a a=true:=by simp [jK]
def eH : List Nat → Env → Env
 |[],env=>env
 |t::r,env=>(t,.any)::eH r env
def TQ (e:Option Nat) (kt:Ty) (kg:Bool) (vt:Ty) (vg:Bool) (x:kt.den×vt.den) (env:Env):Env:=match e with
 |none=>env
 |some s=>(s,.cQ [cC.jg kg (cC kt x.1),cC.jg vg (cC vt x.2)])::env
section
variable {P:Program} {N:Nat} {Y:Ctx} {ι ι':ax} {μ μ':Mu} {H H':aL} {w w':World} {out:Option Nat} {base:Nat}
theorem qB : ∀ {cl : List Nat} {env : Env} {t : Nat}, get t (eH cl env) = .any ∨ get t (eH cl env) = get t env
 |[],env,t=>.inr rfl
 |s::r,env,t=>by
  rw [eH,cq]
  split
  ·exact .inl rfl
  ·exact qB
theorem eY.forget {env:Env} {tmps:Array Value} (h:eY ι μ env tmps) (cl:List Nat):eY ι μ (eH cl env) tmps:=fun t=>by
 rcases qB (cl:=cl) (env:=env) (t:=t) with e|e<;>rw [e]
 ·exact .any _
 ·exact h t
theorem eY.over {env:Env} {a:Act} (h:eY ι μ env a.tmps) {d:Nat} (hd:get d env = .any) (v:Value):eY ι μ env (a.put (some d) v).tmps:=fun t=>by
 by_cases e:d=t
 ·subst e;rw [hd];exact .any _
 ·have:(a.tmps.setIfInBounds d v).getD t undef=a.tmps.getD t undef:=by
   simp only [Array.getD_eq_getD_getElem?]
   rw [Array.getElem?_setIfInBounds_ne e]
  simp only [Act.put]
  rw [this];exact h t
theorem fk.over {S:St} {a:Act} (h:fk P N Y ι μ S a w) {d:Nat} (hd:get d S.env = .any) (v:Value):fk P N Y ι μ S (a.put (some d) v) w :=
 ⟨h.env.over hd v,by simp [Act.put,h.sz],h.inv,h.ms⟩
theorem B7 {a:Act} {d:Nat} {v:Value} (hd:d<a.tmps.size):(a.put (some d) v).tmps.getD d undef=v:=by simp [Act.put,Array.getD,hd]
theorem OR {a:Act} {d t:Nat} {v:Value} (h:d≠t):(a.put (some d) v).tmps.getD t undef=a.tmps.getD t undef:=by
 simp only [Act.put,Array.getD_eq_getD_getElem?]
 rw [Array.getElem?_setIfInBounds_ne h]
theorem Inv.name (h:Inv P Y ι μ H w) (L:Loc):Inv P Y ι (μ.set H.next L) ⟨H.next+1,H.bl⟩ w:=by
 have hn:=h.nx H.next (Nat.le_refl _)
 have hle:=Mu.fZ (L:=L) hn
 have hne:∀id B,az id H.bl=some B->id≠H.next:=fun id B hB=>Nat.ne_of_lt (h.lt id B hB)
 refine ⟨h.below,h.i0,h.iB,h.rd,Mu.le_trans h.m0 hle,fun id hid=>?_,fun id B hB=>?_,fun id id' B B' L1 L2 h1 h2 gp hm2 e=>?_,fun id B hB=>Nat.lt_succ_of_lt (h.lt id B hB),h.gl⟩
 ·simp only at hid
  unfold Mu.set;rw [if_neg (by omega)];exact h.nx id (by omega)
 ·exact (h.live id B hB).mono (ax.le_refl _) hle (fun hm=>by unfold Mu.set;rw [if_neg (hne id B hB)];exact hm) (fun _ _=>rfl) (fun _ _ h=>h)
 ·unfold Mu.set at gp hm2
  rw [if_neg (hne id B h1)] at gp
  rw [if_neg (hne id' B' h2)] at hm2
  exact h.inj id id' B B' L1 L2 h1 h2 gp hm2 e
theorem gP {o:Oper} (h:o.guard=none) (f:Nat->Option Bool):Region.wanted o f=true:=by
 unfold Region.wanted;rw [h]
theorem GW {a b:Code} {hd:Xs} (h:wM P N a b=some hd):∃(ia:Nat) (zN:Array Oper) (o:Oper) (rr:List Oper) (t:TypeId) (x:Operand) (b3 i2:Nat) (tU:Array Oper) (o1 o2:Oper) (n ok:Nat) (y:Code),
  a = .region ia zN false/\zN.toList=rr++[o]/\o.op = .range t x/\o.dst=some hd.it/\o.guard=none/\hd.it<N/\kn P t=some (hd.kt,hd.kg,hd.vt,hd.vg)/\dI x=some hd.m/\eC P N zN rr=some hd.pre /\
  b = .block hd.qa (.loop (.seq (.region i2 tU false) (.seq (.cond (.tmp ok) .skip (.exit hd.qa)) (.block b3 y))))/\tU.toList=[o1,o2]/\o1.op = .next (.tmp hd.it) false/\o1.dst=some n/\o1.guard=none /\
  o2.op = .extract (.tmp n) 0/\o2.dst=some ok/\o2.guard=none/\n<N/\ok<N/\n≠hd.it/\ok≠hd.it/\hd.cl=[n,ok]/\hd.e=tn N hd.it y:=by
 unfold wM at h
 split at h<;>try (cases h;done)
 rename_i b1 x2 t b2 b3 y
 split at h<;>try (cases h;done)
 rename_i is m it kt vt vg h1
 split at h<;>try (cases h;done)
 rename_i n ok h2
 split at h<;>try (cases h;done)
 rename_i hc
 obtain ⟨e1,e2⟩:=hc
 subst e1;subst e2
 cases h
 unfold NT at h1
 split at h1<;>try (cases h1;done)
 rename_i ia zN
 split at h1<;>try (cases h1;done)
 rename_i o rr hrev
 split at h1<;>try (cases h1;done)
 rename_i t x hop
 split at h1<;>try (cases h1;done)
 rename_i it' TS
 split at h1<;>try (cases h1;done)
 rename_i hg
 split at h1<;>try (cases h1;done)
 rename_i Nr Ns S9 m' is' DG hx nk
 cases h1
 unfold NU at h2
 split at h2<;>try (cases h2;done)
 rename_i i2 tU
 split at h2<;>try (cases h2;done)
 rename_i o1 o2 hl
 split at h2<;>try (cases h2;done)
 rename_i i GX
 split at h2<;>try (cases h2;done)
 rename_i n' OS
 split at h2<;>try (cases h2;done)
 rename_i n2 Lm
 split at h2<;>try (cases h2;done)
 rename_i ok' hd2
 split at h2<;>try (cases h2;done)
 rename_i Xt
 obtain ⟨g1,g2,e1,e2,l1,l2,l3,l4⟩:=Xt
 subst e1;subst e2
 cases h2
 have Dd:zN.toList=rr.reverse++[o]:=by
  have:=congrArg List.reverse hrev
  simpa using this
 exact ⟨ia,zN,o,rr.reverse,t,x,b3,i2,tU,o1,o2,_,_,y,rfl,Dd,hop,TS,hg.1,hg.2,DG,hx,nk,rfl,hl,GX,OS,g1,Lm,hd2,g2,l1,l2,l3,l4,rfl,rfl⟩
end
section
variable {P:Program} {N:Nat} {Y:Ctx} {ι ι':ax} {μ μ':Mu} {H H':aL} {w w':World} {out:Option Nat} {base:Nat}
theorem TT {b1 i2 b3 ok:Nat} {tU:Array Oper} {y:Code} {cb:C} (h:fQ P N (.block b1 (.loop (.seq (.region i2 tU false) (.seq (.cond (.tmp ok) .skip (.exit b1)) (.block b3 y)))))=some cb) :
  ∃cx cc cy,fQ P N y=some cy/\cb = .block b1 (.loop (.seq cx (.seq cc (.block b3 cy)))):=by
 have h1:∀z,wM P N (.cond (.tmp ok) .skip (.exit b1)) z=none:=fun z=>by
  unfold wM
  split
  ·split
   ·rename_i h1;cases h1
   ·rfl
  ·rfl
 have h2:∀z u v,wM P N z (.seq u v)=none:=fun z u v=>rfl
 simp only [fQ] at h
 cases hx:eC P N tU tU.toList with
 |none=>simp [hx] at h
 |some is =>
  simp only [hx] at h
  cases hy:fQ P N y with
  |none=>simp [hy] at h
  |some cy =>
   simp only [hy,dI,Option.map_some,h1,h2] at h
   cases h
   exact ⟨_,_,cy,rfl,rfl⟩
theorem xP {id:Nat} {K:Ex->St->Prop} {e:Exit} {a:Act} {w:World} (hp:Post P N Y (fun e S=>match e with
  | .normal=>K .normal S
  | .exit id'=>match Nat.beq id' id with
   |true=>K .normal S
   |false=>K (.exit id') S
  | .ret=>K .ret S) e a w):Exit.inBlock id (Post P N Y K) e a w:=by
 obtain ⟨Y1,hY,ι',μ',S',e',h1,h2,h3⟩:=hp
 cases e' with
 |normal=>cases h2;exact ⟨Y1,hY,ι',μ',S',.normal,h1,rfl,h3⟩
 |exit id' =>
  cases h2
  simp only [Exit.inBlock]
  simp only at h3
  split at h3
  ·rename_i BM
   rw [if_pos (Nat.eq_of_beq_eq_true BM)]
   exact ⟨Y1,hY,ι',μ',S',.normal,h1,rfl,h3⟩
  ·rename_i BM
   rw [if_neg (fun e=>by subst e;rw [Nat.beq_refl] at BM;cases BM)]
   exact ⟨Y1,hY,ι',μ',S',.exit id',h1,rfl,h3⟩
 |ret=>cases h2;exact ⟨Y1,hY,ι',μ',S',.ret,h1,rfl,h3⟩
theorem OT (ig : nj P N out base) {it b1 b3 : Nat} {y : Code} {cx cc cy bd : C} (Ln : fQ P N y = some cy) (hbd : IQ (tn N it y) (.block b1 (.loop (.seq cx (.seq cc (.block b3 cy))))) = some bd) {S0 : St} {a : Act}
  (ho:kB Y out) (hb:Y.base base) (hR:fk P N Y ι μ S0 a w) {r:Nat} (hit:a.tmps.getD it undef = .pointer (some ⟨r,0,none⟩)) {kv vv:Value} (cH:(Instr.entry (.pointer (some ⟨r,0,none⟩))).run P w = .ok (.tuple #[kv,vv]) w)
  {kt vt:Ty} {kg vg:Bool} {x:kt.den×vt.den} (hk:Rel ι μ (cC.jg kg (cC kt x.1)) kv) (hv:Rel ι μ (cC.jg vg (cC vt x.2)) vv) {Q:Ex->St->Prop}
  (h:sX (gL P N out base) bd ⟨TQ (tn N it y) kt kg vt vg x S0.env,S0.H,S0.ms⟩ Q):(Code.block b3 y).wpIn Y.F 0 P (Post P N Y Q) a w:=by
 cases he:tn N it y with
 |none =>
  rw [he] at hbd h
  cases hbd
  exact gN ig (.block b3 y) (c:=.block b3 cy) (by simp [fQ,Ln]) h Y ι μ a w ho hb hR
 |some s =>
  rw [he] at hbd h
  unfold tn at he
  split at he<;>try (cases he;done)
  rename_i ri ops rest
  split at he<;>try (cases he;done)
  rename_i o os hl
  split at he<;>try (cases he;done)
  rename_i i hop
  split at he<;>try (cases he;done)
  rename_i s' TS
  split at he<;>try (cases he;done)
  rename_i hc
  obtain ⟨hg,hi,hs,hne⟩:=hc
  cases he
  subst hi
  -- the code
  simp only [fQ] at Ln
  cases nk:eC P N ops ops.toList with
  |none=>simp [nk] at Ln
  |some is0 =>
   simp only [nk] at Ln
   cases hcr:fQ P N rest with
   |none=>simp [hcr] at Ln
   |some cr =>
    simp only [hcr] at Ln
    split at Ln
    rotate_left
    ·rename_i hd2 _
     split at Ln<;>try (cases Ln;done)
     cases Ln
     simp [IQ] at hbd
    cases Ln
    rw [hl] at nk
    unfold eC at nk
    split at nk<;>try (cases nk;done)
    rename_i i0 is hi0 nk
    cases nk
    simp only [IQ] at hbd
    cases hbd
    simp only [sX] at h
    refine wpIn_block (wpIn_mono ?_ fun e a w hp=>xP hp)
    refine wpIn_seq (wpIn_region ?_)
    have hsz:ops.size=os.length+1:=by rw [<-Array.length_toList,hl];rfl
    rw [List.range_eq_range',hsz,List.range'_succ]
    have ho0:ops[0]?=some o:=by rw [<-Array.getElem?_toList,hl];rfl
    have ak:a.eval (.tmp i) = .pointer (some ⟨r,0,none⟩):=hit
    have hN:rA N o.dst=true:=by rw [TS];simpa [rA] using hs
    refine uD (x := .tuple #[kv, vv]) (w' := w) (fun _ => trivial) rfl ho0 (gP hg _) (by rw [hop]; intro c; simp) (.inl (by
     unfold execOp;rw [hop];simp only [ak,Sem.run_bind,cH];rfl)) ?_
    have nM:fk P N Y ι μ ⟨TQ (some s) kt kg vt vg x S0.env,S0.H,S0.ms⟩ (a.put o.dst (.tuple #[kv,vv])) w:=by
     have := hR.put hN (ax.le_refl _) (Mu.le_refl _) hR.inv (v := .cQ [cC.jg kg (cC kt x.1), cC.jg vg (cC vt x.2)]) (x := .tuple #[kv, vv])
      (.cQ _ _ rfl (fun i v x qw hx=>by
       match i with
       |0=>simp at qw hx;subst qw;subst hx;exact hk
       |1=>simp at qw hx;subst qw;subst hx;exact hv
       |i+2=>simp at qw))
     rw [TS] at this ⊢
     exact this
    exact xu (Y:=Y) (out:=out) (base:=base) (k:=1) (Q:=Exit.then (rest.wpIn Y.F 0 P _) _) (fun ι μ S a w hR hK=>gN ig rest hcr hK Y ι μ a w ho hb hR) nk (fun j=>by rw [<-Array.getElem?_toList,hl,Nat.add_comm];simp) nM h
end
section
variable {P:Program} {N:Nat} {Y:Ctx} {ι ι':ax} {μ μ':Mu} {H H':aL} {w w':World} {out:Option Nat} {base:Nat}
theorem fB.at {kt vt : Ty} {kg vg : Bool} : ∀ {es : List (kt.den × vt.den)} {ms : List MapEntry}, fB ι kt kg vt vg es ms → ∀ {i : Nat} {m : MapEntry}, ms[i]? = some m → ∃ e, es[i]? = some e ∧ gn ι kg kt e.1 m.key ∧ gn ι vg vt e.2 m.val
 |[],_,h,i,m,hm=>by simp [fB] at h;subst h;simp at hm
 |e::es,_,⟨m0,r,rfl,h1,h2,h3⟩,i,m,hm=>by
  cases i with
  |zero=>simp at hm;subst hm;exact ⟨e,rfl,h1,h2⟩
  |succ i=>simpa using h3.at (i:=i) (by simpa using hm)
theorem D3 {E α β:Type} {step:E->α->Option (α ⊕ β)} {e:E} {r:List E} {x:α} {res:α ⊕ β} (h:zL step (e::r) x=some res) :
  (∃y,step e x=some (.inl y))\/∃b,step e x=some (.inr b)/\res = .inr b:=by
 simp only [zL] at h
 split at h
 ·cases h
 ·rename_i y e;exact .inl ⟨y,e⟩
 ·rename_i b e;cases h;exact .inr ⟨b,e,rfl⟩
theorem get_mem : ∀ {env : Env} {t : Nat} {v : V}, get t env = v → v ≠ .any → (t, v) ∈ env
 |[],t,v,h,hv=>absurd h.symm hv
 |(s,u)::r,t,v,h,hv=>by
  rw [cq] at h
  split at h
  ·rename_i e;subst e;subst h;exact List.mem_cons_self ..
  ·exact List.mem_cons_of_mem _ (get_mem h hv)
theorem Jk {π : List Nat} {cl : List Nat} {env : Env} {Hh : aL} {mss : List Nat} {S' : St} (h : jw base π ⟨eH cl env, Hh, mss⟩ S') {mn id bm : Nat} (hid : get mn env = .mp id) {kt vt : Ty} {kg vg : Bool} {es : List (kt.den × vt.den)}
  (De:jF Hh.bl kt kg vt vg id=some es) {L:Loc} (hL:μ id=some L) (Zo:L.b=bm) (Dc:Nat) (h2:get mn S'.env = .mp Dc) :
  (∃L,(μ.j4 π) Dc=some L/\L.b=bm)/\∀es',jF S'.H.bl kt kg vt vg Dc=some es'->es'=es:=by
 have ak:=h.env _ (get_mem h2 (by simp))
 try simp only at ak
 have hπ:π[Dc]?=some id:=by
  rcases qB (cl:=cl) (env:=env) (t:=mn) with e|e<;>rw [e] at ak
  ·cases ak
  ·rw [hid] at ak;cases ak with|mp _ _ hi=>exact hi
 refine ⟨⟨L,by simp [Mu.j4,hπ,hL],Zo⟩,fun es' he'=>?_⟩
 obtain ⟨i,e1,hb⟩:=h.bl _ (dD (eF he'))
 try simp only at e1 hb
 rw [hπ] at e1;cases e1
 have Lp:=eF De
 try simp only at Lp
 rw [Lp] at hb
 simp only [Option.some.injEq,k8.map.injEq,heq_eq_eq,true_and] at hb
 exact hb.symm
theorem kB.up {w:World} {ι:ax} {r:Nat} (h:kB Y out) (hm:Y.m0.le μ):kB (Y.side w ι μ r) out:=by
 cases out with
 |none=>exact h
 |some o=>obtain ⟨Lo,h1,h2⟩:=h;exact ⟨Lo,hm _ _ h1,h2⟩
theorem Ext.lift {Ya Yb : Ctx} {r : Nat} (hinv : ∀ {ι : ax} {μ : Mu} {H : aL} {w : World}, Inv P Ya ι μ H w → Inv P Yb ι μ H w) (hown : ∀ b, Ya.own b → Yb.own b) (hro : Yb.ro = Ya.ro) (hm0 : Yb.m0.le Ya.m0) (BQ : Yb.hid = Ya.hid)
  (hr:r<Ya.w0.heap.size/\¬Ya.own r) (hrb:Yb.own r) {Y1:Ctx} (h:Ext P Ya Y1) :
  ∃Y2,Ext P Yb Y2/\(∀{ι:ax} {μ:Mu} {H:aL} {w:World},Inv P Y1 ι μ H w->Inv P Y2 ι μ H w)/\(∀b,Y1.own b->Y2.own b)/\Y2.ro=Y1.ro/\Y2.m0.le Y1.m0/\Y2.hid=Y1.hid/\(r<Y1.w0.heap.size/\¬Y1.own r)/\Y2.own r:=by
 induction h with
 |refl=>exact ⟨Yb,.refl Yb,hinv,hown,hro,hm0,BQ,hr,hrb⟩
 |step h ro hI hr' own ih =>
  rename_i Y1 ι1 μ1 H1 w1 r'
  obtain ⟨Y2,e1,e2,e3,e4,e5,e6,e7,e8⟩:=ih
  have hlt:=(Array.getElem?_eq_some_iff.1 hr').1
  have hne:r≠r':=fun e=>by subst e;exact e7.2 own
  have hs:=hI.below.size
  refine ⟨Y2.vj w1 ι1 r',.step e1 (e4.trans ro) (e2 hI) hr' (e3 _ own),fun {ι μ H w} h=>?_,fun b hb=>?_,e4,e5,?_,⟨?_,fun hX=>?_⟩,.inr ⟨e8,hne⟩⟩
  ·have hx : ∀ b, (Y1.vj w1 ι1 r').x b → (Y2.vj w1 ι1 r').x b := fun b hb => ⟨e3 _ hb.1, hb.2⟩
   exact ⟨⟨h.below.os,h.below.tape,h.below.output,h.below.size,fun k hk hx'=>h.below.block k hk (fun hh=>hx' (hx _ hh)),h.below.dr,h.below.maps⟩,h.i0,fun b o hb hx'=>h.iB b o hb (fun hh=>hx' (hx _ hh)),h.rd,Mu.le_trans e5 h.m0,h.nx,
    fun id B hB=>(h.live id B hB).owns fun L _ ho=>ho.imp (fun h=>h) (hx _),h.inj,h.lt,h.gl⟩
  ·exact hb.imp (fun h=>h) fun h=>⟨e3 _ h.1,h.2⟩
  ·show r' :: Y2.hid = r' :: Y1.hid
   rw [e6]
  ·exact Nat.lt_of_lt_of_le e7.1 hs
  ·rcases hX with hX | hX
   ·have : w1.heap.size ≤ r := hX
    omega
   ·exact e7.2 hX.1
theorem KD.inj {t:Ty} {β:Type} {es:List (t.den×β)} (h:KD t es) {a b:t.den×β} (ha:a∈es) (hb:b∈es) (hab:dQ t a.1 b.1=true):a=b:=by
 have haa:dQ t a.1 a.1=true:=by
  have:=bQ hab
  rw [<-this] at hab;exact hab
 have h1:=mZ (d:=a.2) h ha haa
 have h2:=mZ (d:=a.2) h hb hab
 exact Prod.ext (bQ hab) (h1.symm.trans h2)
theorem tV {ι ι' : ax} : ∀ {t : Ty} {ks : List Kd} {x y : t.den} {vs : List Value}, bL t = some ks → aj ι t x vs → aj ι' t y vs → dQ t x y = true
 | .unit,ks,x,y,vs,h,hx,hy=>rfl
 | .bool,ks,x,y,vs,h,hx,hy=>by simp only [aj] at hx hy;subst hx;simpa [dQ] using hy
 | .str,ks,x,y,vs,h,hx,hy=>by
  simp only [aj] at hx hy;subst hx
  simp only [List.cons.injEq,Value.string.injEq,and_true] at hy
  subst hy;simp [dQ]
 | .int k,ks,x,y,vs,h,hx,hy=>by simp only [aj] at hx hy;subst hx;simpa [dQ] using hy
 | .list _,ks,x,y,vs,h,hx,hy=>by cases h
 | .cG _ _ _,ks,x,y,vs,h,hx,hy=>by cases h
 | .prod a b,ks,x,y,vs,h,hx,hy=>by
  simp only [bL] at h
  split at h<;>try (cases h;done)
  rename_i k1 k2 h1 h2
  obtain ⟨us,ws,e1,d1,d2⟩:=hx
  obtain ⟨us',ws',e2,d1',d2'⟩:=hy
  rw [e1] at e2
  obtain ⟨rfl,rfl⟩:=List.append_inj e2 (by rw [d1.length,d1'.length])
  simp only [dQ,tV h1 d1 d1',tV h2 d2 d2',Bool.and_self]
theorem OU {k:TypeId} {kt:Ty} {kg:Bool} (h:wL P k=some (kt,kg)):∃ks,bL kt=some ks:=by
 unfold wL at h
 split at h<;>try (cases h;done)
 ·cases h;exact ⟨_,rfl⟩
 ·cases h;exact ⟨_,rfl⟩
 ·split at h <;> try (cases h; done)
  split at h<;>try (cases h;done)
  rename_i hc
  cases h
  exact ⟨_,hc.1⟩
theorem Lq {g:Bool} {xs ys:List Value} {v:Value} (h1:iI g xs=some v) (h2:iI g ys=some v):xs=ys:=by
 cases g with
 |true =>
  simp only [iI,Option.some.injEq] at h1 h2
  subst h1
  simp only [Value.agg.injEq] at h2
  have:=congrArg Array.toList h2
  simpa using this.symm
 |false =>
  match xs,ys,h1,h2 with
  |[x],[y],h1,h2 =>
   simp only [iI,Option.some.injEq] at h1 h2
   rw [h1,h2]
  |[],_,h1,_=>simp [iI] at h1
  |_::_::_,_,h1,_=>simp [iI] at h1
  |[_],[],_,h2=>simp [iI] at h2
  |[_],_::_::_,_,h2=>simp [iI] at h2
theorem TU {k:TypeId} {kt:Ty} {kg:Bool} (h:wL P k=some (kt,kg)) {x y:kt.den} {z:Value} (hx:gn ι kg kt x z) (hy:gn ι' kg kt y z):dQ kt x y=true:=by
 obtain ⟨ks,hks⟩:=OU h
 obtain ⟨xs,h1,h2⟩:=hx
 obtain ⟨ys,h3,h4⟩:=hy
 have:=Lq h2 h4
 subst this
 exact tV hks h1 h3
structure MI {α:Type} (P:Program) (N:Nat) (Y:Ctx) (I:α->St) (mn it:Nat) (kt:Ty) (kg:Bool) (vt:Ty) (vg:Bool) (es dR:List (kt.den×vt.den)) (kz:List Value) (bm r since:Nat) (bs todo:List Nat) (x:α) (a:Act) (w:World) (ι:ax) (μ:Mu) (seen:Array Nat) (c0:Nat) (ms:Array MapEntry) (clock:Nat):Prop where
 rep:fk P N Y ι μ (I x) a w
 it:a.tmps.getD it undef = .pointer (some ⟨r,0,none⟩)
 own:Y.own r
 hr:w.heap[r]?=some (.mapIter (some bm) since seen c0)
 sc:since<=c0
 ck:since<=clock
 hm:w.heap[bm]?=some (.map ms clock)
 XC:ms.toList.map (·.born)=bs
 hkz:ms.toList.map (·.key)=kz
 hke:∀(i:Nat) e z,dR[i]?=some e->kz[i]?=some z->gn ι kg kt e.1 z
 old:∀b∈bs,b<since
 nd:bs.Nodup
 len:dR.length=bs.length
 td:todo.Nodup
 left:∀i,i∈todo↔∃b,bs[i]?=some b/\b∉seen.toList
 here:∀id,get mn (I x).env = .mp id->(∃L,μ id=some L/\L.b=bm)/\∀es',jF (I x).H.bl kt kg vt vg id=some es'->es'=es
def D4 (qa : Nat) : Ex → Ex
 | .exit i=>match Nat.beq i qa with
  |true=>.normal
  |false=>.exit i
 |e=>e
theorem OV {α:Type} (es:List α) (d:α):(List.range es.length).map (fun i=>es.getD i d)=es:=by
 apply List.ext_getElem
 ·simp
 ·intro i h1 h2;simp at h1;simp [List.getD,h1]
theorem D5 (ig : ∀ base, nj P N out base) {α β : Type} {I : α → St} {X : β → Ex × St} {pre : List fe} {mn it : Nat} {cl : List Nat} {e : Option Nat} {kt vt : Ty} {kg vg : Bool} {qa : Nat} {bd : C}
  {step:kt.den×vt.den->α->Option (α ⊕ β)} {aD:Nat} (hI:∀x s,s∈it::cl->get s (I x).env = .any) (Gb:∀x,(I x).H.next=aD)
  (hstep:∀lB x r,step lB x=some r->∃id es',get mn (I x).env = .mp id/\jF (I x).H.bl kt kg vt vg id=some es' /\
   sX (gL P N out (aD+1)) bd ⟨TQ e kt kg vt vg lB ((it,.ptr aD 0)::(I x).env),⟨aD+1,(I x).H.bl⟩,(I x).ms⟩ fun ex S'=>match r with
    | .inl y=>ex = .normal/\get it S'.env = .ptr aD 0/\get mn S'.env = .mp id/\jF S'.H.bl kt kg vt vg id=some es'/\∃π,jw base π ⟨eH (it::cl) S'.env,S'.H,S'.ms⟩ (I y)
    | .inr b=>ex ≠ .normal/\ex=(X b).1/\∃π,jw base π S' (X b).2)
  {S:St} {K:Ex->St->Prop}
  (hpre:fU (gL P N out base) pre S fun S1=>∃id es x π,get mn S1.env = .mp id/\jF S1.H.bl kt kg vt vg id=some es/\jw base π ⟨eH (it::cl) S1.env,S1.H,S1.ms⟩ (I x) /\
   ∀l:List (kt.den×vt.den),l.Perm es->∃res,zL step l x=some res/\(match res with | .inl y=>K .normal (I y) | .inr b=>K (D4 qa (X b).1) (X b).2)) :
  (gL P N out base).gV (.gV pre (.t mn) it cl e kt kg vt vg qa bd) S K:=by
 intro ca cb htr hsome
 have htr0:=htr
 simp only [fQ] at htr
 split at htr<;>try (cases htr;done)
 rename_i xa xb htra htrb
 split at htr
 ·rename_i hn;rw [hn] at hsome;cases hsome
 rename_i hd hmh
 split at htr<;>try (cases htr;done)
 rename_i TF hbd
 obtain ⟨hpre',hm',qC,hcl',he',xQ,ZP,zO,ZQ,AG⟩:=hd
 simp only [Option.some.injEq,C.gV.injEq] at htr
 obtain ⟨rfl,rfl,rfl,rfl,rfl,rfl,rfl,rfl,rfl,rfl,rfl⟩:=htr
 obtain ⟨ia,zN,oA,rr,t,xo,b3,i2,tU,o1,o2,n,ok,y,rfl,hlA,ZR,hdA,hgA,hitN,DG,Ny,nk,rfl,Dd,GX,OS,hg1,Lm,hd2,hg2,hnN,hokN,hnit,XD,zz,he⟩:=GW hmh
 simp only at ZR hdA hgA hitN DG Ny nk GX hnit XD zz he hbd
 subst zz
 obtain ⟨cx,cc,cy,Ln,rfl⟩:=TT htrb
 subst he
 intro Y ι μ a w hout hbase hR
 refine wpIn_seq (wpIn_region ?_)
 have hszA:zN.size=rr.length+1:=by rw [<-Array.length_toList,hlA];simp
 have ZS:List.range zN.size=List.range' 0 rr.length++[rr.length]:=by
  rw [hszA,List.range_succ,List.range_eq_range']
 rw [ZS]
 refine tH (Y:=Y) (out:=out) (base:=base) (k:=0) (K:=fun S1=>∃id es x π,get mn S1.env = .mp id/\jF S1.H.bl xQ ZP zO ZQ id=some es/\jw base π ⟨eH (qC::[n,ok]) S1.env,S1.H,S1.ms⟩ (I x) /\
   ∀l:List (xQ.den×zO.den),l.Perm es->∃res,zL step l x=some res/\(match res with | .inl y=>K .normal (I y) | .inr b=>K (D4 AG (X b).1) (X b).2)) ?_ nk (fun j hj=>?_) hR hpre
 rotate_left
 ·rw [<-Array.getElem?_toList,hlA,Nat.zero_add,List.getElem?_append_left (by assumption)]
 clear hR hpre
 intro ι μ S1 a w hR hK1
 obtain ⟨id,es,x,π,hmid,qD,cH,hres⟩:=hK1
 -- the iterator is made
 have hv:=hR.env mn
 rw [hmid] at hv
 generalize hav:a.tmps.getD mn undef=mv at hv
 cases hv with
 |mp _ L hL =>
 have hb:=eF qD
 obtain ⟨L',ms,clock,dR,q1,q2,q3,q4,q5,q6,hp0,hd0⟩:=hR.inv.live _ _ hb
 rw [hL] at q1;cases q1
 obtain ⟨kT,eT,huT,hkT,_⟩:=kA DG
 have dJ:a.eval xo = .map (some L.b):=by
  have:xo = .tmp mn:=by
   cases xo<;>simp only [dI] at Ny
   ·cases Ny;rfl
   ·split at Ny<;>cases Ny
   ·cases Ny
   ·cases Ny
  rw [this];exact hav
 have hoA:zN[rr.length]?=some oA:=by rw [<-Array.getElem?_toList,hlA];simp
 refine uD (x := .pointer (some ⟨w.heap.size, 0, none⟩)) (w' := w.alloc (.mapIter (some L.b) clock #[] clock)) (fun _ => trivial) rfl hoA (gP hgA _) (by rw [ZR]; intro c; simp) (.inl (by
  unfold execOp;rw [ZR];simp only [dJ,Sem.run_bind,run_range_map w t kT eT L.b ms clock huT q3];rfl)) ?_
 simp only [wpOpsIn]
 rw [hdA]
 have qX:fk P N Y ι μ ⟨eH (qC::[n,ok]) S1.env,S1.H,S1.ms⟩ (a.put (some qC) (.pointer (some ⟨w.heap.size,0,none⟩))) (w.alloc (.mapIter (some L.b) clock #[] clock)):=by
  have h1:fk P N Y ι μ ⟨eH (qC::[n,ok]) S1.env,S1.H,S1.ms⟩ a w:=⟨hR.env.forget _,hR.sz,hR.inv,hR.ms⟩
  have h2:=h1.over (d:=qC) (by simp [eH,get]) (.pointer (some ⟨w.heap.size,0,none⟩))
  exact ⟨h2.env,h2.sz,h2.inv.junk _,h2.ms⟩
 have nM:=cH.rep hbase qX
 have hlt:L.b<w.heap.size:=(Array.getElem?_eq_some_iff.1 q3).1
 have TV:MI P N Y I mn qC xQ ZP zO ZQ es dR (ms.toList.map (·.key)) L.b w.heap.size clock (ms.toList.map (·.born)) (List.range dR.length) x (a.put (some qC) (.pointer (some ⟨w.heap.size,0,none⟩))) (w.alloc (.mapIter (some L.b) clock #[] clock)) ι (μ.j4 π) #[] clock ms clock:=by
  refine ⟨nM,B7 (by rw [hR.sz];exact hitN),.inl hR.inv.below.size,heap_alloc_new _ _,Nat.le_refl _,Nat.le_refl _,(heap_alloc_old _ _ hlt).trans q3,rfl,rfl,fun i e z he hz=>?_,fun b hb=>?_,q6,?_,List.nodup_range,fun i=>?_,fun Dc h2=>?_⟩
  ·rw [List.getElem?_map] at hz
   cases hm:ms.toList[i]? with
   |none=>rw [hm] at hz;cases hz
   |some m =>
    rw [hm] at hz;cases hz
    obtain ⟨e',he',hk,_⟩:=q4.at hm
    rw [he] at he';cases he'
    exact hk
  ·obtain ⟨m, hm, rfl⟩ := List.mem_map.1 hb
   exact q5 m hm
  ·rw [List.length_map,fB.length q4]
  ·have hlen := fB.length q4
   simp only [List.mem_range,List.not_mem_nil,not_false_eq_true,and_true]
   constructor
   ·intro hi
    exact ⟨_,List.getElem?_eq_getElem (show i<(ms.toList.map (·.born)).length by simp at hlen ⊢;omega)⟩
   ·rintro ⟨b, hb⟩
    have:=(List.getElem?_eq_some_iff.1 hb).1
    simp at this hlen;omega
  ·exact Jk cH hmid qD hL rfl Dc h2
 have hat0:∀J:List Nat,J.Perm (List.range dR.length)->∃res,zL step (J.map fun i=>dR.getD i (xQ.zero,zO.zero)) x=some res/\(match res with | .inl y=>K .normal (I y) | .inr b=>K (D4 AG (X b).1) (X b).2):=fun J hJ =>
  hres _ (((hJ.map _).trans (by rw [OV])).trans hp0)
 have hdE:KD xQ es:=hd0.perm hp0
 clear hres qX nM qD hmid cH q3 q5 q6 dJ hoA hav hb hR hL hlt
 generalize (a.put (some qC) (.pointer (some ⟨w.heap.size,0,none⟩)))=a1 at TV ⊢
 generalize hw1:w.alloc (.mapIter (some L.b) clock #[] clock)=w1 at TV ⊢
 generalize w.heap.size=r at TV
 generalize XC:ms.toList.map (·.born)=bs at TV
 generalize hkz:ms.toList.map (·.key)=kz at TV
 generalize L.b=bm at TV
 have hlen:dR.length=bs.length:=TV.len
 clear hw1 XC hkz
 show Code.wpIn _ _ _ (.block AG _) _ _ _
 refine wpIn_block (wpIn_mono ?_ fun e a w hp=>xP hp)
 refine wpIn_loop_ghost (fun (g:List Nat×α) a w=>(∃Y1,Ext P Y Y1/\∃ι μ seen c0 ms clock',MI P N Y1 I mn qC xQ ZP zO ZQ es dR kz bm r clock bs g.1 g.2 a w ι μ seen c0 ms clock') /\
  ∀J:List Nat,J.Perm g.1->∃res,zL step (J.map fun i=>dR.getD i (xQ.zero,zO.zero)) g.2=some res/\(match res with | .inl y=>K .normal (I y) | .inr b=>K (D4 AG (X b).1) (X b).2)) (fun g=>g.1.length) (x:=(List.range dR.length,x)) ⟨⟨Y,.refl Y,_,_,_,_,_,_,TV⟩,hat0⟩ ?_
 clear TV hat0
 rintro ⟨todo,x⟩ a w ⟨⟨Y0,SM,ι,μ,seen,c0,ms,clock',M⟩,I4⟩
 simp only at M I4
 refine wpIn_seq (wpIn_region ?_)
 have hsz2:tU.size=2:=by rw [<-Array.length_toList,Dd];rfl
 rw [show List.range tU.size=[0,1] by rw [hsz2];rfl]
 have hO0:tU[0]?=some o1:=by rw [<-Array.getElem?_toList,Dd];rfl
 have hO1:tU[1]?=some o2:=by rw [<-Array.getElem?_toList,Dd];rfl
 have ZT:=M.rep.sz
 have XE:a.eval (.tmp qC) = .pointer (some ⟨r,0,none⟩):=M.it
 have hold:∀m∈ms.toList,m.born<clock:=fun m hm=>M.old _ (by rw [<-M.XC];exact List.mem_map.2 ⟨m,hm,rfl⟩)
 have eN:∀v,get n (I x).env = .any/\get ok (I x).env = .any/\(a.put (some n) v).eval (.tmp n)=v:=fun v=>⟨hI x n (by simp),hI x ok (by simp),B7 (by rw [ZT];exact hnN)⟩
 rcases run_next_at (P:=P) w o1.type r bm clock c0 seen ms clock' M.hr M.hm hold M.sc with ⟨h0,hrun⟩|⟨en,hel,w1,hw1,hrun⟩
 ·refine uD (x := .tuple #[.bool false]) (w' := w) (fun _ => trivial) rfl hO0 (gP hg1 _) (by rw [GX]; intro c; simp) (.inl (by
   unfold execOp;rw [GX];simp only [XE,Sem.run_bind,hrun];rfl)) ?_
  rw [OS]
  refine uD (x := .bool false) (w' := w) (fun _ => trivial) rfl hO1 (gP hg2 _) (by rw [Lm]; intro c; simp) (.inl (by
   unfold execOp;rw [Lm];simp only [(eN _).2.2];simp [Instr.extract])) ?_
  rw [hd2]
  simp only [wpOpsIn]
  show Code.wpIn _ _ _ (.seq _ _) _ _ _
  refine wpIn_seq (wpIn_cond_false (B7 (by simpa [Act.put,ZT] using hokN)) (wpIn_exit ?_))
  have aec:todo=[]:=by
   cases htd:todo with
   |nil=>rfl
   |cons i _ =>
    exfalso
    obtain ⟨b,iO,fh⟩:=(M.left i).1 (by rw [htd];exact List.mem_cons_self ..)
    rw [<-M.XC,List.getElem?_map] at iO
    cases ZU:ms.toList[i]? with
    |none=>rw [ZU] at iO;cases iO
    |some m =>
     rw [ZU] at iO;cases iO
     have:m∈leftOf ms seen:=by
      simp only [leftOf,Array.mem_filter]
      exact ⟨by simpa using List.mem_of_getElem? ZU,by simpa using fh⟩
     have hp:=Array.size_pos_of_mem this
     omega
  subst aec
  obtain ⟨res,hr,hK⟩:=I4 [] (.refl _)
  simp only [List.map_nil,zL,Option.some.injEq] at hr
  subst hr
  refine ⟨Y0,SM,ι,μ,I x,.exit AG,?_,rfl,?_⟩
  ·have h1 := (M.rep.over (eN .nilFunc).1 (.tuple #[.bool false])).over (eN .nilFunc).2.1 (.bool false)
   exact h1
  ·simp only [Nat.beq_refl];exact hK
 ·-- an entry
  have ZV:w1.heap=w.heap:=by rcases hw1 with rfl|rfl<;>rfl
  have qX:fk P N Y0 ι μ (I x) a w1:=by
   rcases hw1 with rfl|rfl
   ·exact M.rep
   ·exact ⟨M.rep.env,M.rep.sz,M.rep.inv.drew,M.rep.ms⟩
  have Dz:w1.heap[r]?=some (.mapIter (some bm) clock seen c0):=by rw [ZV];exact M.hr
  have gp:w1.heap[bm]?=some (.map ms clock'):=by rw [ZV];exact M.hm
  have hne:bm≠r:=fun e=>by subst e;rw [Dz] at gp;cases gp
  have hrlt:r<w1.heap.size:=(Array.getElem?_eq_some_iff.1 Dz).1
  change (Instr.next _ _ _).run P w = .ok _ (w1.putObj r (.mapIter (some bm) clock (seen.push en.born) clock')) at hrun
  generalize hw2:w1.putObj r (.mapIter (some bm) clock (seen.push en.born) clock')=w2 at hrun
  have DA:w2.heap[r]?=some (.mapIter (some bm) clock (seen.push en.born) clock'):=by rw [<-hw2];exact World.putObj_heap_same hrlt
  have hm2:w2.heap[bm]?=some (.map ms clock'):=by rw [<-hw2,World.putObj_heap_other hne];exact gp
  have uM:Inv P Y0 ι μ (I x).H w2:=by rw [<-hw2];exact qX.inv.side Dz M.own _
  have aee:Y0.w0.heap.size<=w2.heap.size:=uM.below.size
  clear hw2 gp Dz qX hw1 ZV hrlt
  refine uD (x := .tuple #[.bool true, en.key, en.val]) (w' := w2) (fun _ => trivial) rfl hO0 (gP hg1 _) (by rw [GX]; intro c; simp) (.inl (by
   unfold execOp;rw [GX];simp only [XE,Sem.run_bind,hrun];rfl)) ?_
  rw [OS]
  refine uD (x := .bool true) (w' := w2) (fun _ => trivial) rfl hO1 (gP hg2 _) (by rw [Lm]; intro c; simp) (.inl (by
   unfold execOp;rw [Lm];simp only [(eN _).2.2];simp [Instr.extract])) ?_
  rw [hd2]
  simp only [wpOpsIn]
  show Code.wpIn _ _ _ (.seq _ _) _ _ _
  refine wpIn_seq (wpIn_cond_true (B7 (by simpa [Act.put,ZT] using hokN)) (wpIn_skip ?_))
  have hRa:fk P N Y0 ι μ (I x) ((a.put (some n) (.tuple #[.bool true,en.key,en.val])).put (some ok) (.bool true)) w2:=by
   have h1:=(M.rep.over (eN .nilFunc).1 (.tuple #[.bool true,en.key,en.val])).over (eN .nilFunc).2.1 (.bool true)
   exact ⟨h1.env,h1.sz,uM,h1.ms⟩
  have ZW:((a.put (some n) (.tuple #[.bool true,en.key,en.val])).put (some ok) (.bool true)).tmps.getD qC undef = .pointer (some ⟨r,0,none⟩):=by
   rw [OR XD,OR hnit];exact M.it
  show Code.wpIn _ _ _ (.block b3 y) _ _ _
  generalize ((a.put (some n) (.tuple #[.bool true,en.key,en.val])).put (some ok) (.bool true))=a2 at hRa ZW
  -- which one
  have ZX:en∈ms.toList/\en.born∉seen.toList:=by
   have:en∈leftOf ms seen:=by simpa using hel
   simp only [leftOf,Array.mem_filter] at this
   exact ⟨by simpa using this.1,by simpa using this.2⟩
  obtain ⟨i,hi⟩:=List.getElem?_of_mem ZX.1
  have hbi:bs[i]?=some en.born:=by rw [<-M.XC,List.getElem?_map,hi];rfl
  have GY:i∈todo:=(M.left i).2 ⟨_,hbi,ZX.2⟩
  have uN:∀J:List Nat,J.Perm (todo.erase i)->∃res,zL step (dR.getD i (xQ.zero,zO.zero)::J.map fun i=>dR.getD i (xQ.zero,zO.zero)) x=some res/\(match res with | .inl y=>K .normal (I y) | .inr b=>K (D4 AG (X b).1) (X b).2):=fun J hJ =>
   I4 (i::J) ((hJ.cons i).trans (List.perm_cons_erase GY).symm)
  have hs1:∃q,step (dR.getD i (xQ.zero,zO.zero)) x=some q:=by
   obtain ⟨res,hr,_⟩:=uN _ (.refl _)
   rcases D3 hr with ⟨y,hy⟩|⟨b,hb,_⟩
   ·exact ⟨_,hy⟩
   ·exact ⟨_,hb⟩
  obtain ⟨q,hq⟩:=hs1
  obtain ⟨id,es',hmid,qD,hwp⟩:=hstep _ _ _ hq
  obtain ⟨⟨L,hL,Zo⟩,De⟩:=M.here id hmid
  have:=De es' qD
  subst this
  obtain ⟨L',ms2,ck2,Gc,z1,z2,z3,z4,z5,z6,z7,z8⟩:=uM.live id _ (eF qD)
  rw [hL] at z1;cases z1
  rw [Zo,hm2] at z3;cases z3
  obtain ⟨e0,he0,hk,hv⟩:=z4.at hi
  have hat:dR.getD i (xQ.zero,zO.zero)=e0:=by
   have hil:i<dR.length:=by
    have:=(List.getElem?_eq_some_iff.1 hbi).1
    rw [M.len];exact this
   have h1:dR[i]?=some dR[i]:=List.getElem?_eq_getElem hil
   have h2:=M.hke i _ en.key h1 (by rw [<-M.hkz,List.getElem?_map,hi];rfl)
   have h3:=hdE.inj (hp0.mem_iff.1 (List.getElem_mem hil)) (z7.mem_iff.1 (List.mem_of_getElem? he0)) (TU hkT h2 hk)
   rw [List.getD_eq_getElem?_getD,h1]
   exact h3
  rw [hat] at hq hwp uN
  have hx0:=Gb x
  let L0:Loc:=⟨r,0,0,0⟩
  have OW:Inv P Y0 ι (μ.set aD L0) ⟨aD+1,(I x).H.bl⟩ w2:=by rw [<-hx0];exact uM.name L0
  have hnone:μ aD=none:=by rw [<-hx0];exact uM.nx _ (Nat.le_refl _)
  have hle:=Mu.fZ (L:=L0) hnone
  have hRs:fk P N (Y0.side w2 ι (μ.set aD L0) r) ι (μ.set aD L0) ⟨(qC,.ptr aD 0)::(I x).env,⟨aD+1,(I x).H.bl⟩,(I x).ms⟩ a2 w2:=by
   refine ⟨fun t=>?_,hRa.sz,OW.into DA,hRa.ms.mono hle⟩
   rw [cq]
   split
   ·rename_i e; subst e
    rw [ZW]
    have:=Rel.ptr (ι:=ι) (μ:=μ.set aD L0) aD 0 L0 (by simp [Mu.set])
    exact this
   ·exact (hRa.env t).mono (ax.le_refl _) hle
  have cH:=run_entry_at (P:=P) w2 r bm clock seen ms clock' en DA hm2 ZX.1 (by rw [M.XC];exact M.nd)
  have OX:kB (Y0.side w2 ι (μ.set aD L0) r) out:=(SM.Zw hout).up (Mu.le_trans M.rep.inv.m0 hle)
  have iR:(Y0.side w2 ι (μ.set aD L0) r).base (aD+1):=fun id hid=>OW.nx id hid
  have hF:(Y0.side w2 ι (μ.set aD L0) r).F=Y.F:=SM.F
  rw [<-hF]
  refine wpIn_mono (OT (Y:=Y0.side w2 ι (μ.set aD L0) r) (ig (aD+1)) Ln hbd OX iR hRs ZW cH (hk.rel) (hv.rel) hwp) fun e3 a3 w3 hp=>?_
  obtain ⟨Y1,OD,ι3,μ3,S3,ex,Nw,Xz,TG⟩:=hp
  have qf:Inv P (Y0.side w2 ι (μ.set aD L0) r) ι3 μ3 S3.H w3:=OD.inv Nw.inv
  have TW:(μ.set aD L0).le μ3:=qf.m0
  have aeg:=(Array.getElem?_eq_some_iff.1 DA).1
  obtain ⟨Y2,hY2,OY,-,-,-,BQ,-,OZ⟩:=OD.lift (Yb:=Y0) (r:=r) (fun h=>OW.ad7 h) (fun b hb=>by
   rcases hb with hb|hb
   ·exact .inl (Nat.le_trans aee hb)
   ·exact hb.1) rfl (Mu.le_trans M.rep.inv.m0 hle) rfl ⟨aeg,fun h=>by
    rcases h with h|h
    ·have : w2.heap.size ≤ r := h
     omega
    ·exact h.2 rfl⟩ M.own
  have hYt:=SM.trans hY2
  have Jl:Inv P Y2 ι3 μ3 S3.H w3:=OY Nw.inv
  have hms3:lV Y2.hid μ3 S3.ms a3.defers:=by rw [BQ];exact Nw.ms
  cases q with
  |inr b =>
   obtain ⟨hne3,hex,π3,Jm⟩:=TG
   obtain ⟨res,hr,hK⟩:=uN _ (.refl _)
   have hres:res = .inr b:=by
    rcases D3 hr with ⟨y,hy⟩|⟨b',hb,h⟩
    ·rw [hq] at hy;cases hy
    ·rw [hq] at hb;cases hb;exact h
   subst hres
   have hRb:=Jm.rep (hYt.uB hbase) (⟨Nw.env,Nw.sz,Jl,hms3⟩:fk P N Y2 ι3 μ3 S3 a3 w3)
   subst hex
   simp only at hK
   generalize hxb:(X b).1=xb at hK Xz hne3
   cases xb with
   |normal=>exact absurd rfl hne3
   |exit i' =>
    cases Xz
    refine ⟨Y2,hYt,ι3,_,_,.exit i',hRb,rfl,?_⟩
    simp only [D4] at hK
    split at hK
    ·rename_i hb;simp only [hb];exact hK
    ·rename_i hb;simp only [hb];exact hK
   |ret=>cases Xz;exact ⟨Y2,hYt,ι3,_,_,.ret,hRb,rfl,hK⟩
  |inl y =>
   obtain ⟨rfl,hit3,hmn3,B8,π3,Jm⟩:=TG
   cases Xz
   have hRf:fk P N Y2 ι3 μ3 ⟨eH (qC::[n,ok]) S3.env,S3.H,S3.ms⟩ a3 w3:=⟨Nw.env.forget _,Nw.sz,Jl,hms3⟩
   have hRy:=Jm.rep (hYt.uB hbase) hRf
   have hbm3 : w3.heap[bm]? = some (.map ms clock') ∨ ∃ XF ck3, w3.heap[bm]? = some (.map XF ck3) := .inr (by
    obtain ⟨L3,XF,ck3,es3,y1,y2,y3,_⟩:=Jl.live id _ (eF B8)
    rw [TW _ _ (hle _ _ hL)] at y1;cases y1
    exact ⟨XF,ck3,by rw [<-Zo];exact y3⟩)
   obtain ⟨L3,XF,ck3,es3,y1,y2,y3,y4,y5,y6,y7,_⟩:=Jl.live id _ (eF B8)
   rw [TW _ _ (hle _ _ hL)] at y1;cases y1
   rw [Zo] at y3
   have ael:bm<w2.heap.size:=(Array.getElem?_eq_some_iff.1 hm2).1
   have hgrow:=qf.below.maps bm ael ms clock' hm2
   obtain ⟨ms4,ck4,g1,g2,g3⟩:=hgrow
   rw [y3] at g1;cases g1
   have hbk:(XF.toList.map fun m=>(m.born,m.key))=ms.toList.map fun m=>(m.born,m.key):=by
    refine (g2.eq_of_length ?_).symm
    have h1:=uM.live id _ (eF qD)
    have h2:ms.toList.length=bs.length:=by rw [<-M.XC,List.length_map]
    rw [List.length_map,List.length_map,fB.length y4,y7.length_eq,<-hp0.length_eq,hlen,h2]
   have w9:XF.toList.map (·.born)=bs:=by
    have:=congrArg (List.map Prod.fst) hbk
    rw [<-M.XC];simpa [List.map_map,Function.comp_def] using this
   have hkeys:XF.toList.map (·.key)=kz:=by
    have:=congrArg (List.map Prod.snd) hbk
    rw [<-M.hkz];simpa [List.map_map,Function.comp_def] using this
   refine ⟨⟨todo.erase i,y⟩,⟨⟨Y2,hYt,ι3,_,seen.push en.born,clock',XF,ck3,hRy,?_,OZ,?_,M.ck,Nat.le_trans M.ck g3,y3,w9,hkeys,fun i e z he hz=>(M.hke i e z he hz).mono (fun b o x hx=>qf.i0 b o x hx),M.old,M.nd,M.len,M.td.erase i,fun j=>?_,?_⟩,fun J hJ=>?_⟩,?_⟩
   ·have := Nw.env qC
    rw [hit3] at this
    generalize a3.tmps.getD qC undef=tv at this ⊢
    cases this with
    |ptr _ _ L4 h4 =>
     rw [TW aD L0 (by simp [Mu.set])] at h4
     cases h4
     rfl
   ·have := qf.below.block r (Array.getElem?_eq_some_iff.1 DA).1 (fun h => h.2 rfl)
    rw [this];exact DA
   ·rw [List.Nodup.mem_erase_iff M.td, M.left j]
    simp only [Array.toList_push,List.mem_append,List.mem_singleton]
    constructor
    ·rintro ⟨hj, b, hb, hs⟩
     refine ⟨b,hb,fun h=>?_⟩
     rcases h with h|h
     ·exact hs h
     ·subst h
      exact hj ((List.getElem?_inj (List.getElem?_eq_some_iff.1 hb).1 M.nd).1 (hb.trans hbi.symm))
    ·rintro ⟨b, hb, hs⟩
     refine ⟨fun e=>?_,b,hb,fun h=>hs (.inl h)⟩
     subst e
     rw [hbi] at hb;cases hb
     exact hs (.inr rfl)
   ·exact fun Dc h2=>Jk Jm hmn3 B8 (TW _ _ (hle _ _ hL)) Zo Dc h2
   ·obtain ⟨res, h, hK⟩ := uN J hJ
    simp only [zL,hq] at h
    exact ⟨res,h,hK⟩
   ·rw [List.length_erase_of_mem GY]
    have:=List.length_pos_of_mem GY
    show todo.length - 1<todo.length
    omega
end
end Go.AM
end
section
namespace Go.AM
structure Kz (R:Type) where
 br:Bool->R->R->R
 am:R->R->R
 nd:Bool->R->R
 no:R
 bd:{A:Type}->Option A->(A->R)->R
 sm:{A B:Type}->A ⊕ B->(A->R)->(B->R)->R
 an:{E:Type}->List E->(List E->R)->R
noncomputable def need {X:Type} (c:Bool) (x:Option X):Option X:=@ite _ (c=true) (Classical.propDecidable _) x none
noncomputable def k9 {X:Type} (c:Bool) (x y:Option X):Option X:=@ite _ (c=true) (Classical.propDecidable _) x y
noncomputable def GZ {X:Type} (x y:Option X):Option X:=@ite _ (x=y) (Classical.propDecidable _) x none
noncomputable def cE {A X:Type} (o:Option A) (f:A->Option X):Option X:=@dite _ (∃a,o=some a) (Classical.propDecidable _) (fun h=>f h.choose) (fun _=>none)
@[reducible] noncomputable def iL (X:Type):Kz (Option X) where
 br c a b:=k9 c a b
 am a b:=GZ a b
 nd c a:=need c a
 no:=none
 bd o f:=cE o f
 sm s f g:=match s with
  | .inl a=>f a
  | .inr b=>g b
 an es f:=iQ f es
theorem Lr {X:Type} {x y:Option X} {r:X} (h:GZ x y=some r):x=some r/\y=some r:=by
 unfold GZ at h
 split at h
 ·rename_i e;exact ⟨h,e▸h⟩
 ·cases h
@[simp] theorem Ls {X:Type} {x:Option X}:GZ x x=x:=by unfold GZ;rw [if_pos rfl]
theorem iS {X:Type} {c:Bool} {x:Option X} (h:c=true):need c x=x:=by unfold need;rw [if_pos h]
@[simp] theorem af {X:Type} {x:Option X}:need true x=x:=iS rfl
@[simp] theorem ZY {X:Type} {x:Option X}:need false x=none:=by unfold need;rw [if_neg (by simp)]
@[simp] theorem bt {X:Type} {x y:Option X}:k9 true x y=x:=by unfold k9;rw [if_pos rfl]
@[simp] theorem aM {X:Type} {x y:Option X}:k9 false x y=y:=by unfold k9;rw [if_neg (by simp)]
@[simp] theorem aF {A X:Type} {a:A} {f:A->Option X}:cE (some a) f=f a:=by
 have h:∃b,some a=some b:=⟨a,rfl⟩
 unfold cE;rw [dif_pos h]
 have:=h.choose_spec
 rw [<-Option.some.inj this]
@[simp] theorem pI {A X:Type} {f:A->Option X}:cE none f=none:=by
 unfold cE;rw [dif_neg];rintro ⟨a,h⟩;cases h
theorem cW {X:Type} {c:Bool} {x:Option X} {r:X} (h:need c x=some r):c=true/\x=some r:=by
 cases c<;>simp at h ⊢;exact h
theorem qE {A X:Type} {o:Option A} {f:A->Option X} {r:X} (h:cE o f=some r):∃a,o=some a/\f a=some r:=by
 cases o<;>simp at h ⊢;exact h
theorem pJ {X A:Type} {o:Option A} {f:A->Option X} {r:X} (h:(iL X).bd o f=some r):∃a,o=some a/\f a=some r:=qE h
theorem iU {X:Type} {c:Bool} {x y:Option X} {r:X} (h:k9 c x y=some r):(c=true/\x=some r)\/(c=false/\y=some r):=by
 cases c<;>simp at h ⊢<;>exact h
section
variable {R:Type}
def fV (v:V) (k:V->R):R:=match v with
 | .any=>k .any
 | .tf b=>match b with
  |true=>k (.tf true)
  |false=>k (.tf false)
 | .bool b=>k (.bool b)
 | .int ik n=>k (.int ik n)
 | .str s=>k (.str s)
 | .fq=>k .fq
 | .cU=>k .cU
 | .gj=>k .gj
 | .fJ t xs=>k (.fJ t xs)
 | .bZ=>k .bZ
 | .sl id t lo n=>k (.sl id t lo n)
 | .ptr id off=>k (.ptr id off)
 | .gm cs=>k (.gm cs)
 | .ep id t i p=>k (.ep id t i p)
 | .ip t x=>k (.ip t x)
 | .fn f a b=>k (.fn f a b)
 | .yl id=>k (.yl id)
 | .agg cs=>k (.agg cs)
 | .cQ vs=>k (.cQ vs)
 | .cG t v=>k (.cG t v)
 | .cb c=>k (.cb c)
 | .mp id=>k (.mp id)
 | .cR=>k .cR
 | .pa id t n=>k (.pa id t n)
 | .l6 t xs=>k (.l6 t xs)
 | .sp id o l=>k (.sp id o l)
theorem nN (v:V) (k:V->R):fV v k=k v:=by
 cases v<;>try rfl
 rename_i b;cases b<;>rfl
def fN (n:Nat) (k:Nat->R):R:=match n with
 |0=>k 0
 |n+1=>k (n+1)
theorem gr (n:Nat) (k:Nat->R):fN n k=k n:=by cases n<;>rfl
def vm (d:Option Nat) (v:V) (env:Env) (k:Env->R):R:=match d with
 |some t=>k ((t,v)::env)
 |none=>k env
theorem lC (d:Option Nat) (v:V) (env:Env) (k:Env->R):vm d v env k=k (put d v env):=by cases d<;>rfl
def qg (id : Nat) : av → (av → R) → R
 |[],k=>k []
 |(s,b)::r,k=>match Nat.beq s id with
  |true=>qg id r k
  |false=>qg id r fun r'=>k ((s,b)::r')
theorem kH (id : Nat) : ∀ (bl : av) (k : av → R), qg id bl k = k (bF id bl)
 |[],k=>rfl
 |(s,b)::r,k=>by
  simp only [qg,bF]
  split<;>rename_i h<;>simp only [h]<;>exact kH id r _
def iq : eX → av → (av → R) → R
 |[],bl,k=>k bl
 |(id,none)::r,bl,k=>qg id bl fun bl=>iq r bl k
 |(id,some b)::r,bl,k=>qg id bl fun bl=>iq r ((id,b)::bl) k
theorem gu : ∀ (u : eX) (bl : av) (k : av → R), iq u bl k = k (bJ u bl)
 |[],_,_=>rfl
 |(id,none)::r,bl,k=>by simp only [iq,kH,bJ];exact gu r _ k
 |(id,some b)::r,bl,k=>by simp only [iq,kH,bJ];exact gu r _ k
def rO (kz : Kz R) : List Bool → R → R
 |[],k=>k
 |b::r,k=>kz.nd b (rO kz r k)
structure Cx where
 pc:{R:Type}->Kz R->Nat->List V->(V->R)->R
 ca:{R:Type}->Kz R->Nat->List V->Nat->av->(V->Nat->av->R)->R
 rd:{R:Type}->Kz R->Nat->List V->Nat->av->(V->Nat->av->R)->R
 op:Nat:=0
structure Cx.Ok (P:Program) (cx:Cx):Prop where
 XG:∀{X:Type} {f:Nat} {vs:List V} {K:V->Option X} {r:X},cx.pc (iL X) f vs K=some r->∃v,j9 P f vs v/\K v=some r
 TX:∀{X:Type} {f:Nat} {vs:List V} {nx:Nat} {bl:av} {K:V->Nat->av->Option X} {r:X},cx.ca (iL X) f vs nx bl K=some r ->
  ∀{Q:V->aL->Prop},(∀v nx bl,K v nx bl=some r->Q v ⟨nx,bl⟩)->iK P f vs ⟨nx,bl⟩ Q
 ZZ:∀{X:Type} {id:Nat} {vs:List V} {nx:Nat} {bl:av} {K:V->Nat->av->Option X} {r:X},cx.rd (iL X) id vs nx bl K=some r ->
  ∀{Q:V->aL->Prop},(∀v nx bl,K v nx bl=some r->Q v ⟨nx,bl⟩)->around P id vs ⟨nx,bl⟩ Q
def B9 (kz:Kz R) (g:Option (Nat×Bool)) (env:Env) (skip run:Env->R):R:=match g with
 |none=>run env
 |some (s,b)=>match get s env with
  | .tf c=>match c,b with
   |true,true=>run env
   |false,false=>run env
   |true,false=>skip env
   |false,true=>skip env
  | .bool c => kz.br c
   (match b with
    |true=>run ((s,.tf true)::env)
    |false=>skip ((s,.tf true)::env))
   (match b with
    |false=>run ((s,.tf false)::env)
    |true=>skip ((s,.tf false)::env))
  | .cQ _=>skip env
  |_=>kz.no
def XH (kz:Kz R) (op:Nat) (ar:Ar) (bl:av) (k:av->R):R:=match op with
 |0=>k bl
 |n+1=>match (match n with
   |0=>NN bl
   |_+1=>Bv bl) with
  |[]=>k bl
  |ids=>match Nt ar ids bl with
   |some u=>iq u bl k
   |none=>kz.no
def dmOp : Nat → Nat
 |0=>0
 |_+1=>1
def kI (kz : Kz R) (cx : Cx) (ar : Ar) : List fe → Env → Nat → av → (Env → Nat → av → R) → R
 |[],env,nx,bl,K=>K env nx bl
 | .op d g i::r,env,nx,bl,K=>B9 kz g env (fun env=>vm d (.cQ []) env fun env=>kI kz cx ar r env nx bl K) fun env =>
   match cx.op with
   |0=>(match XA ar i env bl nx with
    |some (ob,v,u)=>rO kz ob (fV v fun v=>vm d v env fun env=>match i.lays with
     |true=>fN (nx+1) fun nx=>iq u bl fun bl=>kI kz cx ar r env nx bl K
     |false=>iq u bl fun bl=>kI kz cx ar r env nx bl K)
    |none=>kz.no)
   |_+1=>match zD ar i env bl nx with
    |some (ob,v,u)=>rO kz ob (fV v fun v=>vm d v env fun env=>match i.lays with
     |true=>fN (nx+1) fun nx=>iq u bl fun bl=>kI kz cx ar r env nx bl K
     |false=>iq u bl fun bl=>kI kz cx ar r env nx bl K)
    |none=>match XA ar i env bl nx with
     |some (ob,v,u)=>rO kz ob (fV v fun v=>vm d v env fun env=>match i.lays with
      |true=>fN (nx+1) fun nx=>iq u bl fun bl=>kI kz cx ar r env nx bl K
      |false=>iq u bl fun bl=>kI kz cx ar r env nx bl K)
     |none=>XH kz 1 ar bl fun bl=>match XA ar i env bl nx with
      |some (ob,v,u)=>rO kz ob (fV v fun v=>vm d v env fun env=>match i.lays with
       |true=>fN (nx+1) fun nx=>iq u bl fun bl=>kI kz cx ar r env nx bl K
       |false=>iq u bl fun bl=>kI kz cx ar r env nx bl K)
      |none=>kz.no
 | .call d g f a tys::r,env,nx,bl,K=>B9 kz g env (fun env=>vm d (.cQ []) env fun env=>kI kz cx ar r env nx bl K) fun env=>XH kz (dmOp cx.op) ar bl fun bl =>
   match f.ev env with
   | .fn f fs cs=>cx.ca kz f (fs++cV tys (a.map (·.ev env))++cs) nx bl fun v nx bl=>fV v fun v=>vm d v env fun env=>kI kz cx ar r env nx bl K
   | .yl id=>cx.rd kz id (cV tys (a.map (·.ev env))) nx bl fun v nx bl=>fV v fun v=>vm d v env fun env=>kI kz cx ar r env nx bl K
   |_=>kz.no
def AH (kz:Kz R) (gs:List Nat) (d:Option Nat) (v:V) (env:Env) (K:Env->R):R:=match d with
 |none=>K env
 |some t=>match BD t gs with
  |false=>K ((t,v)::env)
  |true=>match v with
   | .bool c=>kz.br c (K ((t,.tf true)::env)) (K ((t,.tf false)::env))
   |v=>K ((t,v)::env)
def SN (kz : Kz R) (cx : Cx) (ar : Ar) (gs : List Nat) (b : Nat) : List fe → Nat → Env → av → List DR → (Env → av → List DR → R) → R
 |[],_,env,bl,dx,K=>K env bl dx
 | .op d g i::r,k,env,bl,dx,K=>match IW g env with
  |some true=>match (match cx.op with
    |0=>none
    |_+1=>zD ar i env bl (b+k)) with
   |some (ob,v,u)=>rO kz ob (fV v fun v=>AH kz gs d v env fun env'=>iq u bl fun bl=>SN kz cx ar gs b r (k+1) env' bl (wN k (mW i env) (u.map (·.1)) dx) K)
   |none=>match XA ar i env bl (b+k) with
    |some (ob,v,u)=>rO kz ob (fV v fun v=>AH kz gs d v env fun env'=>iq u bl fun bl=>SN kz cx ar gs b r (k+1) env' bl (wN k (mW i env) (u.map (·.1)) dx) K)
    |none=>kz.no
  |some false=>vm d (.cQ []) env fun env=>SN kz cx ar gs b r (k+1) env bl dx K
  |none=>kz.no
 | .call d g f a tys::r,k,env,bl,dx,K=>match IW g env with
  |some true=>match f.ev env with
   | .fn f fs cs=>match fs++cV tys (a.map (·.ev env))++cs with
    |vs=>match dU (fin ar bl 8) vs with
     |some vs'=>cx.pc kz f vs' fun x=>fV x fun x=>match Ds x||vs.all (dS 8) with
      |true=>AH kz gs d x env fun env'=>SN kz cx ar gs b r (k+1) env' bl (wN k (jG bl vs) [] dx) K
      |false=>match wO (jG bl vs) bl with
       |some u=>AH kz gs d x env fun env'=>iq u bl fun bS=>SN kz cx ar gs b r (k+1) env' bS (wN k (jG bl vs) (u.map (·.1)) dx) K
       |none=>kz.no
     |none=>kz.no
   |_=>kz.no
  |some false=>vm d (.cQ []) env fun env=>SN kz cx ar gs b r (k+1) env bl dx K
  |none=>kz.no
end
abbrev Kc (R:Type):=Ex->Env->Nat->av->List Nat->R
structure bu (P:Program) (N:Nat) (out:Option Nat) (base:Nat):Type 1 where
 c:C
 run:{R:Type}->Kz R->Env->Nat->av->List Nat->Kc R->R
 ok:∀{X:Type} {env:Env} {nx:Nat} {bl:av} {ms:List Nat} {K:Kc (Option X)} {r:X},run (iL X) env nx bl ms K=some r ->
  ∀{Q:Ex->St->Prop},(∀e env nx bl ms,K e env nx bl ms=some r->Q e ⟨env,⟨nx,bl⟩,ms⟩)->(gL P N out base).loop c ⟨env,⟨nx,bl⟩,ms⟩ Q
structure gE (P:Program) (N:Nat) (out:Option Nat) (base:Nat):Type 1 where
 f:O
 ps:List Nat
 a:C
 b:C
 run:{R:Type}->Kz R->Env->Nat->av->List Nat->Kc R->R
 ok:∀{X:Type} {env:Env} {nx:Nat} {bl:av} {ms:List Nat} {K:Kc (Option X)} {r:X},run (iL X) env nx bl ms K=some r ->
  ∀{Q:Ex->St->Prop},(∀e env nx bl ms,K e env nx bl ms=some r->Q e ⟨env,⟨nx,bl⟩,ms⟩)->(gL P N out base).bM f ps a b ⟨env,⟨nx,bl⟩,ms⟩ Q
structure rP (P:Program) (N:Nat) (out:Option Nat) (base:Nat):Type 1 where
 pre:List fe
 m:O
 it:Nat
 cl:List Nat
 e:Option Nat
 kt:Ty
 kg:Bool
 vt:Ty
 vg:Bool
 qa:Nat
 b:C
 run:{R:Type}->Kz R->Env->Nat->av->List Nat->Kc R->R
 ok:∀{X:Type} {env:Env} {nx:Nat} {bl:av} {ms:List Nat} {K:Kc (Option X)} {r:X},run (iL X) env nx bl ms K=some r ->
  ∀{Q:Ex->St->Prop},(∀e env nx bl ms,K e env nx bl ms=some r->Q e ⟨env,⟨nx,bl⟩,ms⟩)->(gL P N out base).gV (.gV pre m it cl e kt kg vt vg qa b) ⟨env,⟨nx,bl⟩,ms⟩ Q
structure He (P:Program) (N:Nat) (out:Option Nat) (base:Nat) (f:O) (ps:List Nat) (a b:C):Type 1 where
 run:{R:Type}->Kz R->Env->Nat->av->List Nat->Kc R->R
 ok:∀{X:Type} {env:Env} {nx:Nat} {bl:av} {ms:List Nat} {K:Kc (Option X)} {r:X},run (iL X) env nx bl ms K=some r ->
  ∀{Q:Ex->St->Prop},(∀e env nx bl ms,K e env nx bl ms=some r->Q e ⟨env,⟨nx,bl⟩,ms⟩)->(gL P N out base).bM f ps a b ⟨env,⟨nx,bl⟩,ms⟩ Q
def He.s {P:Program} {N:Nat} {out:Option Nat} {base:Nat} {f:O} {ps:List Nat} {a b:C} (T:He P N out base f ps a b):gE P N out base:=⟨f,ps,a,b,T.run,T.ok⟩
inductive D (P:Program) (N:Nat) (out:Option Nat) (base:Nat):Type 1 where
 |skip
 |aZ (items:List fe)
 |draw (dc:List (List Nat)) (items:List fe)
 |seq (a b:D P N out base)
 |cond (c:O) (a b:D P N out base)
 |block (id:Nat) (c:D P N out base)
 |loop (l:bu P N out base)
 |exit (id:Nat)
 |ret
 |bM (l:gE P N out base)
 |gV (l:rP P N out base)
section
variable {P:Program} {N:Nat} {out:Option Nat} {base:Nat} {R:Type}
def D.er : D P N out base → C
 | .skip=>.skip
 | .aZ is=>.aZ is
 | .draw ps is=>.draw ps is
 | .seq a b=>.seq a.er b.er
 | .cond c a b=>.cond c a.er b.er
 | .block id c=>.block id c.er
 | .loop l=>.loop l.c
 | .exit id=>.exit id
 | .ret=>.ret
 | .bM l=>.bM l.f l.ps l.a l.b
 | .gV l=>.gV l.pre l.m l.it l.cl l.e l.kt l.kg l.vt l.vg l.qa l.b
def rwK (c:O) (b:Bool) (env:Env):Env:=match c with
 | .t n=>(n,.tf b)::env
 | .c _=>env
 | .m _ _=>env
def kE (kz : Kz R) (cx : Cx) (ar : Ar) : D P N out base → Env → Nat → av → List Nat → Kc R → R
 | .skip,env,nx,bl,ms,K=>K .normal env nx bl ms
 | .aZ is,env,nx,bl,ms,K=>kI kz cx ar is env nx bl fun env nx bl=>K .normal env nx bl ms
 | .draw ps is,env,nx,bl,ms,K=>SN kz cx ar (wR is) nx is 0 env bl [] fun env bl dx=>match NW ps dx with
  |true=>fN (nx+is.length) fun nx=>K .normal env nx bl ms
  |false=>kz.no
 | .seq a b,env,nx,bl,ms,K=>kE kz cx ar a env nx bl ms fun e env nx bl ms=>match e with
  | .normal=>kE kz cx ar b env nx bl ms K
  | .exit id=>K (.exit id) env nx bl ms
  | .ret=>K .ret env nx bl ms
 | .cond c a b,env,nx,bl,ms,K=>match c.ev env with
  | .tf true=>kE kz cx ar a env nx bl ms K
  | .tf false=>kE kz cx ar b env nx bl ms K
  | .bool x=>kz.br x (kE kz cx ar a (rwK c true env) nx bl ms K) (kE kz cx ar b (rwK c false env) nx bl ms K)
  | .cb x=>kz.br x (kz.am (kE kz cx ar a (rwK c true env) nx bl ms K) (kE kz cx ar b (rwK c false env) nx bl ms K)) (kE kz cx ar b (rwK c false env) nx bl ms K)
  |_=>kz.no
 | .block id c,env,nx,bl,ms,K=>kE kz cx ar c env nx bl ms fun e env nx bl ms=>match e with
  | .normal=>K .normal env nx bl ms
  | .exit id'=>match Nat.beq id' id with
   |true=>K .normal env nx bl ms
   |false=>K (.exit id') env nx bl ms
  | .ret=>K .ret env nx bl ms
 | .loop l,env,nx,bl,ms,K=>XH kz cx.op ar bl fun bl=>l.run kz env nx bl ms K
 | .exit id,env,nx,bl,ms,K=>K (.exit id) env nx bl ms
 | .ret,env,nx,bl,ms,K=>K .ret env nx bl ms
 | .bM l,env,nx,bl,ms,K=>XH kz cx.op ar bl fun bl=>l.run kz env nx bl ms K
 | .gV l,env,nx,bl,ms,K=>XH kz cx.op ar bl fun bl=>l.run kz env nx bl ms K
variable {X:Type} {cx:Cx}
theorem ny {ob:List Bool} {x:Option X} {r:X} (h:rO (iL X) ob x=some r):vf ob/\x=some r:=by
 induction ob with
 |nil=>exact ⟨trivial,h⟩
 |cons b l ih =>
  obtain ⟨h1,h2⟩:=cW h
  obtain ⟨h3,h4⟩:=ih h2
  cases l with
  |nil=>exact ⟨h1,h4⟩
  |cons c l=>exact ⟨⟨h1,h3⟩,h4⟩
theorem AJ {g : Option (Nat × Bool)} {env : Env} {nx : Nat} {bl : av} {ms : List Nat} {skip run : Env → Option X} {r : X} (h : B9 (iL X) g env skip run = some r) {d : Option Nat} {K run' : St → Prop}
  (hs:∀env,skip env=some r->K ⟨put d (.cQ []) env,⟨nx,bl⟩,ms⟩) (hr:∀env,run env=some r->run' ⟨env,⟨nx,bl⟩,ms⟩):pn g d ⟨env,⟨nx,bl⟩,ms⟩ K run':=by
 unfold B9 at h
 unfold pn
 split at h
 ·exact hr _ h
 ·rename_i s b
  simp only
  split at h
  ·rename_i c hc
   rw [hc]
   cases c<;>cases b<;>simp only at h ⊢
   ·exact hr _ h
   ·exact hs _ h
   ·exact hs _ h
   ·exact hr _ h
  ·rename_i c hc
   rw [hc]
   rcases iU h with ⟨e,h⟩|⟨e,h⟩
   ·refine ⟨fun _ => ?_, fun e' => by rw [e] at e'; cases e'⟩
    cases b<;>simp only at h ⊢
    ·exact hs _ h
    ·exact hr _ h
   ·refine ⟨fun e' => (by rw [e] at e'; cases e'), fun _ => ?_⟩
    cases b<;>simp only at h ⊢
    ·exact hr _ h
    ·exact hs _ h
  ·rename_i hc
   rw [hc]
   exact hs _ h
  ·cases h
theorem O0 {op:Nat} {bl:av} {k:av->Option X} {r:X} (h:XH (iL X) op dZ bl k=some r):k bl=some r\/∃ids u,Nt (gL P N out base) ids bl=some u/\k (bJ u bl)=some r:=by
 unfold XH at h
 split at h
 ·exact .inl h
 ·split at h
  ·exact .inl h
  ·split at h <;> try (cases h; done)
   rename_i u hu
   rw [gu] at h
   exact .inr ⟨_,u,by unfold gL;rw [OI];exact hu,h⟩
theorem Ca {op:Nat} {env:Env} {nx:Nat} {bl:av} {ms:List Nat} {k:av->Option X} {r:X} (h:XH (iL X) op dZ bl k=some r) {K:St->Prop} (hK:∀bl,k bl=some r->K ⟨env,⟨nx,bl⟩,ms⟩):NO (gL P N out base) ⟨env,⟨nx,bl⟩,ms⟩ K:=by
 rcases O0 (P:=P) (N:=N) (out:=out) (base:=base) h with h|⟨ids,u,hu,h⟩
 ·exact .inl (hK _ h)
 ·exact .inr ⟨ids,u,hu,hK _ h⟩
theorem oE (gF:cx.Ok P):∀{is:List fe} {env:Env} {nx:Nat} {bl:av} {ms:List Nat} {K:Env->Nat->av->Option X} {r:X} {Q:St->Prop},kI (iL X) cx dZ is env nx bl K=some r ->
  (∀env nx bl,K env nx bl=some r->Q ⟨env,⟨nx,bl⟩,ms⟩)->fU (gL P N out base) is ⟨env,⟨nx,bl⟩,ms⟩ Q
 |[],env,nx,bl,ms,K,r,Q,h,hK=>hK _ _ _ h
 | .op d g i::is,env,nx,bl,ms,K,r,Q,h,hK=>by
  simp only [kI] at h
  simp only [fU]
  have body:∀{env:Env} {bl:av} {ob:List Bool} {v:V} {u:eX},XA dZ i env bl nx=some (ob,v,u) ->
    rO (iL X) ob (fV v fun v=>vm d v env fun env=>match i.lays with
     |true=>fN (nx+1) fun nx=>iq u bl fun bl=>kI (iL X) cx dZ is env nx bl K
     |false=>iq u bl fun bl=>kI (iL X) cx dZ is env nx bl K)=some r ->
    b7 (gL P N out base) i env bl nx=some (ob,v,u)/\vf ob/\fU (gL P N out base) is ⟨put d v env,⟨Nu i.lays nx,bJ u bl⟩,ms⟩ Q:=by
   intro env bl ob v u ak h
   obtain ⟨di,h⟩:=ny h
   rw [nN,lC] at h
   rw [OO] at ak
   refine ⟨by unfold gL;rw [OG];exact ak,di,?_⟩
   split at h
   ·rename_i hl
    rw [gr,gu] at h
    simp only [hl,Nu]
    exact oE gF h hK
   ·rename_i hl
    rw [gu] at h
    simp only [hl,Nu]
    exact oE gF h hK
  refine AJ h (fun env h=>?_) (fun env h=>?_)
  ·rw [lC] at h;exact oE gF h hK
  ·split at h
   ·split at h
    ·rename_i ob v u ak
     obtain ⟨h1,h2,h3⟩:=body ak h
     exact B5 h1 h2 h3
    ·cases h
   ·split at h
    ·rename_i ob v u ak
     obtain ⟨di,h⟩:=ny h
     rw [nN,lC] at h
     refine ZL (by unfold gL;rw [OH];exact ak) di ?_
     split at h
     ·rename_i hl
      rw [gr,gu] at h
      simp only [hl,Nu]
      exact oE gF h hK
     ·rename_i hl
      rw [gu] at h
      simp only [hl,Nu]
      exact oE gF h hK
    ·split at h
     ·rename_i ob v u ak
      obtain ⟨h1,h2,h3⟩:=body ak h
      exact B5 h1 h2 h3
     ·rcases O0 (P := P) (N := N) (out := out) (base := base) h with h | ⟨ids, u', hu, h⟩
      ·split at h
       ·rename_i ob v u ak
        obtain ⟨h1,h2,h3⟩:=body ak h
        exact B5 h1 h2 h3
       ·cases h
      ·split at h
       ·rename_i ob v u ak
        obtain ⟨h1,h2,h3⟩:=body ak h
        exact ZM hu h1 h2 h3
       ·cases h
 | .call d g f a tys::is,env,nx,bl,ms,K,r,Q,h,hK=>by
  simp only [kI] at h
  simp only [fU]
  refine AJ h (fun env h=>?_) (fun env h=>?_)
  ·rw [lC] at h;exact oE gF h hK
  ·simp only [Gt]
   refine Ca h fun bl h=>?_
   simp only [vJ]
   split at h
   ·rename_i f' fs cs hf
    rw [hf]
    refine gF.TX h fun v nx bl h=>?_
    rw [nN,lC] at h
    exact oE gF h hK
   ·rename_i id hf
    rw [hf]
    refine gF.ZZ h fun v nx bl h=>?_
    rw [nN,lC] at h
    exact oE gF h hK
   ·cases h
theorem rQ {gs:List Nat} {d:Option Nat} {v:V} {env:Env} {K:Env->Option X} {r:X} (h:AH (iL X) gs d v env K=some r) {K':Env->Prop} (hK:∀env,K env=some r->K' env):Dt gs d v env K':=by
 unfold AH at h
 unfold Dt
 cases d with
 |none=>exact hK _ h
 |some t =>
  simp only at h ⊢
  split at h
  ·rename_i hm;rw [hm];exact hK _ h
  ·rename_i hm
   rw [hm]
   simp only
   split at h
   ·rename_i c
    simp only
    rcases iU h with ⟨e,h⟩|⟨e,h⟩
    ·exact ⟨fun _=>hK _ h,fun e'=>by rw [e] at e';cases e'⟩
    ·exact ⟨fun e'=>(by rw [e] at e';cases e'),fun _=>hK _ h⟩
   ·rename_i hv
    have:=hK _ h
    cases v<;>first|exact this|exact (hv _ rfl).elim
theorem qF (gF:cx.Ok P) {gs:List Nat} {b:Nat}:∀{is:List fe} {k:Nat} {env:Env} {bl:av} {dx:List DR} {K:Env->av->List DR->Option X} {r:X} {Q:Env->av->List DR->Prop},
  SN (iL X) cx dZ gs b is k env bl dx K=some r->(∀env bl dx,K env bl dx=some r->Q env bl dx)->rD (gL P N out base) gs b is k env bl dx Q
 |[],k,env,bl,dx,K,r,Q,h,hK=>hK _ _ _ h
 | .op d g i::is,k,env,bl,dx,K,r,Q,h,hK=>by
  simp only [SN] at h
  simp only [rD]
  split at h
  ·rename_i hg
   rw [hg]
   split at h
   ·rename_i ob v u ak
    obtain ⟨di,h⟩:=ny h
    rw [nN] at h
    have Z0:zD (gL P N out base) i env bl (b+k)=some (ob,v,u):=by
     unfold gL;rw [OH]
     split at ak
     ·cases ak
     ·exact ak
    refine .inr (Ag Z0 di (rQ h fun env h=>?_))
    rw [gu] at h
    exact qF gF h hK
   ·split at h
    ·rename_i ob v u ak
     obtain ⟨di,h⟩:=ny h
     rw [nN] at h
     rw [OO] at ak
     have Z0:b7 (gL P N out base) i env bl (b+k)=some (ob,v,u):=by unfold gL;rw [OG];exact ak
     refine .inl (Ag Z0 di (rQ h fun env h=>?_))
     rw [gu] at h
     exact qF gF h hK
    ·cases h
  ·rename_i hg
   rw [hg]
   rw [lC] at h
   exact qF gF h hK
  ·cases h
 | .call d g f a tys::is,k,env,bl,dx,K,r,Q,h,hK=>by
  simp only [SN] at h
  simp only [rD]
  split at h
  ·rename_i hg
   rw [hg]
   split at h
   ·rename_i f' fs cs hf
    rw [hf]
    split at h
    ·rename_i vs' hm
     obtain ⟨v,hp,h⟩:=gF.XG h
     rw [nN] at h
     have e:dU (fin (gL P N out base) bl 8)=dU (fin dZ bl 8):=funext fun vs=>nt (fun v=>by unfold gL;exact xG) vs
     simp only [e,hm]
     split at h
     ·rename_i hsc
      exact ⟨v,[],hp,by rw [hsc];rfl,rQ h fun env h=>qF gF h hK⟩
     ·rename_i hsc
      split at h
      ·rename_i u hu
       exact ⟨v,u,hp,by rw [hsc];exact hu,rQ h fun env h=>qF gF (by rw [gu] at h;exact h) hK⟩
      ·cases h
    ·cases h
   ·cases h
  ·rename_i hg
   rw [hg]
   rw [lC] at h
   exact qF gF h hK
  ·cases h
theorem lD (gF:cx.Ok P):∀{d:D P N out base} {env:Env} {nx:Nat} {bl:av} {ms:List Nat} {K:Kc (Option X)} {r:X} {Q:Ex->St->Prop},kE (iL X) cx dZ d env nx bl ms K=some r ->
  (∀e env nx bl ms,K e env nx bl ms=some r->Q e ⟨env,⟨nx,bl⟩,ms⟩)->sX (gL P N out base) d.er ⟨env,⟨nx,bl⟩,ms⟩ Q:=by
 intro d
 induction d with
 |skip=>intro env nx bl ms K r Q h hK;exact hK _ _ _ _ _ h
 |aZ is=>intro env nx bl ms K r Q h hK;exact oE gF h fun env nx bl h=>hK _ _ _ _ _ h
 |draw ps is =>
  intro env nx bl ms K r Q h hK
  refine qF gF h fun env bl dx h=>?_
  split at h
  ·rename_i hd
   rw [gr] at h
   exact ⟨hd,hK _ _ _ _ _ h⟩
  ·cases h
 |seq a b Hf Gd =>
  intro env nx bl ms K r Q h hK
  refine Hf h fun e env nx bl ms h=>?_
  cases e with
  |normal=>exact Gd h hK
  |exit id=>exact hK _ _ _ _ _ h
  |ret=>exact hK _ _ _ _ _ h
 |cond c a b Hf Gd =>
  intro env nx bl ms K r Q h hK
  simp only [kE] at h
  simp only [D.er,sX]
  have hrw:∀x env,Te c x ⟨env,⟨nx,bl⟩,ms⟩=⟨rwK c x env,⟨nx,bl⟩,ms⟩:=fun x env=>by cases c<;>rfl
  split at h
  ·rename_i hc;rw [hc];exact Hf h hK
  ·rename_i hc;rw [hc];exact Gd h hK
  ·rename_i x hc
   rw [hc]
   rcases iU h with ⟨e,h⟩|⟨e,h⟩
   ·refine ⟨fun _ => ?_, fun e' => by rw [e] at e'; cases e'⟩
    rw [hrw];exact Hf h hK
   ·refine ⟨fun e' => (by rw [e] at e'; cases e'), fun _ => ?_⟩
    rw [hrw];exact Gd h hK
  ·rename_i x hc
   rw [hc]
   rcases iU h with ⟨e,h⟩|⟨e,h⟩
   ·obtain ⟨h1, h2⟩ := Lr h
    exact ⟨fun _=>by rw [hrw];exact Hf h1 hK,by rw [hrw];exact Gd h2 hK⟩
   ·exact ⟨fun e'=>(by rw [e] at e';cases e'),by rw [hrw];exact Gd h hK⟩
  ·cases h
 |block id c ih =>
  intro env nx bl ms K r Q h hK
  refine ih h fun e env nx bl ms h=>?_
  cases e with
  |normal=>exact hK _ _ _ _ _ h
  |exit id' =>
   simp only at h ⊢
   split at h
   ·rename_i e;rw [e];exact hK _ _ _ _ _ h
   ·rename_i e;rw [e];exact hK _ _ _ _ _ h
  |ret=>exact hK _ _ _ _ _ h
 |loop l=>intro env nx bl ms K r Q h hK;exact Ca h fun bl h=>l.ok h hK
 |exit id=>intro env nx bl ms K r Q h hK;exact hK _ _ _ _ _ h
 |ret=>intro env nx bl ms K r Q h hK;exact hK _ _ _ _ _ h
 |bM l=>intro env nx bl ms K r Q h hK;exact Ca h fun bl h=>l.ok h hK
 |gV l=>intro env nx bl ms K r Q h hK;exact Ca h fun bl h=>l.ok h hK
end
end Go.AM
end
section
namespace Go.AM
inductive CP where
 |any
 |tf (b:Bool)
 |fq
 |cU
 |gj
 |bZ
 |hole (t:Ty)
 |bI (b:Nat) (t:Ty)
 |SO (b:Nat) (t:Ty)
 |ptr (b off:Nat)
 |yl (b:Nat)
 |gm (t:Ty)
 |fn0 (f:Nat)
 |Lt (l:CP)
 |Lu (l:CP)
 |fn (f:Nat) (a b:CP)
 |D6 (t:Nat) (g:Bool) (l:CP)
 |mp (b:Nat)
 |cR
 |pa (b:Nat) (t:Ty) (n:Nat)
 |l6 (t:Ty)
 |nil
 |cons (c l:CP)
inductive SP where
 |c (c:CP)
 |agg (cs:List CP)
 |cQ (cs:List CP)
 |fn (f:Nat) (a b:List CP)
 |alt (a b:List CP)
def CP.T : CP → Type → Type
 | .hole t,A=>t.den×A
 | .bI _ _,A=>Nat×A
 | .SO _ _,A=>Nat×Nat×A
 | .gm t,A=>t.den×A
 | .l6 t,A=>List t.den×A
 | .D6 _ _ l,A=>l.T A
 | .mp _,A=>A
 | .cR,A=>A
 | .pa _ _ _,A=>A
 | .Lt l,A=>l.T A
 | .Lu l,A=>l.T A
 | .fn _ a b,A=>a.T (b.T A)
 | .cons c l,A=>c.T (l.T A)
 | .any,A=>A
 | .tf _,A=>A
 | .fq,A=>A
 | .cU,A=>A
 | .gj,A=>A
 | .bZ,A=>A
 | .ptr _ _,A=>A
 | .yl _,A=>A
 | .fn0 _,A=>A
 | .nil,A=>A
def tyV : (t : Ty) → t.den → V
 | .unit,_=>.agg []
 | .bool,b=>.bool b
 | .str,s=>.str s
 | .int k,n=>.int k n
 | .list t,xs=>.fJ t xs
 | .prod a b,x=>.agg (cC (.prod a b) x)
 | .cG d g t,x=>.cG d (cC.jg g (cC t x))
def CP.r : (c : CP) → {A : Type} → c.T A → A
 | .any,_,x=>x
 | .tf _,_,x=>x
 | .fq,_,x=>x
 | .cU,_,x=>x
 | .gj,_,x=>x
 | .bZ,_,x=>x
 | .hole _,_,x=>x.2
 | .bI _ _,_,x=>x.2
 | .SO _ _,_,x=>x.2.2
 | .ptr _ _,_,x=>x
 | .yl _,_,x=>x
 | .gm _,_,x=>x.2
 | .l6 _,_,x=>x.2
 | .D6 _ _ l,_,x=>l.r x
 | .mp _,_,x=>x
 | .cR,_,x=>x
 | .pa _ _ _,_,x=>x
 | .fn0 _,_,x=>x
 | .Lt l,_,x=>l.r x
 | .Lu l,_,x=>l.r x
 | .fn _ a b,_,x=>b.r (a.r x)
 | .nil,_,x=>x
 | .cons c l,_,x=>l.r (c.r x)
def CP.vs : (c : CP) → {A : Type} → c.T A → List V
 | .any,_,_=>[.any]
 | .tf b,_,_=>[.tf b]
 | .fq,_,_=>[.fq]
 | .cU,_,_=>[.cU]
 | .gj,_,_=>[.gj]
 | .bZ,_,_=>[.bZ]
 | .hole t,_,x=>[tyV t x.1]
 | .bI b t,_,x=>[.sl b t 0 x.1]
 | .SO b t,_,x=>[.sl b t x.1 x.2.1]
 | .ptr b off,_,_=>[.ptr b off]
 | .yl b,_,_=>[.yl b]
 | .gm t,_,x=>[.gm (cC t x.1)]
 | .fn0 f,_,_=>[.fn f [] []]
 | .Lt l,_,x=>[.gm (l.vs x)]
 | .Lu l,_,x=>[.agg (l.vs x)]
 | .D6 t g l,_,x=>[.cG t (cC.jg g (l.vs x))]
 | .mp b,_,_=>[.mp b]
 | .cR,_,_=>[.cR]
 | .pa b t n,_,_=>[.pa b t n]
 | .l6 t,_,x=>[.l6 t x.1]
 | .fn f a b,_,x=>[.fn f (a.vs x) (b.vs (a.r x))]
 | .nil,_,_=>[]
 | .cons c l,_,x=>c.vs x++l.vs (c.r x)
def OS : List V → V
 |v::_=>v
 |[]=>.any
def CP.v {A:Type} (c:CP) (x:c.T A):V:=OS (c.vs x)
def mw : List CP → Type → Type
 |[],A=>A
 |c::r,A=>c.T (mw r A)
def qG {A : Type} : (cs : List CP) → mw cs A → List V
 |[],_=>[]
 |c::r,x=>c.v x::qG r (c.r x)
def rR {A : Type} : (cs : List CP) → mw cs A → A
 |[],x=>x
 |c::r,x=>rR r (c.r x)
def SP.T : SP → Type → Type
 | .c q,A=>q.T A
 | .agg cs,A=>mw cs A
 | .cQ cs,A=>mw cs A
 | .fn _ a b,A=>mw a (mw b A)
 | .alt a b,A=>mw a A ⊕ mw b A
def SP.v {A : Type} : (p : SP) → p.T A → V
 | .c q,x=>q.v x
 | .agg cs,x=>.agg (qG cs x)
 | .cQ cs,x=>.cQ (qG cs x)
 | .fn f a b,x=>.fn f (qG a x) (qG b (rR a x))
 | .alt a b,x=>match x with
  | .inl y=>.cQ (qG a y)
  | .inr y=>.cQ (qG b y)
def SP.r {A : Type} : (p : SP) → p.T A → A
 | .c q,x=>q.r x
 | .agg cs,x=>rR cs x
 | .cQ cs,x=>rR cs x
 | .fn _ a b,x=>rR b (rR a x)
 | .alt a b,x=>match x with
  | .inl y=>rR a y
  | .inr y=>rR b y
def zP : List (Nat × SP) → Type → Type
 |[],A=>A
 |(_,p)::r,A=>p.T (zP r A)
def xR {A : Type} : (ps : List (Nat × SP)) → zP ps A → Env
 |[],_=>[]
 |(s,p)::r,x=>(s,p.v x)::xR r (p.r x)
def O1 {A : Type} : (ps : List (Nat × SP)) → zP ps A → A
 |[],x=>x
 |(_,p)::r,x=>O1 r (p.r x)
inductive BP where
 |arr (t:Ty) (fz:Bool)
 |cells (cs:List CP) (fz:Bool)
 |loop (st:qq) (j:Option Ex) (d:Nat) (env:List (Nat×SP)) (ps:List Nat) (as bd:C) (N:Nat)
 |iF
 |map (kt:Ty) (kg:Bool) (vt:Ty) (vg:Bool)
 |nL (t:Ty) (i:Nat) (p:List Bool) (c:CP)
def BP.T : BP → Type → Type
 | .arr t _,A=>List t.den×A
 | .cells cs _,A=>mw cs A
 | .loop _ _ _ env _ _ _ _,A=>zP env A
 | .iF,A=>A
 | .map kt _ vt _,A=>List (kt.den×vt.den)×A
 | .nL t _ _ c,A=>List t.den×c.T A
def BP.v {A : Type} : (p : BP) → p.T A → k8
 | .arr t fz,x=>.arr t x.1 fz
 | .cells cs fz,x=>.cells (qG cs x) fz
 | .loop st j d env ps as bd N,x=>.loop st j d (xR env x) ps as bd N
 | .iF,_=>.iF
 | .map kt kg vt vg,x=>.map kt kg vt vg x.1
 | .nL t i p c,x=>.nL t x.1 i p (c.v x.2)
def BP.r {A : Type} : (p : BP) → p.T A → A
 | .arr _ _,x=>x.2
 | .cells cs _,x=>rR cs x
 | .loop _ _ _ env _ _ _ _,x=>O1 env x
 | .iF,x=>x
 | .map _ _ _ _,x=>x.2
 | .nL _ _ _ c,x=>c.r x.2
def TY : List (Nat × BP) → Type → Type
 |[],A=>A
 |(_,p)::r,A=>p.T (TY r A)
def SQ {A : Type} : (ps : List (Nat × BP)) → TY ps A → av
 |[],_=>[]
 |(s,p)::r,x=>(s,p.v x)::SQ r (p.r x)
inductive Lc where
 |slot (s:Nat)
 |part (s k:Nat)
 |cell (b k:Nat)
 |old (i:Nat)
 |mark (j:Nat)
structure au where
 env:List (Nat×SP)
 bl:List (Nat×BP)
 gW:List Lc
 ms:List Nat
def au.T (p:au):Type:=zP p.env (TY p.bl Unit)
def au.E (p:au) (x:p.T):Env:=xR p.env x
def au.B (p:au) (x:p.T):av:=SQ p.bl (O1 p.env x)
def au.st (base:Nat) (p:au) (x:p.T):St:=⟨p.E x,⟨base+p.gW.length,p.B x⟩,p.ms⟩
def vn : List Nat → Nat → Option Nat
 |[],_=>none
 |i::_,0=>some i
 |_::r,n+1=>vn r n
def lW : Bool → Bool → Bool
 |true,true=>true
 |false,false=>true
 |_,_=>false
def mz : (t t' : Ty) → Bool
 | .unit,.unit=>true
 | .bool,.bool=>true
 | .str,.str=>true
 | .int k,.int k'=>decide (k=k')
 | .list t,.list t'=>mz t t'
 | .prod a b,.prod a' b'=>match mz a a' with
  |true=>mz b b'
  |false=>false
 | .cG d g a,.cG d' g' a'=>match Nat.beq d d' with
  |true=>match lW g g' with
   |true=>mz a a'
   |false=>false
  |false=>false
 |_,_=>false
def zQ (π:List Nat) (b i:Nat):Bool:=match vn π b with
 |some j=>Nat.beq j i
 |none=>false
def Cb : (t : Ty) → V → Option t.den
 | .bool,.bool b=>some b
 | .bool,.tf b=>some b
 | .str,.str s=>some s
 | .int k,.int k' n=>match decide (k=k') with
  |true=>some n
  |false=>none
 | .list t,.fJ t' xs=>kf t' t xs
 | .list _,.bZ=>some []
 | .prod a b,.agg cs=>match bC dZ [] (.prod a b) cs with
  |some (x,_,[])=>some x
  |_=>none
 | .cG d g a,v=>match bC dZ [] (.cG d g a) [v] with
  |some (x,_,[])=>some x
  |_=>none
 |_,_=>none
def CP.rd1 {A:Type} (π:List Nat) (c:CP) (v:V):Option (A->c.T A) :=
 match c with
 | .any=>some fun a=>a
 | .tf b=>match v with
  | .tf b'=>match lW b b' with
   |true=>some fun a=>a
   |false=>none
  |_=>none
 | .fq=>match v with
  | .fq=>some fun a=>a
  |_=>none
 | .cU=>match v with
  | .cU=>some fun a=>a
  |_=>none
 | .gj=>match v with
  | .gj=>some fun a=>a
  |_=>none
 | .bZ=>match v with
  | .bZ=>some fun a=>a
  |_=>none
 | .hole t=>match Cb t v with
  |some x=>some fun a=>(x,a)
  |none=>none
 | .bI b t=>match v with
  | .sl i t' lo n=>match zQ π b i with
   |true=>match mz t' t with
    |true=>match Nat.beq lo 0 with
     |true=>some fun a=>(n,a)
     |false=>none
    |false=>none
   |false=>none
  | .bZ=>some fun a=>((0:Nat),a)
  |_=>none
 | .SO b t=>match v with
  | .sl i t' lo n=>match zQ π b i with
   |true=>match mz t' t with
    |true=>some fun a=>(lo,n,a)
    |false=>none
   |false=>none
  | .bZ=>some fun a=>((0:Nat),(0:Nat),a)
  |_=>none
 | .ptr b off=>match v with
  | .ptr i o=>match zQ π b i with
   |true=>match Nat.beq o off with
    |true=>some fun a=>a
    |false=>none
   |false=>none
  |_=>none
 | .yl b=>match v with
  | .yl i=>match zQ π b i with
   |true=>some fun a=>a
   |false=>none
  |_=>none
 | .gm t=>match v with
  | .gm cs=>match bC dZ [] t cs with
   |some (x,_,[])=>some fun a=>(x,a)
   |_=>none
  |_=>none
 | .mp b=>match v with
  | .mp i=>match zQ π b i with
   |true=>some fun a=>a
   |false=>none
  |_=>none
 | .cR=>match v with
  | .cR=>some fun a=>a
  |_=>none
 | .pa b t n=>match v with
  | .pa i t' n'=>match zQ π b i with
   |true=>match mz t' t with
    |true=>match Nat.beq n' n with
     |true=>some fun a=>a
     |false=>none
    |false=>none
   |false=>none
  |_=>none
 | .l6 t=>match v with
  | .l6 t' xs=>match kf t' t xs with
   |some ys=>some fun a=>(ys,a)
   |none=>none
  |_=>none
 | .fn0 f=>match v with
  | .fn f' [] []=>match Nat.beq f' f with
   |true=>some fun a=>a
   |false=>none
  |_=>none
 |_=>none
def CP.Gf (π : List Nat) : (c : CP) → {A : Type} → List V → Option ((A → c.T A) × List V)
 | .nil,_,vs=>some (fun a=>a,vs)
 | .cons c l,A,vs=>match c.Gf π (A:=l.T A) vs with
  |some (f,vs')=>match l.Gf π (A:=A) vs' with
   |some (g,vs'')=>some (fun a=>f (g a),vs'')
   |none=>none
  |none=>none
 | .Lt l,A,vs=>match vs with
  | .gm cs::r=>match l.Gf π (A:=A) cs with
   |some (f,[])=>some (f,r)
   |_=>none
  |_=>none
 | .Lu l,A,vs=>match vs with
  | .agg cs::r=>match l.Gf π (A:=A) cs with
   |some (f,[])=>some (f,r)
   |_=>none
  |_=>none
 | .D6 t g l,A,vs=>match vs with
  | .cG t' v::r=>match Nat.beq t' t with
   |true=>match Bt g v with
    |some cs=>match l.Gf π (A:=A) cs with
     |some (f,[])=>some (f,r)
     |_=>none
    |none=>none
   |false=>none
  |_=>none
 | .fn f a b,A,vs=>match vs with
  | .fn f' va vb::r=>match Nat.beq f' f with
   |true=>match a.Gf π (A:=b.T A) va with
    |some (g,[])=>match b.Gf π (A:=A) vb with
     |some (h,[])=>some (fun x=>g (h x),r)
     |_=>none
    |_=>none
   |false=>none
  |_=>none
 |c,_,vs=>match vs with
  |v::r=>match c.rd1 π v with
   |some f=>some (f,r)
   |none=>none
  |[]=>none
def CP.rd {A:Type} (π:List Nat) (c:CP) (v:V):Option (A->c.T A):=match c.Gf π (A:=A) [v] with
 |some (f,[])=>some f
 |_=>none
def fS {A : Type} (π : List Nat) : (cs : List CP) → List V → Option (A → mw cs A)
 |[],[]=>some fun a=>a
 |c::r,v::vs=>match CP.rd (A:=mw r A) π c v with
  |some f=>match fS (A:=A) π r vs with
   |some g=>some fun a=>f (g a)
   |none=>none
  |none=>none
 |_,_=>none
def SP.rd {A:Type} (π:List Nat) (p:SP) (v:V):Option (A->p.T A) :=
 match p with
 | .c q=>q.rd π v
 | .agg cs=>match v with
  | .agg vs=>fS π cs vs
  |_=>none
 | .cQ cs=>match v with
  | .cQ vs=>fS π cs vs
  |_=>none
 | .fn f a b=>match v with
  | .fn f' va vb=>match Nat.beq f' f with
   |true=>match fS (A:=mw b A) π a va with
    |some g=>match fS (A:=A) π b vb with
     |some h=>some fun x=>g (h x)
     |none=>none
    |none=>none
   |false=>none
  |_=>none
 | .alt a b=>match v with
  | .cQ vs=>match fS (A:=A) π a vs with
   |some f=>some fun x=>.inl (f x)
   |none=>match fS (A:=A) π b vs with
    |some f=>some fun x=>.inr (f x)
    |none=>none
  |_=>none
def SP.kv {R : Type} (kz : Kz R) : (p : SP) → p.T Unit → (V → R) → R
 | .alt a b,y,K=>kz.sm (A:=mw a Unit) (B:=mw b Unit) y (fun x=>K (.cQ (qG a x))) (fun x=>K (.cQ (qG b x)))
 | .c q,y,K=>K (SP.v (.c q) y)
 | .agg cs,y,K=>K (SP.v (.agg cs) y)
 | .cQ cs,y,K=>K (SP.v (.cQ cs) y)
 | .fn f a b,y,K=>K (SP.v (.fn f a b) y)
theorem SP.aen {X : Type} : ∀ (p : SP) (y : p.T Unit) (K : V → Option X), p.kv (iL X) y K = K (p.v y)
 | .alt _ _,.inl _,_=>rfl
 | .alt _ _,.inr _,_=>rfl
 | .c _,_,_=>rfl
 | .agg _,_,_=>rfl
 | .cQ _,_,_=>rfl
 | .fn _ _ _,_,_=>rfl
def AK {A : Type} (π : List Nat) (env : Env) : (ps : List (Nat × SP)) → Option (A → zP ps A)
 |[]=>some fun a=>a
 |(s,p)::r=>match SP.rd (A:=zP r A) π p (get s env) with
  |some f=>match AK (A:=A) π env r with
   |some g=>some fun a=>f (g a)
   |none=>none
  |none=>none
mutual
def TZ : V → V → Bool
 | .any,.any=>true
 | .tf a,.tf b=>lW a b
 | .bool a,.bool b=>lW a b
 | .int k n,.int k' m=>match decide (k=k') with
  |true=>decide (n=m)
  |false=>false
 | .fq,.fq=>true
 | .cU,.cU=>true
 | .gj,.gj=>true
 | .cR,.cR=>true
 | .bZ,.bZ=>true
 | .str s,.str s'=>decide (s=s')
 | .fn f a b,.fn f' a' b'=>match Nat.beq f f' with
  |true=>match qh a a' with
   |true=>qh b b'
   |false=>false
  |false=>false
 | .agg a,.agg b=>qh a b
 |_,_=>false
def qh : List V → List V → Bool
 |[],[]=>true
 |a::r,b::s=>match TZ a b with
  |true=>qh r s
  |false=>false
 |_,_=>false
end
mutual
theorem Jn : ∀ {a b : V}, TZ a b = true → a = b
 |a,b,h=>by
  cases a<;>cases b<;>simp only [TZ,Bool.false_eq_true] at h<;>try rfl
  case tf.tf x y=>cases x<;>cases y<;>simp_all [lW]
  case bool.bool x y=>cases x<;>cases y<;>simp_all [lW]
  case int.int=>split at h<;>simp_all
  case str.str=>simp_all
  case fn.fn =>
   split at h<;>try (cases h;done)
   rename_i h1
   split at h<;>try (cases h;done)
   rename_i h2
   rw [Nat.eq_of_beq_eq_true h1,mA h2,mA h]
  case agg.agg=>rw [mA h]
theorem mA : ∀ {a b : List V}, qh a b = true → a = b
 |[],[],_=>rfl
 |a::r,b::s,h=>by
  simp only [qh] at h
  split at h<;>try (cases h;done)
  rename_i h1
  rw [Jn h1,mA h]
 |[],_::_,h=>by simp [qh] at h
 |_::_,[],h=>by simp [qh] at h
end
end Go.AM
end
section
namespace Go.AM
def an (a b:Bool):Bool:=match a with
 |true=>b
 |false=>false
theorem aW {a b:Bool}:an a b=true↔a=true/\b=true:=by cases a<;>simp [an]
theorem eL {a b:Bool} (h:lW a b=true):a=b:=by cases a<;>cases b<;>simp_all [lW]
theorem lE:∀{t t':Ty},mz t t'=true->t=t':=by
 intro t
 induction t with
 |unit=>intro t' h;cases t'<;>simp [mz] at h ⊢
 |bool=>intro t' h;cases t'<;>simp [mz] at h ⊢
 |str=>intro t' h;cases t'<;>simp [mz] at h ⊢
 |int k=>intro t' h;cases t'<;>simp [mz] at h ⊢;exact h
 |list t ih=>intro t' h;cases t'<;>simp [mz] at h ⊢;exact ih h
 |prod a b Hf Gd =>
  intro t' h
  cases t'<;>simp only [mz,Bool.false_eq_true] at h
  split at h<;>try (cases h;done)
  rename_i h1
  rw [Hf h1,Gd h]
 |cG d g a ih =>
  intro t' h
  cases t'<;>simp only [mz,Bool.false_eq_true] at h
  split at h<;>try (cases h;done)
  rename_i h1
  split at h<;>try (cases h;done)
  rename_i h2
  rw [Nat.eq_of_beq_eq_true h1,eL h2,ih h]
def O2 (a b:IntKind):Bool:=decide (a=b)
theorem O3 {a b:IntKind} (h:O2 a b=true):a=b:=by simpa [O2] using h
def O4 (a b:zA):Bool:=decide (a=b)
theorem O5 {a b:zA} (h:O4 a b=true):a=b:=by simpa [O4] using h
def O6 : Kd → Kd → Bool
 | .b,.b=>true
 | .i,.i=>true
 | .s,.s=>true
 |_,_=>false
theorem O7 {x y:Kd} (h:O6 x y=true):x=y:=by cases x<;>cases y<;>simp_all [O6]
def kJ {α : Type} (f : α → α → Bool) : List α → List α → Bool
 |[],[]=>true
 |a::r,b::s=>match f a b with
  |true=>kJ f r s
  |false=>false
 |_,_=>false
theorem fF {α : Type} {f : α → α → Bool} (hf : ∀ {a b}, f a b = true → a = b) : ∀ {a b : List α}, kJ f a b = true → a = b
 |[],[],_=>rfl
 |a::r,b::s,h=>by
  simp only [kJ] at h
  split at h<;>try (cases h;done)
  rename_i h1
  rw [hf h1,fF hf h]
 |[],_::_,h=>by simp [kJ] at h
 |_::_,[],h=>by simp [kJ] at h
def XI:=kJ O6
theorem O8 {a b:List Kd} (h:XI a b=true):a=b:=fF O7 h
def O9:=kJ lW
theorem D7 {a b:List Bool} (h:O9 a b=true):a=b:=fF eL h
def D8:=kJ Nat.beq
theorem rS {a b:List Nat} (h:D8 a b=true):a=b:=fF Nat.eq_of_beq_eq_true h
def Pa:=kJ D8
theorem Lv {a b:List (List Nat)} (h:Pa a b=true):a=b:=fF rS h
def ee : O → O → Bool
 | .t n,.t m=>Nat.beq n m
 | .c v,.c u=>TZ v u
 | .m n l,.m m k=>an (Nat.beq n m) (decide (l=k))
 |_,_=>false
theorem bh {a b:O} (h:ee a b=true):a=b:=by
 cases a<;>cases b<;>simp only [ee,Bool.false_eq_true] at h
 ·rw [Nat.eq_of_beq_eq_true h]
 ·rw [Jn h]
 ·rw [aW] at h;rw [Nat.eq_of_beq_eq_true h.1,of_decide_eq_true h.2]
def xS:=kJ ee
theorem mB {a b:List O} (h:xS a b=true):a=b:=fF bh h
def D9 : Option O → Option O → Bool
 |none,none=>true
 |some a,some b=>ee a b
 |_,_=>false
theorem xU {a b:Option O} (h:D9 a b=true):a=b:=by
 cases a<;>cases b<;>simp only [D9,Bool.false_eq_true] at h
 ·rfl
 ·rw [bh h]
def Z1 : Nat × Nat × O → Nat × Nat × O → Bool
 |(a,b,x),(a',b',x')=>an (Nat.beq a a') (an (Nat.beq b b') (ee x x'))
theorem T0 {p q:Nat×Nat×O} (h:Z1 p q=true):p=q:=by
 obtain ⟨a,b,c⟩:=p
 obtain ⟨a',b',c'⟩:=q
 simp only [Z1,aW] at h
 rw [Nat.eq_of_beq_eq_true h.1,Nat.eq_of_beq_eq_true h.2.1,bh h.2.2]
def XJ:=kJ Z1
theorem Pb {a b:List (Nat×Nat×O)} (h:XJ a b=true):a=b:=fF T0 h
def gG : I → I → Bool
 | .mv x0,.mv y0=>ee x0 y0
 | .pick x0 x1 x2,.pick y0 y1 y2=>an (ee x0 y0) (an (ee x1 y1) (ee x2 y2))
 | .alloc x0,.alloc y0=>qh x0 y0
 | .box x0,.box y0=>ee x0 y0
 | .build x0 x1,.build y0 y1=>an (qh x0 y0) (XJ x1 y1)
 | .ew x0 x1,.ew y0 y1=>an (mz x0 y0) (xS x1 y1)
 | .load x0 x1 x2,.load y0 y1 y2=>an (lW x0 y0) (an (Nat.beq x1 y1) (ee x2 y2))
 | .store x0 x1 x2,.store y0 y1 y2=>an (Nat.beq x0 y0) (an (ee x1 y1) (ee x2 y2))
 | .bin x0 x1 x2,.bin y0 y1 y2=>an (O4 x0 y0) (an (ee x1 y1) (ee x2 y2))
 | .S6 x0 x1 x2,.S6 y0 y1 y2=>an (lW x0 y0) (an (ee x1 y1) (ee x2 y2))
 | .eqs x0 x1 x2 x3,.eqs y0 y1 y2 y3=>an (lW x0 y0) (an (XI x1 y1) (an (ee x2 y2) (ee x3 y3)))
 | .neg x0,.neg y0=>ee x0 y0
 | .not x0,.not y0=>ee x0 y0
 | .conv x0 x1,.conv y0 y1=>an (O2 x0 y0) (ee x1 y1)
 | .mT x0 x1 x2,.mT y0 y1 y2=>an (Nat.beq x0 y0) (an (O9 x1 y1) (ee x2 y2))
 | .field x0 x1 x2 x3,.field y0 y1 y2 y3=>an (lW x0 y0) (an (Nat.beq x1 y1) (an (Nat.beq x2 y2) (ee x3 y3)))
 | .idx x0 x1 x2,.idx y0 y1 y2=>an (Nat.beq x0 y0) (an (ee x1 y1) (ee x2 y2))
 | .zB x0 x1 x2 x3,.zB y0 y1 y2 y3=>an (Nat.beq x0 y0) (an (Nat.beq x1 y1) (an (ee x2 y2) (ee x3 y3)))
 | .ext x0 x1,.ext y0 y1=>an (Nat.beq x0 y0) (ee x1 y1)
 | .len x0,.len y0=>ee x0 y0
 | .lens x0,.lens y0=>ee x0 y0
 | .zC x0,.zC y0=>Nat.beq x0 y0
 | .append x0 x1 x2,.append y0 y1 y2=>an (Nat.beq x0 y0) (an (ee x1 y1) (ee x2 y2))
 | .iY x0 x1,.iY y0 y1=>an (mz x0 y0) (ee x1 y1)
 | .Bp x0 x1 x2,.Bp y0 y1 y2=>an (Nat.beq x0 y0) (an (xS x1 y1) (xS x2 y2))
 | .slice x0 x1 x2 x3 x4,.slice y0 y1 y2 y3 y4=>an (Nat.beq x0 y0) (an (ee x1 y1) (an (D9 x2 y2) (an (D9 x3 y3) (D9 x4 y4))))
 | .lP x0 x1 x2,.lP y0 y1 y2=>an (lW x0 y0) (an (ee x1 y1) (xS x2 y2))
 | .ex x0 x1,.ex y0 y1=>an (decide (x0=y0)) (xS x1 y1)
 |_,_=>false
theorem T1 {a b:I} (h:gG a b=true):a=b:=by
 cases a<;>cases b<;>first|(simp only [gG,Bool.false_eq_true] at h;done)|skip
 case mv.mv=>simp only [gG,aW] at h;rw [bh h]
 case pick.pick=>simp only [gG,aW] at h;rw [bh h.1,bh h.2.1,bh h.2.2]
 case alloc.alloc=>simp only [gG,aW] at h;rw [mA h]
 case box.box=>simp only [gG,aW] at h;rw [bh h]
 case build.build=>simp only [gG,aW] at h;rw [mA h.1,Pb h.2]
 case ew.ew=>simp only [gG,aW] at h;rw [lE h.1,mB h.2]
 case load.load=>simp only [gG,aW] at h;rw [eL h.1,Nat.eq_of_beq_eq_true h.2.1,bh h.2.2]
 case store.store=>simp only [gG,aW] at h;rw [Nat.eq_of_beq_eq_true h.1,bh h.2.1,bh h.2.2]
 case bin.bin=>simp only [gG,aW] at h;rw [O5 h.1,bh h.2.1,bh h.2.2]
 case S6.S6=>simp only [gG,aW] at h;rw [eL h.1,bh h.2.1,bh h.2.2]
 case eqs.eqs=>simp only [gG,aW] at h;rw [eL h.1,O8 h.2.1,bh h.2.2.1,bh h.2.2.2]
 case neg.neg=>simp only [gG,aW] at h;rw [bh h]
 case not.not=>simp only [gG,aW] at h;rw [bh h]
 case conv.conv=>simp only [gG,aW] at h;rw [O3 h.1,bh h.2]
 case mT.mT=>simp only [gG,aW] at h;rw [Nat.eq_of_beq_eq_true h.1,D7 h.2.1,bh h.2.2]
 case field.field=>simp only [gG,aW] at h;rw [eL h.1,Nat.eq_of_beq_eq_true h.2.1,Nat.eq_of_beq_eq_true h.2.2.1,bh h.2.2.2]
 case idx.idx=>simp only [gG,aW] at h;rw [Nat.eq_of_beq_eq_true h.1,bh h.2.1,bh h.2.2]
 case zB.zB=>simp only [gG,aW] at h;rw [Nat.eq_of_beq_eq_true h.1,Nat.eq_of_beq_eq_true h.2.1,bh h.2.2.1,bh h.2.2.2]
 case ext.ext=>simp only [gG,aW] at h;rw [Nat.eq_of_beq_eq_true h.1,bh h.2]
 case len.len=>simp only [gG,aW] at h;rw [bh h]
 case lens.lens=>simp only [gG,aW] at h;rw [bh h]
 case zC.zC=>simp only [gG,aW] at h;rw [Nat.eq_of_beq_eq_true h]
 case append.append=>simp only [gG,aW] at h;rw [Nat.eq_of_beq_eq_true h.1,bh h.2.1,bh h.2.2]
 case iY.iY=>simp only [gG,aW] at h;rw [lE h.1,bh h.2]
 case Bp.Bp=>simp only [gG,aW] at h;rw [Nat.eq_of_beq_eq_true h.1,mB h.2.1,mB h.2.2]
 case slice.slice=>simp only [gG,aW] at h;rw [Nat.eq_of_beq_eq_true h.1,bh h.2.1,xU h.2.2.1,xU h.2.2.2.1,xU h.2.2.2.2]
 case lP.lP=>simp only [gG,aW] at h;rw [eL h.1,bh h.2.1,mB h.2.2]
 case ex.ex=>simp only [gG,aW] at h;rw [of_decide_eq_true h.1,mB h.2]
def T2 : Option (Nat × Bool) → Option (Nat × Bool) → Bool
 |none,none=>true
 |some (s,b),some (s',b')=>an (Nat.beq s s') (lW b b')
 |_,_=>false
theorem Jo {p q:Option (Nat×Bool)} (h:T2 p q=true):p=q:=by
 rcases p with _|⟨a,b⟩<;>rcases q with _|⟨a',b'⟩<;>simp only [T2,Bool.false_eq_true,aW] at h
 ·rfl
 ·rw [Nat.eq_of_beq_eq_true h.1,eL h.2]
def Pc : Option Nat → Option Nat → Bool
 |none,none=>true
 |some a,some b=>Nat.beq a b
 |_,_=>false
theorem Cc {a b:Option Nat} (h:Pc a b=true):a=b:=by
 cases a<;>cases b<;>simp only [Pc,Bool.false_eq_true] at h
 ·rfl
 ·rw [Nat.eq_of_beq_eq_true h]
def Pe : Option Ty → Option Ty → Bool
 |none,none=>true
 |some a,some b=>mz a b
 |_,_=>false
theorem Pf {a b:Option Ty} (h:Pe a b=true):a=b:=by
 cases a<;>cases b<;>simp only [Pe,Bool.false_eq_true] at h
 ·rfl
 ·rw [lE h]
def xV : fe → fe → Bool
 | .op d g i,.op d' g' i'=>an (Pc d d') (an (T2 g g') (gG i i'))
 | .call d g f a t,.call d' g' f' a' t'=>an (Pc d d') (an (T2 g g') (an (ee f f') (an (xS a a') (kJ Pe t t'))))
 |_,_=>false
theorem tW {a b:fe} (h:xV a b=true):a=b:=by
 cases a<;>cases b<;>simp only [xV,Bool.false_eq_true,aW] at h
 ·rw [Cc h.1,Jo h.2.1,T1 h.2.2]
 ·rw [Cc h.1,Jo h.2.1,bh h.2.2.1,mB h.2.2.2.1,fF Pf h.2.2.2.2]
def jy : C → C → Bool
 | .skip,.skip=>true
 | .aZ is,.aZ is'=>kJ xV is is'
 | .draw ps is,.draw ps' is'=>an (Pa ps ps') (kJ xV is is')
 | .seq a b,.seq a' b'=>an (jy a a') (jy b b')
 | .cond c a b,.cond c' a' b'=>an (ee c c') (an (jy a a') (jy b b'))
 | .block id c,.block id' c'=>an (Nat.beq id id') (jy c c')
 | .loop c,.loop c'=>jy c c'
 | .exit id,.exit id'=>Nat.beq id id'
 | .ret,.ret=>true
 | .bM f ps a b,.bM f' ps' a' b'=>an (ee f f') (an (D8 ps ps') (an (jy a a') (jy b b')))
 | .gV p m i cl e kt kg vt vg d b,.gV p' m' i' cl' e' Nr Xo Ns S9 d' b'=>an (kJ xV p p') (an (ee m m') (an (Nat.beq i i') (an (D8 cl cl') (an (Pc e e') (an (mz kt Nr) (an (lW kg Xo) (an (mz vt Ns) (an (lW vg S9) (an (Nat.beq d d') (jy b b'))))))))))
 |_,_=>false
theorem vR:∀{a b:C},jy a b=true->a=b:=by
 intro a
 induction a with
 |skip=>intro b h;cases b<;>simp [jy] at h ⊢
 |ret=>intro b h;cases b<;>simp [jy] at h ⊢
 |exit id=>intro b h;cases b<;>simp only [jy,Bool.false_eq_true] at h;rw [Nat.eq_of_beq_eq_true h]
 |aZ is=>intro b h;cases b<;>simp only [jy,Bool.false_eq_true] at h;rw [fF tW h]
 |draw ps is=>intro b h;cases b<;>simp only [jy,Bool.false_eq_true,aW] at h;rw [Lv h.1,fF tW h.2]
 |seq a b Hf Gd=>intro b h;cases b<;>simp only [jy,Bool.false_eq_true,aW] at h;rw [Hf h.1,Gd h.2]
 |cond c a b Hf Gd=>intro b h;cases b<;>simp only [jy,Bool.false_eq_true,aW] at h;rw [bh h.1,Hf h.2.1,Gd h.2.2]
 |block id c ih=>intro b h;cases b<;>simp only [jy,Bool.false_eq_true,aW] at h;rw [Nat.eq_of_beq_eq_true h.1,ih h.2]
 |loop c ih=>intro b h;cases b<;>simp only [jy,Bool.false_eq_true] at h;rw [ih h]
 |gV p m i cl e kt kg vt vg d b ih =>
  intro b h
  cases b<;>simp only [jy,Bool.false_eq_true,aW] at h
  obtain ⟨h1,h2,h3,h4,h5,h6,h7,h8,h9,h11,h10⟩:=h
  rw [fF tW h1,bh h2,Nat.eq_of_beq_eq_true h3,rS h4,Cc h5,lE h6,eL h7,lE h8,eL h9,Nat.eq_of_beq_eq_true h11,ih h10]
 |bM f ps a b Hf Gd=>intro b h;cases b<;>simp only [jy,Bool.false_eq_true,aW] at h;rw [bh h.1,rS h.2.1,Hf h.2.2.1,Gd h.2.2.2]
end Go.AM
end
section
namespace Go.AM
section
variable {π:List Nat}
theorem pK : ∀ (π : List Nat) (b : Nat), vn π b = π[b]?
 |[],_=>by simp [vn]
 |i::r,0=>by simp [vn]
 |i::r,n+1=>by simp [vn,pK r n]
theorem lF {b i:Nat} (h:zQ π b i=true):π[b]?=some i:=by
 unfold zQ at h
 split at h
 ·rename_i j e;rw [<-pK,e,Nat.eq_of_beq_eq_true h]
 ·cases h
theorem Di.append {as bs cs ds:List V} (h:Di π as bs) (h':Di π cs ds):Di π (as++cs) (bs++ds):=by
 induction as generalizing bs with
 |nil =>
  have:bs=[]:=List.eq_nil_of_length_eq_zero h.1.symm
  subst this;simpa using h'
 |cons a as ih =>
  cases bs with
  |nil=>exact absurd h.1 (by simp)
  |cons b bs=>exact .cons (h.2 0 a b rfl rfl) (ih ⟨by have:=h.1;simpa using this,fun i v u hv hu=>h.2 (i+1) v u (by simpa using hv) (by simpa using hu)⟩)
theorem Ea {t t':Ty} {xs:List t.den} {ys:List t'.den} (h:kf t t' xs=some ys):V.fJ t' ys=V.fJ t xs:=by
 obtain ⟨e,he⟩:=ez h
 subst e;subst he;rfl
theorem Eb {g:Bool} {v:V} {ds cs:List V} (h:Bt g v=some cs) (ak:Di π ds cs):EV π (cC.jg g ds) v:=by
 cases g with
 |true =>
  cases v<;>simp [Bt] at h
  subst h
  exact .agg _ _ ak.1 ak.2
 |false =>
  have:cs=[v]:=by cases v<;>simp_all [Bt,V.cells?]
  subst this
  match ds,ak with
  |[w],ak=>exact ak.2 0 w v rfl rfl
  |[],ak=>exact absurd ak.1 (by simp)
  |_::_::_,ak=>exact absurd ak.1 (by simp)
theorem pL {ar : Ar} : ∀ {t : Ty} {vs : List V} {x : t.den} {u : eX} {r : List V}, bC ar [] t vs = some (x, u, r) → ∃ us, vs = us ++ r ∧ Di π (cC t x) us
 | .unit,vs,x,u,r,h=>by
  simp [bC] at h;obtain ⟨_,_,rfl⟩:=h;exact ⟨[],rfl,.nil⟩
 | .bool,vs,x,u,r,h=>by
  rcases vs with _|⟨v,r'⟩
  ·simp [bC] at h
  ·cases v <;> simp [bC] at h
   ·obtain ⟨rfl,_,rfl⟩:=h;exact ⟨[_],rfl,.cons (.tfb _) .nil⟩
   ·obtain ⟨rfl,_,rfl⟩:=h;exact ⟨[_],rfl,.cons (.bool _) .nil⟩
 | .str,vs,x,u,r,h=>by
  rcases vs with _|⟨v,r'⟩
  ·simp [bC] at h
  ·cases v <;> simp [bC] at h
   obtain ⟨rfl,_,rfl⟩:=h;exact ⟨[_],rfl,.cons (.str _) .nil⟩
 | .int k,vs,x,u,r,h=>by
  rcases vs with _|⟨v,r'⟩
  ·simp [bC] at h
  ·cases v <;> simp [bC] at h
   obtain ⟨rfl,rfl,_,rfl⟩:=h;exact ⟨[_],rfl,.cons (.int _ _) .nil⟩
 | .list t,vs,x,u,r,h=>by
  rcases vs with _|⟨v,r'⟩
  ·simp [bC] at h
  ·cases v <;> simp only [bC] at h <;> try (cases h; done)
   ·split at h <;> try (cases h; done)
    rename_i hc
    cases h
    exact ⟨[_],rfl,.cons (by rw [Ea hc];exact .fJ _ _) .nil⟩
   ·cases h;exact ⟨[.bZ],rfl,.cons (.ZN _) .nil⟩
 | .prod a b,vs,x,u,r,h=>by
  simp only [bC] at h
  split at h<;>try (cases h;done)
  rename_i x1 u1 r1 h1
  split at h<;>try (cases h;done)
  rename_i y1 u2 r2 h2
  cases h
  obtain ⟨us,rfl,e1⟩:=pL h1
  obtain ⟨Zl,rfl,e2⟩:=pL h2
  exact ⟨us++Zl,by simp,e1.append e2⟩
 | .cG d g t,vs,x,u,r,h=>by
  cases vs with
  |nil=>simp [bC] at h
  |cons v vs =>
   cases v<;>simp only [bC] at h<;>try (cases h;done)
   rename_i d' v'
   split at h<;>try (cases h;done)
   rename_i e;subst e
   split at h<;>try (cases h;done)
   rename_i cs hun
   split at h<;>try (cases h;done)
   rename_i x0 ho
   cases h
   obtain ⟨us,e1,ak⟩:=pL ho
   rw [List.append_nil] at e1
   exact ⟨[.cG d v'],rfl,.cons (.cG _ _ _ (Eb hun (by rw [e1];exact ak))) .nil⟩
theorem T3 : ∀ {t : Ty} {v : V} {x : t.den}, Cb t v = some x → EV π (tyV t x) v
 | .unit,v,x,h=>by simp [Cb] at h
 | .bool,v,x,h=>by
  cases v<;>simp [Cb] at h
  ·subst h;exact .tfb _
  ·subst h;exact .bool _
 | .str,v,x,h=>by
  cases v<;>simp [Cb] at h
  subst h;exact .str _
 | .int k,v,x,h=>by
  cases v<;>simp only [Cb] at h<;>try (cases h;done)
  split at h<;>try (cases h;done)
  rename_i hk
  cases h
  have:=of_decide_eq_true hk
  subst this;exact .int _ _
 | .list t,v,x,h=>by
  cases v<;>simp only [Cb] at h<;>try (cases h;done)
  ·show EV π (.fJ t x) _
   rw [Ea h];exact .fJ _ _
  ·cases h;exact .ZN _
 | .prod a b,v,x,h=>by
  cases v<;>simp only [Cb] at h<;>try (cases h;done)
  split at h<;>try (cases h;done)
  rename_i hc
  cases h
  obtain ⟨us,e,ak⟩:=pL (π:=π) hc
  rw [List.append_nil] at e
  subst e
  exact .agg _ _ ak.1 ak.2
 | .cG d g t,v,x,h=>by
  simp only [Cb] at h
  split at h<;>try (cases h;done)
  rename_i hc
  cases h
  obtain ⟨us,e,ak⟩:=pL (π:=π) hc
  rw [List.append_nil] at e
  subst e
  exact ak.2 0 _ _ rfl rfl
variable {A:Type}
theorem CP.Z2 {c:CP} {v:V} {f:A->c.T A} (h:c.rd1 π v=some f) (a:A):Di π (c.vs (f a)) [v]/\c.r (f a)=a:=by
 cases c<;>simp only [CP.rd1] at h
 case any=>cases h;exact ⟨.cons (.any _) .nil,rfl⟩
 case tf b =>
  split at h<;>try (cases h;done)
  split at h<;>try (cases h;done)
  rename_i hb
  cases h
  rw [<-eL hb]
  exact ⟨.cons (.tf _) .nil,rfl⟩
 case fq=>split at h<;>cases h;exact ⟨.cons (.fq) .nil,rfl⟩
 case cU=>split at h<;>cases h;exact ⟨.cons (.cU) .nil,rfl⟩
 case gj=>split at h<;>cases h;exact ⟨.cons (.gj) .nil,rfl⟩
 case bZ=>split at h<;>cases h;exact ⟨.cons (.bZ) .nil,rfl⟩
 case hole t =>
  split at h<;>cases h
  rename_i hx
  exact ⟨.cons (T3 hx) .nil,rfl⟩
 case bI b t =>
  split at h<;>try (cases h;done)
  ·rename_i i t' lo n
   split at h<;>try (cases h;done)
   rename_i h1
   split at h<;>try (cases h;done)
   rename_i h2
   split at h<;>try (cases h;done)
   rename_i h3
   cases h
   have e:=Nat.eq_of_beq_eq_true h3
   rw [lE h2,e]
   exact ⟨.cons (.sl _ _ _ _ _ (lF h1)) .nil,rfl⟩
  ·cases h;exact ⟨.cons (.ZO _ _ _) .nil,rfl⟩
 case SO b t =>
  split at h<;>try (cases h;done)
  ·rename_i i t' lo n
   split at h<;>try (cases h;done)
   rename_i h1
   split at h<;>try (cases h;done)
   rename_i h2
   cases h
   rw [lE h2]
   exact ⟨.cons (.sl _ _ _ _ _ (lF h1)) .nil,rfl⟩
  ·cases h;exact ⟨.cons (.ZO _ _ _) .nil,rfl⟩
 case ptr b off =>
  split at h<;>try (cases h;done)
  split at h<;>try (cases h;done)
  rename_i h1
  split at h<;>try (cases h;done)
  rename_i h2
  cases h
  rw [Nat.eq_of_beq_eq_true h2]
  exact ⟨.cons (.ptr _ _ _ (lF h1)) .nil,rfl⟩
 case yl b =>
  split at h<;>try (cases h;done)
  split at h<;>try (cases h;done)
  rename_i h1
  cases h
  exact ⟨.cons (.yl _ _ (lF h1)) .nil,rfl⟩
 case gm t =>
  split at h<;>try (cases h;done)
  split at h<;>try (cases h;done)
  rename_i hc
  cases h
  obtain ⟨us,e,ak⟩:=pL (π:=π) hc
  rw [List.append_nil] at e
  subst e
  exact ⟨.cons (.gm _ _ ak.1 ak.2) .nil,rfl⟩
 case mp b =>
  split at h<;>try (cases h;done)
  split at h<;>try (cases h;done)
  rename_i h1
  cases h
  exact ⟨.cons (.mp _ _ (lF h1)) .nil,rfl⟩
 case cR=>split at h<;>cases h;exact ⟨.cons (.cR) .nil,rfl⟩
 case pa b t n =>
  split at h<;>try (cases h;done)
  split at h<;>try (cases h;done)
  rename_i h1
  split at h<;>try (cases h;done)
  rename_i h2
  split at h<;>try (cases h;done)
  rename_i h3
  cases h
  rw [lE h2,Nat.eq_of_beq_eq_true h3]
  exact ⟨.cons (.pa _ _ _ _ (lF h1)) .nil,rfl⟩
 case l6 t =>
  split at h<;>try (cases h;done)
  split at h<;>try (cases h;done)
  rename_i ys hc
  cases h
  obtain ⟨e,he⟩:=ez hc
  subst e;subst he
  exact ⟨.cons (.l6 _ _) .nil,rfl⟩
 case D6=>cases h
 case fn0 f' =>
  split at h<;>try (cases h;done)
  split at h<;>try (cases h;done)
  rename_i h1
  cases h
  rw [Nat.eq_of_beq_eq_true h1]
  exact ⟨.cons (.fn _ _ _ _ _ rfl (fun i v u hv=>by simp at hv) rfl (fun i v u hv=>by simp at hv)) .nil,rfl⟩
 case Lt=>cases h
 case Lu=>cases h
 case fn=>cases h
 case nil=>cases h
 case cons=>cases h
theorem CP.Z3:∀{c:CP} {A:Type} {vs r:List V} {f:A->c.T A},c.Gf π vs=some (f,r)->∃us,vs=us++r/\∀a,Di π (c.vs (f a)) us/\c.r (f a)=a:=by
 intro c
 induction c with
 |nil=>intro A vs r f h;simp only [CP.Gf] at h;cases h;exact ⟨[],rfl,fun a=>⟨.nil,rfl⟩⟩
 |cons c l ihc ihl =>
  intro A vs r f h
  simp only [CP.Gf] at h
  split at h<;>try (cases h;done)
  rename_i f1 vs' h1
  split at h<;>try (cases h;done)
  rename_i g vs'' h2
  cases h
  obtain ⟨us,rfl,e1⟩:=ihc h1
  obtain ⟨Zl,rfl,e2⟩:=ihl h2
  refine ⟨us++Zl,by simp,fun a=>?_⟩
  obtain ⟨q1,q2⟩:=e1 (g a)
  obtain ⟨q3,q4⟩:=e2 a
  simp only [CP.vs,CP.r,q2]
  exact ⟨q1.append q3,q4⟩
 |Lt l ih =>
  intro A vs r f h
  simp only [CP.Gf] at h
  split at h<;>try (cases h;done)
  rename_i cs r'
  split at h<;>try (cases h;done)
  rename_i f1 h1
  cases h
  obtain ⟨us,e,e1⟩:=ih h1
  rw [List.append_nil] at e
  subst e
  refine ⟨[.gm cs],rfl,fun a=>?_⟩
  obtain ⟨q1,q2⟩:=e1 a
  exact ⟨.cons (.gm _ _ q1.1 q1.2) .nil,q2⟩
 |Lu l ih =>
  intro A vs r f h
  simp only [CP.Gf] at h
  split at h<;>try (cases h;done)
  rename_i cs r'
  split at h<;>try (cases h;done)
  rename_i f1 h1
  cases h
  obtain ⟨us,e,e1⟩:=ih h1
  rw [List.append_nil] at e
  subst e
  refine ⟨[.agg cs],rfl,fun a=>?_⟩
  obtain ⟨q1,q2⟩:=e1 a
  exact ⟨.cons (.agg _ _ q1.1 q1.2) .nil,q2⟩
 |D6 t g l ih =>
  intro A vs r f h
  simp only [CP.Gf] at h
  split at h<;>try (cases h;done)
  rename_i t' v r'
  split at h<;>try (cases h;done)
  rename_i ht
  split at h<;>try (cases h;done)
  rename_i cs hun
  split at h<;>try (cases h;done)
  rename_i f1 h1
  cases h
  obtain ⟨us,e,e1⟩:=ih h1
  rw [List.append_nil] at e
  subst e
  have e0:=Nat.eq_of_beq_eq_true ht
  subst e0
  refine ⟨[.cG t' v],rfl,fun a=>?_⟩
  obtain ⟨q1,q2⟩:=e1 a
  exact ⟨.cons (.cG _ _ _ (Eb hun q1)) .nil,q2⟩
 |fn f0 a b Hf Gd =>
  intro A vs r f h
  simp only [CP.Gf] at h
  split at h<;>try (cases h;done)
  rename_i f' va vb r'
  split at h<;>try (cases h;done)
  rename_i hf
  split at h<;>try (cases h;done)
  rename_i g hg
  split at h<;>try (cases h;done)
  rename_i k hk
  cases h
  obtain ⟨us,e,e1⟩:=Hf hg
  rw [List.append_nil] at e
  subst e
  obtain ⟨Zl,e',e2⟩:=Gd hk
  rw [List.append_nil] at e'
  subst e'
  have e0:=Nat.eq_of_beq_eq_true hf
  subst e0
  refine ⟨[.fn f' va vb],rfl,fun x=>?_⟩
  obtain ⟨q1,q2⟩:=e1 (k x)
  obtain ⟨q3,q4⟩:=e2 x
  simp only [CP.vs,CP.r,q2]
  exact ⟨.cons (.fn _ _ _ _ _ q1.1 q1.2 q3.1 q3.2) .nil,q4⟩
 |_ =>
  intro A vs r f h
  simp only [CP.Gf] at h
  split at h<;>try (cases h;done)
  rename_i v r'
  split at h<;>try (cases h;done)
  rename_i f1 h1
  cases h
  exact ⟨[v],rfl,fun a=>CP.Z2 h1 a⟩
theorem CP.rT {c:CP} {v:V} {f:A->c.T A} (h:c.rd π v=some f) (a:A):EV π (c.v (f a)) v/\c.r (f a)=a:=by
 unfold CP.rd at h
 split at h<;>try (cases h;done)
 rename_i f1 h1
 cases h
 obtain ⟨us,e,e1⟩:=CP.Z3 h1
 rw [List.append_nil] at e
 subst e
 obtain ⟨q1,q2⟩:=e1 a
 refine ⟨?_,q2⟩
 unfold CP.v
 have hl:=q1.1
 cases hc:c.vs (f a) with
 |nil=>rw [hc] at hl;simp at hl
 |cons u r=>exact q1.2 0 u v (by rw [hc];rfl) rfl
theorem jq : ∀ {cs : List CP} {vs : List V} {f : A → mw cs A}, fS π cs vs = some f → ∀ a, Di π (qG cs (f a)) vs ∧ rR cs (f a) = a
 |[],[],f,h,a=>by cases h;exact ⟨.nil,rfl⟩
 |c::r,v::vs,f,h,a=>by
  simp only [fS] at h
  split at h<;>try (cases h;done)
  rename_i f1 h1
  split at h<;>cases h
  rename_i g h2
  obtain ⟨q1,q2⟩:=CP.rT h1 (g a)
  obtain ⟨q3,q4⟩:=jq h2 a
  simp only [qG,rR,q2]
  exact ⟨.cons q1 q3,q4⟩
 |[],_::_,f,h,a=>by simp [fS] at h
 |_::_,[],f,h,a=>by simp [fS] at h
theorem SP.rT : ∀ {p : SP} {v : V} {f : A → p.T A}, p.rd π v = some f → ∀ (a : A), EV π (p.v (f a)) v ∧ p.r (f a) = a
 | .c q,v,f,h,a=>CP.rT (c:=q) h a
 | .agg cs,v,f,h,a=>by
  cases v<;>try (cases h;done)
  rename_i vs
  have h':fS π cs vs=some f:=h
  obtain ⟨h1,h2⟩:=jq h' a
  exact ⟨.agg _ _ h1.1 h1.2,h2⟩
 | .cQ cs,v,f,h,a=>by
  cases v<;>try (cases h;done)
  rename_i vs
  have h':fS π cs vs=some f:=h
  obtain ⟨h1,h2⟩:=jq h' a
  exact ⟨.cQ _ _ h1.1 h1.2,h2⟩
 | .fn f' x y,v,f,h,a=>by
  cases v with
  |fn f2 va vb =>
   have h':(match Nat.beq f2 f' with
    |true=>match fS (A:=mw y A) π x va with
     |some g=>match fS (A:=A) π y vb with
      |some h=>some fun z=>g (h z)
      |none=>none
     |none=>none
    |false=>none)=some f:=h
   clear h
   cases hf:Nat.beq f2 f' with
   |false=>rw [hf] at h';cases h'
   |true =>
    rw [hf] at h'
    simp only at h'
    cases hg:fS (A:=mw y A) π x va with
    |none=>rw [hg] at h';cases h'
    |some g =>
     rw [hg] at h'
     simp only at h'
     cases hk:fS (A:=A) π y vb with
     |none=>rw [hk] at h';cases h'
     |some k =>
      rw [hk] at h'
      have h2:(fun z=>g (k z))=f:=Option.some.inj h'
      obtain ⟨q1,q2⟩:=jq hg (k a)
      obtain ⟨q3,q4⟩:=jq hk a
      have e:=Nat.eq_of_beq_eq_true hf
      subst e
      have e2:SP.v (A:=A) (.fn f2 x y) (g (k a)) = .fn f2 (qG x (g (k a))) (qG y (k a)):=by
       show V.fn f2 _ (qG y (rR x (g (k a))))=_
       rw [q2]
      have e3:SP.r (A:=A) (.fn f2 x y) (g (k a))=a:=by
       show rR y (rR x (g (k a)))=a
       rw [q2,q4]
      have e4:f a=g (k a):=by rw [<-h2]
      rw [e4]
      exact ⟨by rw [e2];exact .fn _ _ _ _ _ q1.1 q1.2 q3.1 q3.2,e3⟩
  |_=>cases h
 | .alt x y,v,f,h,a=>by
  cases v with
  |cQ vs =>
   have h':(match fS (A:=A) π x vs with
    |some f=>some fun z=>(Sum.inl (f z):mw x A ⊕ mw y A)
    |none=>match fS (A:=A) π y vs with
     |some f=>some fun z=>Sum.inr (f z)
     |none=>none)=some f:=h
   clear h
   cases hx:fS (A:=A) π x vs with
   |some g =>
    rw [hx] at h'
    have h2:=Option.some.inj h'
    subst h2
    obtain ⟨h1,h2⟩:=jq hx a
    exact ⟨.cQ _ _ h1.1 h1.2,h2⟩
   |none =>
    rw [hx] at h'
    simp only at h'
    cases hy:fS (A:=A) π y vs with
    |none=>rw [hy] at h';cases h'
    |some g =>
     rw [hy] at h'
     have h2:=Option.some.inj h'
     subst h2
     obtain ⟨h1,h2⟩:=jq hy a
     exact ⟨.cQ _ _ h1.1 h1.2,h2⟩
  |_=>cases h
theorem rU {env : Env} : ∀ {ps : List (Nat × SP)} {f : A → zP ps A}, AK π env ps = some f → ∀ a, EE π (xR ps (f a)) env ∧ O1 ps (f a) = a
 |[],f,h,a=>by cases h;exact ⟨fun p hp=>by simp [xR] at hp,rfl⟩
 |(s,p)::r,f,h,a=>by
  simp only [AK] at h
  split at h<;>try (cases h;done)
  rename_i f1 h1
  split at h<;>cases h
  rename_i g h2
  obtain ⟨q1,q2⟩:=SP.rT h1 (g a)
  obtain ⟨q3,q4⟩:=rU h2 a
  simp only [xR,O1,q2]
  refine ⟨fun x hx=>?_,q4⟩
  rcases List.mem_cons.1 hx with rfl|hx
  ·exact q1
  ·exact q3 x hx
def Pg : qq → qq → Bool
 | .ready,.ready=>true
 | .busy,.busy=>true
 | .done,.done=>true
 | .exhausted,.exhausted=>true
 |_,_=>false
theorem Ph {a b:qq} (h:Pg a b=true):a=b:=by cases a<;>cases b<;>simp_all [Pg]
def Z4 : Option Ex → Option Ex → Bool
 |none,none=>true
 |some .normal,some .normal=>true
 |some (.exit a),some (.exit b)=>Nat.beq a b
 |some .ret,some .ret=>true
 |_,_=>false
theorem T4 {a b:Option Ex} (h:Z4 a b=true):a=b:=by
 rcases a with _|(_|_|_)<;>rcases b with _|(_|_|_)<;>simp only [Z4,Bool.false_eq_true] at h<;>try rfl
 rw [Nat.eq_of_beq_eq_true h]
def BP.rd (π:List Nat) (nx:Nat) (bl:av) (id:Nat) (p:BP):Option (A->p.T A) :=
 match vn π id with
 |none=>none
 |some i=>match p with
  | .arr t fz=>match az i bl with
   |some (.arr t' xs fz')=>match kf t' t xs with
    |some ys=>match lW fz' fz with
     |true=>some fun a=>(ys,a)
     |false=>none
    |none=>none
   |none=>match Nat.ble nx i with
    |true=>some fun a=>(([]:List t.den),a)
    |false=>none
   |_=>none
  | .cells cs fz=>match az i bl with
   |some (.cells vs fz')=>match lW fz' fz with
    |true=>fS π cs vs
    |false=>none
   |_=>none
  | .loop st j d env ps as bd N=>match az i bl with
   |some (.loop st' j' d' env' ps' as' TF N')=>match an (Pg st' st) (an (Z4 j' j)<|an (zQ π d d') (an (D8 ps' ps) (an (Nat.beq N' N) (an (jy as' as) (jy TF bd))))) with
    |true=>AK π env' env
    |false=>none
   |_=>none
  | .iF=>match az i bl with
   |some .iF=>some fun a=>a
   |_=>none
  | .map kt kg vt vg=>match az i bl with
   |some (.map Nr Xo Ns S9 es)=>match an (lW Xo kg) (lW S9 vg) with
    |true=>match IJ Nr Ns kt vt es with
     |some fs=>some fun a=>(fs,a)
     |none=>none
    |false=>none
   |_=>none
  | .nL t k q c=>match az i bl with
   |some (.nL t' xs k' q' v)=>match an (Nat.beq k' k) (O9 q' q) with
    |true=>match kf t' t xs with
     |some ys=>match CP.rd π c v with
      |some f=>some fun a=>(ys,f a)
      |none=>none
     |none=>none
    |false=>none
   |_=>none
theorem BP.rT {nx:Nat} {bl:av} {id:Nat} {p:BP} {f:A->p.T A} (h:p.rd π nx bl id=some f) (a:A):EBk π nx bl id (p.v (f a))/\p.r (f a)=a:=by
 unfold BP.rd at h
 split at h
 ·cases h
 ·rename_i i hi
  rw [pK] at hi
  cases p<;>simp only at h
  case arr t fz =>
   split at h
   ·rename_i t' xs fz' hb
    split at h<;>try (cases h;done)
    rename_i ys hc
    split at h<;>cases h
    rename_i hfz
    refine ⟨⟨i,hi,.inl ?_⟩,rfl⟩
    obtain ⟨e,he⟩:=ez hc
    subst e;subst he
    rw [hb,eL hfz]
   ·rename_i hb
    split at h<;>cases h
    rename_i hle
    exact ⟨⟨i,hi,.inr ⟨rfl,Nat.le_of_ble_eq_true hle⟩⟩,rfl⟩
   ·cases h
  case cells cs fz =>
   split at h<;>try (cases h;done)
   rename_i vs fz' hb
   split at h<;>try (cases h;done)
   rename_i hfz
   obtain ⟨h1,h2⟩:=jq h a
   refine ⟨⟨i,hi,vs,?_,h1⟩,h2⟩
   rw [hb,eL hfz]
  case loop st j d env ps as bd N =>
   split at h<;>try (cases h;done)
   rename_i st' j' d' env' ps' as' TF N' hb
   split at h<;>try (cases h;done)
   rename_i hc
   simp only [aW] at hc
   obtain ⟨c1,cj,c2,c3,c4,c5,c6⟩:=hc
   obtain ⟨h1,h2⟩:=rU h a
   refine ⟨⟨i,hi,d',env',?_,lF c2,h1⟩,h2⟩
   rw [hb,Ph c1,T4 cj,rS c3,Nat.eq_of_beq_eq_true c4,vR c5,vR c6]
  case iF =>
   split at h<;>cases h
   rename_i hb
   exact ⟨⟨i,hi,hb⟩,rfl⟩
  case map kt kg vt vg =>
   split at h<;>try (cases h;done)
   rename_i Nr Xo Ns S9 es hb
   split at h<;>try (cases h;done)
   rename_i hg
   split at h<;>try (cases h;done)
   rename_i fs hc
   cases h
   simp only [aW] at hg
   rw [eL hg.1,eL hg.2] at hb
   unfold IJ at hc
   split at hc<;>try (cases hc;done)
   rename_i he
   obtain ⟨rfl,rfl⟩:=he
   cases hc
   exact ⟨⟨i,hi,hb⟩,rfl⟩
  case nL t k q c =>
   split at h<;>try (cases h;done)
   rename_i t' xs k' q' v hb
   split at h<;>try (cases h;done)
   rename_i hc
   simp only [aW] at hc
   split at h<;>try (cases h;done)
   rename_i ys hy
   split at h<;>try (cases h;done)
   rename_i f' hf
   cases h
   obtain ⟨e,he⟩:=ez hy
   subst e;subst he
   obtain ⟨h1,h2⟩:=CP.rT hf a
   refine ⟨⟨i,hi,v,?_,h1⟩,h2⟩
   rw [hb,Nat.eq_of_beq_eq_true hc.1,D7 hc.2]
def Pj (π : List Nat) (nx : Nat) (bl : av) : (ps : List (Nat × BP)) → Option (A → TY ps A)
 |[]=>some fun a=>a
 |(id,p)::r=>match BP.rd (A:=TY r A) π nx bl id p with
  |some f=>match Pj π nx bl r with
   |some g=>some fun a=>f (g a)
   |none=>none
  |none=>none
theorem Cd {nx : Nat} {bl : av} : ∀ {ps : List (Nat × BP)} {f : A → TY ps A}, Pj π nx bl ps = some f → ∀ a, (∀ p ∈ SQ ps (f a), EBk π nx bl p.1 p.2) ∧ (SQ ps (f a)).map (·.1) = ps.map (·.1)
 |[],f,h,a=>by cases h;exact ⟨fun p hp=>by simp [SQ] at hp,rfl⟩
 |(s,p)::r,f,h,a=>by
  simp only [Pj] at h
  split at h<;>try (cases h;done)
  rename_i f1 h1
  split at h<;>cases h
  rename_i g h2
  obtain ⟨q1,q2⟩:=BP.rT h1 (g a)
  obtain ⟨q3,q4⟩:=Cd h2 a
  simp only [SQ,q2]
  refine ⟨fun x hx=>?_,by simp [q4]⟩
  rcases List.mem_cons.1 hx with rfl|hx
  ·exact q1
  ·exact q3 x hx
def Lw (nx b : Nat) : V → Option Nat
 | .sl i _ _ _=>some i
 | .ptr i _=>some i
 | .yl i=>some i
 | .mp i=>some i
 | .pa i _ _=>some i
 | .ep i _ _ _=>some i
 | .bZ=>some (nx+b)
 | .cG _ (.ptr i _)=>some i
 |_=>none
def Pk : List V → Nat → Option V
 |[],_=>none
 |v::_,0=>some v
 |_::r,n+1=>Pk r n
def Z5 (π : List Nat) (env : Env) (nx : Nat) (bl : av) (ms : List Nat) (b : Nat) : Lc → Option Nat
 | .slot s=>Lw nx b (get s env)
 | .part s k=>match get s env with
  | .agg cs=>match Pk cs k with
   |some v=>Lw nx b v
   |none=>none
  | .fn _ a c=>match Pk (a++c) k with
   |some v=>Lw nx b v
   |none=>none
  | .cQ cs=>match Pk cs k with
   |some v=>Lw nx b v
   |none=>none
  |_=>none
 | .cell b' k=>match vn π b' with
  |some i=>match az i bl with
   |some (.cells cs _)=>match Pk cs k with
    |some v=>Lw nx b v
    |none=>none
   |some (.nL _ _ _ _ v)=>Lw nx b v
   |_=>none
  |none=>none
 | .old i=>some i
 | .mark j=>vn ms j
def snoc {R : Type} : List Nat → Nat → (List Nat → R) → R
 |[],i,k=>k [i]
 |j::r,i,k=>snoc r i fun r'=>k (j::r')
theorem Ce {R : Type} : ∀ (l : List Nat) (i : Nat) (k : List Nat → R), snoc l i k = k (l ++ [i])
 |[],_,_=>rfl
 |j::r,i,k=>by simp only [snoc,Ce r];rfl
def rV {R : Type} (no : R) (env : Env) (nx : Nat) (bl : av) (ms : List Nat) : List Lc → List Nat → Nat → (List Nat → R) → R
 |[],π,_,k=>k π
 |l::r,π,b,k=>match Z5 π env nx bl ms b l with
  |some i=>fN i fun i=>snoc π i fun π=>fN (b+1) fun b=>rV no env nx bl ms r π b k
  |none=>no
theorem xW {X:Type} {no:Option X} {env:Env} {nx:Nat} {bl:av} {ms:List Nat}:∀{ls:List Lc} {π:List Nat} {b:Nat} {k:List Nat->Option X} {x:X},rV no env nx bl ms ls π b k=some x ->
  no=some x\/∃r,r.length=ls.length/\k (π++r)=some x
 |[],π,b,k,x,h=>.inr ⟨[],rfl,by simpa [rV] using h⟩
 |l::ls,π,b,k,x,h=>by
  simp only [rV] at h
  split at h
  ·rename_i i hi
   rw [gr,Ce,gr] at h
   rcases xW h with h|⟨r,h1,h2⟩
   ·exact .inl h
   ·exact .inr ⟨i::r,by simp [h1],by simpa using h2⟩
  ·exact .inl h
def Pm (π:List Nat) (a b:Nat):Bool:=match vn π a with
 |some i=>match vn π b with
  |some j=>match Nat.beq i j with
   |true=>false
   |false=>true
  |none=>false
 |none=>false
def Cf (π : List Nat) (a : Nat) : List (Nat × BP) → Bool
 |[]=>true
 |(b,_)::r=>match Pm π a b with
  |true=>Cf π a r
  |false=>false
def xX (π : List Nat) : List (Nat × BP) → Bool
 |[]=>true
 |(a,_)::r=>match Cf π a r with
  |true=>xX π r
  |false=>false
theorem Pn {a b:Nat} (h:Pm π a b=true):π[a]?≠π[b]?:=by
 unfold Pm at h
 split at h<;>try (cases h;done)
 rename_i i hi
 split at h<;>try (cases h;done)
 rename_i j hj
 split at h<;>try (cases h;done)
 rename_i hij
 rw [<-pK,<-pK,hi,hj]
 intro e;cases e
 rw [Nat.beq_refl] at hij;cases hij
theorem tX {a : Nat} : ∀ {r : List (Nat × BP)}, Cf π a r = true → ∀ b ∈ r.map (·.1), π[a]? ≠ π[b]?
 |[],_,b,hb=>by simp at hb
 |(c,_)::r,h,b,hb=>by
  simp only [Cf] at h
  split at h<;>try (cases h;done)
  rename_i hd
  simp only [List.map_cons,List.mem_cons] at hb
  rcases hb with rfl|hb
  ·exact Pn hd
  ·exact tX h b hb
theorem xY : ∀ {r : List (Nat × BP)}, xX π r = true → ∀ a ∈ r.map (·.1), ∀ b ∈ r.map (·.1), π[a]? = π[b]? → a = b
 |[],_,a,ha=>by simp at ha
 |(c,_)::r,h,a,ha=>by
  simp only [xX] at h
  split at h<;>try (cases h;done)
  rename_i hd
  intro b hb e
  simp only [List.map_cons,List.mem_cons] at ha hb
  rcases ha with rfl|ha<;>rcases hb with rfl|hb
  ·rfl
  ·exact absurd e (tX hd b hb)
  ·exact absurd e.symm (tX hd a ha)
  ·exact xY h a ha b hb e
def Lx (π : List Nat) : List Nat → List Nat → Bool
 |[],[]=>true
 |a::r,i::s=>match zQ π a i with
  |true=>Lx π r s
  |false=>false
 |_,_=>false
theorem Jp : ∀ {ps ms : List Nat}, Lx π ps ms = true → ps.map (fun i => π[i]?) = ms.map some
 |[],[],_=>rfl
 |a::r,i::s,h=>by
  simp only [Lx] at h
  split at h<;>try (cases h;done)
  rename_i ha
  simp [lF ha,Jp h]
 |[],_::_,h=>by simp [Lx] at h
 |_::_,[],h=>by simp [Lx] at h
def au.rd {R:Type} (no:R) (pre:List Nat) (base:Nat) (p:au) (env:Env) (nx:Nat) (bl:av) (ms:List Nat) (k:p.T->R):R :=
 rV no env nx bl ms p.gW pre base fun π=>match an (Lx π p.ms ms) (xX π p.bl) with
  |true=>match AK (A:=TY p.bl Unit) π env p.env with
   |some f=>match Pj (A:=Unit) π nx bl p.bl with
    |some g=>k (f (g ()))
    |none=>no
   |none=>no
  |false=>no
theorem au.Jq {X:Type} {no:Option X} {base:Nat} {p:au} {env:Env} {nx:Nat} {bl:av} {ms:List Nat} {k:p.T->Option X} {r:X} (h:p.rd no (List.range base) base env nx bl ms k=some r) :
  no=some r\/∃x π,k x=some r/\jw base π ⟨env,⟨nx,bl⟩,ms⟩ (p.st base x):=by
 rcases xW h with h|⟨rr,hlen,h⟩
 ·exact .inl h
 split at h
 ·rename_i hc
  rw [aW] at hc
  split at h
  ·rename_i f hf
   split at h
   ·rename_i g hg
    obtain ⟨h1,h2⟩:=rU hf (g ())
    obtain ⟨h3,h4⟩:=Cd hg ()
    refine .inr ⟨f (g ()),List.range base++rr,h,?_⟩
    constructor
    ·simp
    ·simp [au.st,hlen]
    ·exact Jp hc.1
    ·exact h1
    ·simp only [au.st,au.B,h2];exact h3
    ·simp only [au.st, au.B, h2]
     intro q hq s hs e
     refine xY hc.2 q.1 ?_ s.1 ?_ e
     ·rw [<-h4];exact List.mem_map_of_mem hq
     ·rw [<-h4];exact List.mem_map_of_mem hs
   ·exact .inl h
  ·exact .inl h
 ·exact .inl h
theorem au.dM {X:Type} {base:Nat} {p:au} {env:Env} {nx:Nat} {bl:av} {ms:List Nat} {k:p.T->Option X} {r:X} (h:p.rd none (List.range base) base env nx bl ms k=some r) :
  ∃x π,k x=some r/\jw base π ⟨env,⟨nx,bl⟩,ms⟩ (p.st base x):=by
 rcases au.Jq h with h|h
 ·cases h
 ·exact h
end
end Go.AM
end
section
namespace Go.AM
@[reducible] def cN (k:IntKind) (z:Int):Bool:=k.min<=z&&z<=k.max
@[reducible] def bR (i n:Int):Bool:=decide (0<=i/\i<n)
@[reducible] def Ze (a b:Int):Int:=if b<a then b else a
@[reducible] def imax (a b:Int):Int:=if b > a then b else a
@[reducible] def seq (a b:ByteArray):Bool:=a.toList==b.toList
@[reducible] def slt (a b:ByteArray):Bool:=Op.bytesLess a.toList b.toList
@[reducible] def Gn (c a b:Bool):Bool:=if c then a else b
def Hg : Ex → Ex → Bool
 | .normal,.normal=>true
 | .exit a,.exit b=>Nat.beq a b
 | .ret,.ret=>true
 |_,_=>false
theorem Jr {a b:Ex} (h:Hg a b=true):a=b:=by
 cases a<;>cases b<;>simp only [Hg,Bool.false_eq_true] at h<;>try rfl
 rw [Nat.eq_of_beq_eq_true h]
abbrev aU:=List (Ex×au)
def aU.T : aU → Type
 |[]=>Empty
 |[(_,p)]=>p.T
 |(_,p)::q::r=>p.T ⊕ aU.T (q::r)
def aU.st (base : Nat) : (xs : aU) → xs.T → Ex × St
 |[],x=>nomatch x
 |[(e,p)],x=>(e,p.st base x)
 |(_,_)::q::r,.inr y=>aU.st base (q::r) y
 |(e,p)::_::_,.inl x=>(e,p.st base x)
section
variable {R:Type}
def T5 : List V → (List V → R) → R
 |[],k=>k []
 |v::r,k=>fV v fun v=>T5 r fun r=>k (v::r)
theorem nA : ∀ (l : List V) (k : List V → R), T5 l k = k l
 |[],k=>rfl
 |v::r,k=>by simp only [T5,nN,nA r]
def Lz : Env → (Env → R) → R
 |[],k=>k []
 |(s,v)::r,k=>fV v fun v=>Lz r fun r=>k ((s,v)::r)
theorem rW : ∀ (l : Env) (k : Env → R), Lz l k = k l
 |[],k=>rfl
 |(s,v)::r,k=>by simp only [Lz,nN,rW r]
def Z6 (b:k8) (k:k8->R):R:=match b with
 | .cells cs fz=>T5 cs fun cs=>k (.cells cs fz)
 | .arr t xs fz=>k (.arr t xs fz)
 | .loop st j d env ps as bd N=>Lz env fun env=>k (.loop st j d env ps as bd N)
 | .iF=>k .iF
 | .map kt kg vt vg es=>k (.map kt kg vt vg es)
 | .nL t xs i p v=>fV v fun v=>k (.nL t xs i p v)
theorem T6 (b:k8) (k:k8->R):Z6 b k=k b:=by cases b<;>simp only [Z6,nA,rW,nN]
def fBl : av → (av → R) → R
 |[],k=>k []
 |(s,b)::r,k=>Z6 b fun b=>fBl r fun r=>k ((s,b)::r)
theorem Cg : ∀ (l : av) (k : av → R), fBl l k = k l
 |[],k=>rfl
 |(s,b)::r,k=>by simp only [fBl,T6,Cg r]
def au.go (p:au) (nx:Nat) (x:p.T) (k:Env->Nat->av->List Nat->R):R:=Lz (p.E x) fun env=>fBl (p.B x) fun bl=>k env nx bl p.ms
theorem au.go_eq (p:au) (nx:Nat) (x:p.T) (k:Env->Nat->av->List Nat->R):p.go nx x k=k (p.E x) nx (p.B x) p.ms:=by
 unfold au.go;rw [rW,Cg]
def aU.go (kz : Kz R) (base : Nat) : (xs : aU) → xs.T → Kc R → R
 |[],x,_=>nomatch x
 |[(e,p)],x,k=>fN (base+p.gW.length) fun nx=>p.go nx x (k e)
 |(e,p)::q::r,x,k=>kz.sm x (fun x=>fN (base+p.gW.length) fun nx=>p.go nx x (k e)) fun y=>aU.go kz base (q::r) y k
end
theorem aU.AL {X:Type} {base:Nat}:∀{xs:aU} {x:xs.T} {k:Kc (Option X)} {r:X},xs.go (iL X) base x k=some r ->
  k (xs.st base x).1 (xs.st base x).2.env (xs.st base x).2.H.next (xs.st base x).2.H.bl (xs.st base x).2.ms=some r
 |[],x,_,_,_=>nomatch x
 |[(e,p)],x,k,r,h=>by
  simp only [aU.go,gr] at h
  exact (au.go_eq p _ (show p.T from x) (k e)).symm.trans h
 |(e,p)::q::s,x,k,r,h=>by
  simp only [aU.go,iL] at h
  cases x with
  |inl x =>
   simp only [gr] at h
   rw [au.go_eq] at h
   exact h
  |inr y=>exact aU.AL (xs:=q::s) (x:=y) h
def aU.rd {R : Type} (no : R) (pre : List Nat) (base : Nat) : (xs : aU) → Ex → Env → Nat → av → List Nat → (xs.T → R) → R
 |[],_,_,_,_,_,_=>no
 |[(e',p)],e,env,nx,bl,ms,k=>match Hg e' e with
  |true=>p.rd no pre base env nx bl ms k
  |false=>no
 |(e',p)::q::r,e,env,nx,bl,ms,k=>match Hg e' e with
  |true=>p.rd (aU.rd no pre base (q::r) e env nx bl ms fun x=>k (.inr x)) pre base env nx bl ms fun x=>k (.inl x)
  |false=>aU.rd no pre base (q::r) e env nx bl ms fun x=>k (.inr x)
theorem aU.dM {X:Type} {base:Nat} {env:Env} {nx:Nat} {bl:av} {ms:List Nat}:∀{xs:aU} {e:Ex} {k:xs.T->Option X} {r:X},xs.rd none (List.range base) base e env nx bl ms k=some r ->
  ∃x π,k x=some r/\e=(xs.st base x).1/\jw base π ⟨env,⟨nx,bl⟩,ms⟩ (xs.st base x).2
 |[],_,_,_,h=>by simp [aU.rd] at h
 |[(e',p)],e,k,r,h=>by
  simp only [aU.rd] at h
  split at h<;>try (cases h;done)
  rename_i he
  obtain ⟨x,π,h1,h2⟩:=au.dM h
  exact ⟨x,π,h1,(Jr he).symm,h2⟩
 |(e',p)::q::s,e,k,r,h=>by
  simp only [aU.rd] at h
  split at h
  ·rename_i he
   rcases au.Jq h with h|⟨x,π,h1,h2⟩
   ·obtain ⟨x, π, h1, h2, h3⟩ := aU.dM (xs := q :: s) h
    exact ⟨.inr x,π,h1,h2,h3⟩
   ·exact ⟨.inl x,π,h1,(Jr he).symm,h2⟩
  ·obtain ⟨x, π, h1, h2, h3⟩ := aU.dM (xs := q :: s) h
   exact ⟨.inr x,π,h1,h2,h3⟩
def Po {R:Type} (no:R) (pre:List Nat) (base:Nat) (p:au) (xs:aU) (inl:p.T->R) (inr:xs.T->R):Kc R:=fun e env nx bl ms=>match e with
 | .normal=>p.rd no pre base env nx bl ms inl
 | .exit i=>xs.rd no pre base (.exit i) env nx bl ms inr
 | .ret=>xs.rd no pre base .ret env nx bl ms inr
def oF {P:Program} {N:Nat} {out:Option Nat} {base:Nat} {R:Type} (kz:Kz R) (cx:Cx) (ar:Ar) (pre:List Nat) (p:au) (xs:aU) (body:D P N out base) (inl:p.T->R) (inr:xs.T->R) (x:p.T):R :=
 fN (base+p.gW.length) fun nx=>p.go nx x fun env nx bl ms=>kE kz cx ar body env nx bl ms (Po kz.no pre base p xs inl inr)
section
variable {P:Program} {N:Nat} {out:Option Nat} {base:Nat}
noncomputable def aV (mixed : P.follows .mixedOrders = true) (cx : Cx) (gF : cx.Ok P) (pre : List Nat) (hpre : pre = List.range base) (p : au) (xs : aU) (hxs : xs.all (fun p => !Hg p.1 .normal) = true) (body : D P N out base)
  (step:p.T->Option (p.T ⊕ xs.T)) (hstep:∀x,oF (iL (p.T ⊕ xs.T)) cx dZ pre p xs body (fun y=>some (.inl y)) (fun b=>some (.inr b)) x=step x):bu P N out base where
 c:=body.er
 run kz env nx bl ms K:=p.rd kz.no pre base env nx bl ms fun x=>kz.bd (iter step x) fun b=>xs.go kz base b K
 ok:=by
  intro X env nx bl ms K r h Q hQ
  subst hpre
  obtain ⟨x,π,h1,h2⟩:=au.dM h
  obtain ⟨b,h3,h4⟩:=pJ h1
  have h5:=aU.AL h4
  refine Ll (iP mixed) (I:=p.st base) (X:=xs.st base) (step:=step) (fun x r hx=>?_) h3 h2 (hQ _ _ _ _ _ h5)
  rw [<-hstep x] at hx
  unfold oF at hx
  rw [gr,au.go_eq] at hx
  refine lD gF hx fun e env nx bl ms hk=>?_
  unfold Po at hk
  cases e with
  |normal =>
   obtain ⟨y,π,q1,q2⟩:=au.dM hk
   cases q1
   exact ⟨rfl,π,q2⟩
  |exit i =>
   obtain ⟨y,π,q1,q2,q3⟩:=aU.dM hk
   cases q1
   exact ⟨by simp,q2,π,q3⟩
  |ret =>
   obtain ⟨y,π,q1,q2,q3⟩:=aU.dM hk
   cases q1
   exact ⟨by simp,q2,π,q3⟩
def qH : List SP → Type → Type
 |[],A=>A
 |p::r,A=>p.T (qH r A)
def Ec {A : Type} : (ps : List SP) → qH ps A → List V
 |[],_=>[]
 |p::r,x=>p.v x::Ec r (p.r x)
def Z7 {A : Type} : (ps : List SP) → qH ps A → A
 |[],x=>x
 |p::r,x=>Z7 r (p.r x)
def AN {A : Type} (π : List Nat) : (ps : List SP) → List V → Option (A → qH ps A)
 |[],[]=>some fun a=>a
 |p::r,v::vs=>match SP.rd (A:=qH r A) π p v with
  |some f=>match AN π r vs with
   |some g=>some fun a=>f (g a)
   |none=>none
  |none=>none
 |_,_=>none
theorem Ed {π : List Nat} {A : Type} : ∀ {ps : List SP} {vs : List V} {f : A → qH ps A}, AN π ps vs = some f → ∀ a, Di π (Ec ps (f a)) vs ∧ Z7 ps (f a) = a
 |[],[],f,h,a=>by cases h;exact ⟨.nil,rfl⟩
 |c::r,v::vs,f,h,a=>by
  simp only [AN] at h
  split at h<;>try (cases h;done)
  rename_i f1 h1
  split at h<;>cases h
  rename_i g h2
  obtain ⟨q1,q2⟩:=SP.rT h1 (g a)
  obtain ⟨q3,q4⟩:=Ed h2 a
  simp only [Ec,Z7,q2]
  exact ⟨.cons q1 q3,q4⟩
 |[],_::_,f,h,a=>by simp [AN] at h
 |_::_,[],f,h,a=>by simp [AN] at h
structure Ct where
 f:Nat
 ps:List SP
 res:SP
 fn:qH ps Unit->Option (res.T Unit)
def Ct.Ok (P:Program) (ct:Ct):Prop:=∀x y,ct.fn x=some y->j9 P ct.f (Ec ct.ps x) (ct.res.v y)
theorem Ee {π:List Nat}:Mu.j4 (fun _=>none) π=fun _=>none:=by
 funext i;simp only [Mu.j4];cases π[i]?<;>rfl
theorem Ch {f:Nat} {vs vs':List V} {v:V} {nx:Nat} {bl:av} (h:j9 P f vs' v) (hm:dU (fin dZ bl 8) vs=some vs') (hs:Ds v=true) {Q:V->aL->Prop} (hQ:Q v ⟨nx,bl⟩):iK P f vs ⟨nx,bl⟩ Q:=by
 refine ⟨h.1,fun Y ι μ w as hI hl=>?_⟩
 refine (h.2 (ι.all Y.own w) w as (hI.dH.mono (ax.BO hI.rd)) (fun b o x hx=>?_) (jm (fun v r x h hr=>vN (fun _ _ _=>rfl) hI h hr) hm hl)).mono ?_
 ·exact ax.GM hI.rd hx
 ·rintro e w' ⟨x, ι', rfl, _, _, _, jQ, GJ⟩
  exact ⟨x,ι,μ,v,_,rfl,ax.le_refl _,Mu.le_refl _,hI.called (ax.le_refl _) (fun _ _ _=>rfl) (dB.kept (fun b o x hx=>hI.rd b o x hx) jQ) jQ,DW hs GJ,hQ⟩
def Ef {R : Type} (kz : Kz R) (f : Nat) (vs : List V) (K : V → R) : List Ct → R
 |[]=>kz.no
 |ct::r=>match Nat.beq ct.f f with
  |true=>match AN (A:=Unit) [] ct.ps vs with
   |some g=>kz.bd (ct.fn (g ())) fun y=>ct.res.kv kz y K
   |none=>Ef kz f vs K r
  |false=>Ef kz f vs K r
def Js (P : Program) : List Ct → Prop
 |[]=>True
 |c::r=>c.Ok P/\Js P r
theorem pM {X : Type} {f : Nat} {vs : List V} {K : V → Option X} {r : X} : ∀ {vS : List Ct}, Js P vS → Ef (iL X) f vs K vS = some r → ∃ v, j9 P f vs v ∧ K v = some r
 |[],_,hk=>by cases hk
 |ct::vS,h,hk=>by
  simp only [Ef] at hk
  split at hk
  ·rename_i hf
   have e:=Nat.eq_of_beq_eq_true hf
   subst e
   split at hk
   ·rename_i g hg
    obtain ⟨y,hy,hk⟩:=qE hk
    rw [SP.aen] at hk
    obtain ⟨q1,_⟩:=Ed hg ()
    refine ⟨_,?_,hk⟩
    have hp:=h.1 _ _ hy
    exact ⟨hp.1, fun ι w as hgl hrd hl => hp.2 ι w as hgl hrd (by
     have:=aN.j4 (π:=[]) q1.1 (fun i v u hv hu=>fun {x} hr=>(q1.2 i v u hv hu).rel hr) hl
     rwa [Ee] at this)⟩
   ·exact pM h.2 hk
  ·exact pM h.2 hk
theorem LA {f:Nat} {vs vs':List V} {v:V} {nx:Nat} {bl bS:av} (h:j9 P f vs' v) (hm:dU (fin dZ bl 8) vs=some vs') (hb:uJ (jG bl vs) bl=some bS) {Q:V->aL->Prop} (hQ:Q v ⟨nx,bS⟩):iK P f vs ⟨nx,bl⟩ Q:=by
 refine ⟨h.1,fun Y ι μ w as hI hl=>?_⟩
 obtain ⟨ι',h1,h2,h3⟩:=vP hI hb
 have hl':aN ι' (fun _=>none) vs' as.toList:=by
  have key:∀{vs vs':List V} {xs:List Value},dU (fin dZ bl 8) vs=some vs'->(∀id∈jG bl vs,zI ι' μ id (az id bl))->aN ι μ vs xs->aN ι' (fun _=>none) vs' xs:=by
   intro vs
   induction vs with
   |nil=>intro vs' xs hm _ hl;cases hm;rw [hl.of_nil];exact .nil
   |cons v r ih =>
    intro vs' xs hm hfz hl
    unfold dU at hm
    split at hm<;>try (cases hm;done)
    rename_i u hu
    split at hm<;>cases hm
    rename_i us I7
    obtain ⟨x,xs',rfl,r1,r2⟩:=hl.bN
    simp only [jG,List.flatMap_cons,List.mem_append] at hfz
    exact .cons (BS hu (fun id hid=>hfz id (.inl hid)) (r1.mono h1 (Mu.le_refl _))) (ih I7 (fun id hid=>hfz id (.inr hid)) r2)
  exact key hm h3 hl
 refine (h.2 ι' w as h2.dH (fun b o x hx=>h2.rd b o x hx) hl').mono ?_
 rintro e w' ⟨x,ι2,rfl,hi,hib,hrd,jQ,GJ⟩
 exact ⟨x,ι2,μ,v,_,rfl,ax.le_trans h1 hi,Mu.le_refl _,h2.called hi hib hrd jQ,GJ.mono (ax.le_refl _) (fun _ _ h=>by cases h),hQ⟩
def Z8 {R:Type} (vS:List Ct) (kz:Kz R) (f:Nat) (vs:List V) (nx:Nat) (bl:av) (K:V->Nat->av->R):R:=match vs.all (dS 8) with
 |true=>Ef kz f vs (fun v=>K v nx bl) vS
 |false=>match dU (fin dZ bl 8) vs with
  |some vs'=>Ef kz f vs' (fun v=>match Ds v with
   |true=>K v nx bl
   |false=>match uJ (jG bl vs) bl with
    |some bS=>fBl bS fun bS=>K v nx bS
    |none=>kz.no) vS
  |none=>kz.no
def mkCx (vS:List Ct):Cx where
 pc kz f vs K:=Ef kz f vs K vS
 ca kz f vs nx bl K:=Z8 vS kz f vs nx bl K
 rd kz _ _ _ _ _:=kz.no
theorem T7 {vS:List Ct} (h:Js P vS):(mkCx vS).Ok P where
 XG hk:=pM h hk
 TX:=by
  intro X f vs nx bl K r hk Q hQ
  simp only [mkCx,Z8] at hk
  split at hk
  ·rename_i hd
   obtain ⟨v,hp,hk⟩:=pM h hk
   exact GQ hp hd (hQ _ _ _ hk)
  ·split at hk <;> try (cases hk; done)
   rename_i vs' hm
   obtain ⟨v,hp,hk⟩:=pM h hk
   split at hk
   ·rename_i hs
    exact Ch hp hm hs (hQ _ _ _ hk)
   ·split at hk <;> try (cases hk; done)
    rename_i bS hb
    rw [Cg] at hk
    exact LA hp hm hb (hQ _ _ _ hk)
 ZZ hk:=by cases hk
def Z9 {R:Type} (kz:Kz R) (ar:Ar) (rs:List RV) (tys:List (Option Ty)) (res:SP) (k:res.T Unit->R):Kc R:=fun e env nx bl ms=>match e with
 | .exit _=>kz.no
 | .normal=>go env nx bl ms
 | .ret=>go env nx bl ms
where go (env:Env) (nx:Nat) (bl:av) (ms:List Nat):R:=match eV ms bl with
 |some bl=>match vk ar ⟨env,⟨nx,bl⟩,[]⟩ rs with
  |some vs=>match fin ar bl 8 (uE (cV tys vs)) with
   |some v=>match SP.rd (A:=Unit) [] res v with
    |some f=>k (f ())
    |none=>kz.no
   |none=>kz.no
  |none=>kz.no
 |none=>kz.no
def fnE {R:Type} (kz:Kz R) (cx:Cx) (ar:Ar) (rs:List RV) (tys:List (Option Ty)) (ps:List SP) (res:SP) (body:D P N none 0) (k:res.T Unit->R) (x:qH ps Unit):R :=
 T5 (Ec ps x) fun vs=>kE kz cx ar body (args 0 vs) 0 [] [] (Z9 kz ar rs tys res k)
theorem LB {f : Nat} {func : Func} {fn : Fn} (hf : P.funcs[f]? = some func) (htr : cn P func = some fn) (cH : Enters P f) (ig : nj P fn.N none 0) {vs : List V} {r : V} (hlen : vs.length ≤ fn.np)
  (h:sX (gL P fn.N none 0) fn.body ⟨args 0 vs,⟨0,[]⟩,[]⟩ (K5 (gL P fn.N none 0) fn.res fn.tys (fun r'=>EV [] r r'))):j9 P f vs r:=by
 refine ⟨cH,fun ι w as hgl hrd hr=>?_⟩
 let Y:Ctx:=⟨w,ι,fun _=>none,none,fun _=>False,[]⟩
 have hI:Inv P Y ι (fun _=>none) ⟨0,[]⟩ w:=⟨IY.refl _ _,ax.le_refl _,fun _ _ _ _=>rfl,hrd,fun id L h=>h,fun _ _=>rfl,fun id B h=>by simp [az] at h,fun id id' B B' L L' h=>by simp [az] at h,fun id B h=>by simp [az] at h,hgl⟩
 have hres:NV P func.results.toList=some fn.res:=by
  unfold cn at htr
  split at htr<;>try (cases htr;done)
  split at htr<;>try (cases htr;done)
  rename_i SH
  split at htr<;>try (cases htr;done)
  cases htr;exact SH
 refine Jb (Y:=Y) hf htr ig hlen h rfl rfl (fun _ _=>rfl) hI hr fun Y1 ι' μ' S' a' w' e' hY hR hq=>?_
 have key:K5.qv (gL P fn.N none 0) fn.res fn.tys (fun r'=>EV [] r r') S'->LeavesInM Fence.wide 0 P func a'.tmps (fun e w'=>∃v ι',e = .returned v/\ι.le ι'/\(∀b o,b<w.heap.size->ι' b o=ι b o)/\dB ι' w' /\
   Dw w w'/\Rel ι' (fun _=>none) r v) a'.defers .returning w':=by
  intro hs
  unfold K5.qv at hs
  split at hs<;>try (exact hs.elim)
  rename_i bl qW
  split at hs<;>try (exact hs.elim)
  rename_i vs' hvs
  split at hs<;>try (exact hs.elim)
  rename_i r' zR
  refine tJ hres (n:=S'.H.next) (bl:=S'.H.bl) hY rfl hR.inv hR.env hR.ms qW hvs fun x w2 n9 hx=>?_
  refine ⟨x,ι'.all Y.own w2,rfl,ax.le_trans n9.i0 (ax.BO n9.rd),fun b o hb=>?_,fun b o y hy=>?_,n9.below.to (fun _ h=>h),?_⟩
  ·rw [ax.Tx (fun h=>by rcases h with h|h;exact absurd hb (Nat.not_lt.2 h);exact h)];exact n9.iB b o hb (fun h=>h)
  ·exact ax.GM n9.rd hy
  ·have := hs.rel (vN (Y := Y) (ar := gL P fn.N none 0) (fun _ _ _ => rfl) n9 zR (hx fn.tys))
   rwa [Ee] at this
 cases e' with
 |exit id=>exact hq.elim
 |normal=>exact ⟨.inl rfl,key hq⟩
 |ret=>exact ⟨.inr rfl,key hq⟩
theorem cA (mixed : P.follows .mixedOrders = true) {cx : Cx} (gF : cx.Ok P) {func : Func} {fn : Fn} {ct : Ct} (hf : P.funcs[ct.f]? = some func) (htr : cn P func = some fn) (cH : Enters P ct.f)
  (body:D P fn.N none 0) (hbody:body.er=fn.body) (hnp:Nat.ble ct.ps.length fn.np=true) (hfn:∀x,fnE (iL (ct.res.T Unit)) cx dZ fn.res fn.tys ct.ps ct.res body some x=ct.fn x):ct.Ok P:=by
 intro x y hxy
 rw [<-hfn x] at hxy
 unfold fnE at hxy
 rw [nA] at hxy
 have hlen:∀(ps:List SP) (x:qH ps Unit),(Ec ps x).length=ps.length:=by
  intro ps
  induction ps with
  |nil=>intro x;rfl
  |cons p r ih=>intro x;simp [Ec,ih]
 have hwp:=lD (Q:=K5 (gL P fn.N none 0) fn.res fn.tys (fun r=>EV [] (ct.res.v y) r)) gF hxy (fun e env nx bl ms hk=>by
  have key:Z9.go (iL (ct.res.T Unit)) dZ fn.res fn.tys ct.res some env nx bl ms=some y->K5.qv (gL P fn.N none 0) fn.res fn.tys (fun r=>EV [] (ct.res.v y) r) ⟨env,⟨nx,bl⟩,ms⟩:=by
   intro hg
   unfold Z9.go at hg
   unfold K5.qv
   split at hg<;>try (cases hg;done)
   rename_i bS h1
   rw [h1]
   simp only
   split at hg<;>try (cases hg;done)
   rename_i vs h2
   rw [h2]
   simp only
   have e:fin (gL P fn.N none 0) bS 8 (uE (cV fn.tys vs))=fin dZ bS 8 (uE (cV fn.tys vs)):=by unfold gL;exact xG
   rw [e]
   split at hg<;>try (cases hg;done)
   rename_i v h3
   rw [h3]
   simp only
   split at hg<;>try (cases hg;done)
   rename_i f h4
   cases hg
   exact (SP.rT h4 ()).1
  cases e with
  |exit i=>cases hk
  |normal=>exact key hk
  |ret=>exact key hk)
 rw [hbody] at hwp
 exact LB hf htr cH (iP mixed) (by rw [hlen];exact Nat.le_of_ble_eq_true hnp) hwp
end
end Go.AM
end
