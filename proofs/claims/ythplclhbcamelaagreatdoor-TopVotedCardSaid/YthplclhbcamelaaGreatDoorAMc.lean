/- A region whose order is drawn: whatever the order, it ends as the canonical one. Calls in the caller's heap, loops unrolled, loops over functions. A call of yield: a round of the loop. The small machine, run. The way in: what an argument reads as is data of the machine. States that stand for as much, in general: names may change, nil slices may stand for empty lists, blocks that nobody reads are forgotten. The small machine's code as a function: tests, needs and calls stay open, all else is reckoned. Patterns: what stands in slots and blocks, with places for data; read out of a state, and laid again. Code that is the same, as a test. -/
import Derived.Test.YthplclhbcamelaaGreatDoorAMb
import Derived.OrdersIn
import Derived.ProofKit
import Derived.OpenShut
import Derived.Maps.RangeRun
set_option linter.unusedSectionVars false
set_option linter.unusedVariables false
set_option linter.unusedSimpArgs false
section
namespace Go.AM
section
variable {P:Program} {N:Nat} {Y:Ctx} {ι ι':aB} {μ μ':Mu} {H:aO} {w w':World} {out:Option Nat} {base:Nat} {ops:Array Oper}
def mw (acc:Array Nat) (o:Oper):Array Nat:=acc.push (o.after.foldl (fun s e=>if Region.binds .any e then s ||| 2 ^ e.on ||| acc.getD e.on 0 else s) 0)
theorem zM:Region.before ops=ops.toList.foldl mw #[]:=by
 unfold Region.before
 rw [<-Array.foldl_toList];rfl
theorem wX {acc:Array Nat} {j:Nat}:∀{l:List Edge} {s:Nat},(l.foldl (fun s e=>if Region.binds .any e then s ||| 2 ^ e.on ||| acc.getD e.on 0 else s) s).testBit j=true ->
  s.testBit j=true\/∃e∈l,Region.binds .any e=true/\(j=e.on\/(acc.getD e.on 0).testBit j=true)
 |[],s,h=>.inl h
 |e::r,s,h=>by
  simp only [List.foldl_cons] at h
  rcases wX h with h1|⟨e',he',h2⟩
  ·split at h1
   ·rename_i hb
    simp only [Nat.testBit_or,Bool.or_eq_true,Nat.testBit_two_pow,decide_eq_true_eq] at h1
    rcases h1 with (h1|h1)|h1
    ·exact .inl h1
    ·exact .inr ⟨e,List.mem_cons_self ..,hb,.inl h1.symm⟩
    ·exact .inr ⟨e,List.mem_cons_self ..,hb,.inr h1⟩
   ·exact .inl h1
  ·exact .inr ⟨e',List.mem_cons_of_mem _ he',h2⟩
theorem wY : ∀ (l : List Oper) (acc : Array Nat), (l.foldl mw acc).size = acc.size + l.length
 |[],acc=>by simp
 |o::r,acc=>by simp only [List.foldl_cons,wY r,mw,Array.size_push,List.length_cons];omega
theorem wZ {j:Nat}:∀(l:List Oper) (acc:Array Nat) (pre:List Oper),acc.size=pre.length ->
  (∀i,(acc.getD i 0).testBit j=true->∃o,pre[i]?=some o/\∃e∈o.after,Region.binds .any e=true/\(j=e.on\/(acc.getD e.on 0).testBit j=true)) ->
  ∀i,((l.foldl mw acc).getD i 0).testBit j=true->∃o,(pre++l)[i]?=some o/\∃e∈o.after,Region.binds .any e=true/\(j=e.on\/((l.foldl mw acc).getD e.on 0).testBit j=true)
 |[],acc,pre,hs,h,i,hi=>by simpa using h i hi
 |o::r,acc,pre,hs,h,i,hi=>by
  have:=wZ r (mw acc o) (pre++[o]) (by simp [mw,hs]) (fun i hi=>?_) i hi
  ·simpa using this
  ·have keep:∀k,(acc.getD k 0).testBit j=true->((mw acc o).getD k 0).testBit j=true:=fun k hk=>by
    have hlt:k<acc.size:=by
     rcases Nat.lt_or_ge k acc.size with h|h
     ·exact h
     ·simp [Array.getD,Nat.not_lt.2 h] at hk
    simpa [mw,Array.getD,hlt,Array.getElem_push,Nat.lt_succ_of_lt hlt] using (by simpa [Array.getD,hlt] using hk:acc[k].testBit j=true)
   by_cases hlt:i<acc.size
   ·have hi':(acc.getD i 0).testBit j=true:=by
     simpa [mw,Array.getD,hlt,Array.getElem_push,Nat.lt_succ_of_lt hlt] using hi
    obtain ⟨o',ho',e,he,hb,hj⟩:=h i hi'
    exact ⟨o',by rw [List.getElem?_append_left (List.getElem?_eq_some_iff.1 ho').1];exact ho',e,he,hb,hj.imp id (keep _)⟩
   ·by_cases heq : i = acc.size
    ·subst heq
     have hi':(o.after.foldl (fun s e=>if Region.binds .any e then s ||| 2 ^ e.on ||| acc.getD e.on 0 else s) 0).testBit j=true:=by
      simpa [mw,Array.getD,Array.getElem_push] using hi
     rw [<-Array.foldl_toList] at hi'
     rcases wX hi' with h1|⟨e,he,hb,hj⟩
     ·simp at h1
     ·exact ⟨o,by rw [hs];simp,e,by simpa using he,hb,hj.imp id (keep _)⟩
    ·have : ¬ i < (mw acc o).size := by simp [mw]; omega
     simp [Array.getD,this] at hi
theorem uQ {i j:Nat} (h:((Region.before ops).getD i 0).testBit j=true) :
  ∃o,ops[i]?=some o/\∃e∈o.after,Region.binds .any e=true/\(j=e.on\/((Region.before ops).getD e.on 0).testBit j=true):=by
 rw [zM] at h ⊢
 obtain ⟨o,ho,h⟩:=wZ (j:=j) ops.toList #[] [] rfl (fun i hi=>by simp at hi) i h
 exact ⟨o,by simpa using ho,h⟩
theorem oe:(Region.before ops).size=ops.size:=by rw [zM,wY];simp
theorem o5 {i j:Nat}:j∈(cn ops).getD i []↔j<ops.size/\((Region.before ops).getD i 0).testBit j=true:=by
 unfold cn
 simp only [List.getD,List.getElem?_map]
 by_cases hi:i<ops.size
 ·have h:(Region.before ops).toList[i]?=some ((Region.before ops).getD i 0):=by
   have:i<(Region.before ops).size:=by rw [oe];exact hi
   simp [Array.getD,this]
  simp [h,List.mem_filter,List.mem_range]
 ·have h1 : (Region.before ops).toList[i]? = none := List.getElem?_eq_none (by simp [oe]; omega)
  have h2:(Region.before ops).getD i 0=0:=by simp [Array.getD,oe,hi]
  simp [h1,h2]
theorem kB : ∀ {os : List Oper} {is : List dD}, ew P N ops os = some is → is.length = os.length ∧ ∀ (k : Nat) o it, os[k]? = some o → is[k]? = some it → rB P N ops o = some it
 |[],is,h=>by cases h;exact ⟨rfl,fun k o it h=>by simp at h⟩
 |o::os,is,h=>by
  unfold ew at h
  split at h<;>try (cases h;done)
  rename_i it its hit N6
  cases h
  obtain ⟨h1,h2⟩:=kB N6
  refine ⟨by simp [h1],fun k o' it' ho hi=>?_⟩
  cases k with
  |zero=>simp at ho hi;subst ho;subst hi;exact hit
  |succ k=>exact h2 k o' it' (by simpa using ho) (by simpa using hi)
theorem Inv.KL (h:Inv P Y ι μ H w) {n:Nat} (hn:H.next<=n):Inv P Y ι μ ⟨n,H.bl⟩ w :=
 ⟨h.below,h.i0,h.iB,h.rd,h.m0,fun id hid=>h.nx id (Nat.le_trans hn hid),h.live,h.inj,fun id B hB=>Nat.lt_of_lt_of_le (h.lt id B hB) hn,h.gl⟩
theorem Inv.eqB (h:Inv P Y ι μ H w) {bl:ai} (he:Oa bl H.bl):Inv P Y ι μ ⟨H.next,bl⟩ w :=
 ⟨h.below,h.i0,h.iB,h.rd,h.m0,h.nx,fun id B hB=>h.live id B (by rw [<-he id];exact hB),fun id id' B B' L L' hb hb'=>h.inj id id' B B' L L' (by rw [<-he id];exact hb) (by rw [<-he id'];exact hb'),
  fun id B hB=>h.lt id B (by rw [<-he id];exact hB),h.gl⟩
theorem fT.Od {B:Nat->Prop} {id:Nat} {b:jE} (h:fT P B ι μ id w b) (hw:w'.heap=w.heap):fT P B ι μ id w' b:=by
 cases b with
 |cells cs fz=>obtain ⟨L,vs,hM,h⟩:=h;exact ⟨L,vs,⟨hM.mu,hM.old,by rw [hw];exact hM.row,hM.fits,hM.one,hM.CC,hM.qk⟩,h⟩
 |arr t xs fz =>
  rcases h with h|⟨L,vs,hM,h⟩
  ·exact .inl h
  ·exact .inr ⟨L,vs,⟨hM.mu,hM.old,by rw [hw];exact hM.row,hM.fits,hM.one,hM.CC,hM.qk⟩,h⟩
 |loop st j d env ps as bd N=>unfold fT at h ⊢;rw [hw];exact h
 |fC=>unfold fT at h ⊢;rw [hw];exact h
 |map kt kg vt vg es=>unfold fT at h ⊢;rw [hw];exact h
 |j8 t xs i p v =>
  obtain ⟨L,us,vs,c,hM,h⟩:=h
  exact ⟨L,us,vs,c,⟨hM.mu,hM.old,by rw [hw];exact hM.row,hM.fits,hM.one,hM.CC,hM.qk⟩,h⟩
theorem Inv.drawn (h:Inv P Y ι μ H w):Inv P Y ι μ H { w with drawn:=w.drawn+1 } :=
 ⟨⟨h.below.os,h.below.tape,h.below.output,h.below.size,h.below.block,Nat.le_succ_of_le h.below.dr,h.below.maps⟩,h.i0,h.iB,h.rd,h.m0,h.nx,fun id B hB=>(h.live id B hB).Od rfl,h.inj,h.lt,h.gl⟩
theorem Inv.called (hI:Inv P Y ι μ H w) (hi:ι.le ι') (KG:∀b o,b<w.heap.size->ι' b o=ι b o) (hrd:gH ι' w') (jT:Dw w w'):Inv P Y ι' μ H w':=by
 have hsz:=hI.below.size
 refine ⟨hI.below.then jT,aB.le_trans hI.i0 hi,fun b o hb hx=>by rw [KG b o (by omega)];exact hI.iB b o hb hx,hrd,hI.m0,hI.nx,fun id B hB=>?_,hI.inj,hI.lt,hI.gl⟩
 have k8:=hI.live id B hB
 refine k8.mono hi (Mu.le_refl _) (fun h=>h) (fun L hL=>jT.b.block _ (k8.loc hL).2) (fun L hL ho o=>?_)
 rw [KG _ _ (k8.loc hL).2];exact ho o
theorem gH.kept (h:gH ι w) (jT:Dw w w'):gH ι w':=fun b o x hx=>by
 have h1:=h b o x hx
 have hlt:b<w.heap.size:=by
  rcases Nat.lt_or_ge b w.heap.size with h'|h'
  ·exact h'
  ·simp [World.cell?,Array.getElem?_eq_none h'] at h1
 unfold World.cell? at h1 ⊢
 simp only at h1 ⊢
 rw [jT.b.block b hlt];exact h1
theorem zN {v:V} {x:Value} (h:Hy v=true) (hr:Rel ι μ v x):Rel ι' μ' v x:=by
 cases hr<;>simp only [Hy] at h<;>try (cases h;done)
 case tf=>exact .tf _
 case bool=>exact .bool _
 case int=>exact .int _ _
 case str=>exact .str _
theorem KM {v:V} {x:Value} (h:NH v=true) (hr:Rel ι μ v x):Rel ι' μ' v x:=by
 cases hr<;>simp only [NH] at h<;>try (cases h;done)
 case tf=>exact .tf _
 case bool=>exact .bool _
 case int=>exact .int _ _
 case str=>exact .str _
 case agg cs xs h1 h2 h3=>exact .agg cs xs h1 (fun i v x hv hx=>zN (List.all_eq_true.1 h _ (List.mem_of_getElem? hv)) (h2 i v x hv hx)) h3
theorem Di {v:V} {x:Value} (h:A2 v=true) (hr:Rel ι μ v x):Rel ι' μ' v x:=by
 cases hr<;>simp only [A2] at h<;>try (cases h;done)
 case tf=>exact .tf _
 case bool=>exact .bool _
 case int=>exact .int _ _
 case str=>exact .str _
 case agg cs xs h1 h2 h3=>exact .agg cs xs h1 (fun i v x hv hx=>zN (List.all_eq_true.1 h _ (List.mem_of_getElem? hv)) (h2 i v x hv hx)) h3
 case cG cs xs h1 h2=>exact .cG cs xs h1 fun i v x hv hx=>KM (List.all_eq_true.1 h _ (List.mem_of_getElem? hv)) (h2 i v x hv hx)
theorem Bk {g : V → Option V} : ∀ {vs : List V}, (∀ v ∈ vs, g v = some v) → cL g vs = some vs
 |[],_=>rfl
 |v::r,h=>by simp only [cL,h v (List.mem_cons_self ..),Bk (vs:=r) (fun v hv=>h v (List.mem_cons_of_mem _ hv))]
theorem w5 {ar : Ar} {bl : ai} : ∀ {n : Nat} {v : V}, cJ n v = true → fin ar bl n v = some v
 |0,v,h=>by cases h
 |n+1,v,h=>by
  have all:∀{cs:List V},cs.all (cJ n)=true->cL (fin ar bl n) cs=some cs:=fun h=>Bk fun v hv=>w5 (List.all_eq_true.1 h v hv)
  cases v<;>simp only [cJ] at h<;>try (cases h;done)
  case av cs=>simp only [fin,h,if_true]
  case fn f a b=>simp only [Bool.and_eq_true] at h;simp only [fin,all h.1,all h.2]
  case agg cs=>simp only [fin,all h]
  case cG cs=>simp only [fin,all h]
  case bU t v=>simp only [fin,w5 h]
  all_goals rfl
theorem o6 {v0 v:V} {x:Value} (h:vOk v0 v) (hr:Rel ι μ v0 x):Rel ι μ v x:=by
 rcases h with rfl|⟨c,rfl,rfl⟩
 ·exact hr
 ·cases hr;exact .tf _
theorem jZ {S:List (Nat×V)} {a:Act} (he:fS ι μ S a.tmps) {o:Oper} {g:Option (Nat×Bool)} (hg:trG ops o.guard=some g) {c:Bool} (h:CB g S=some c):Region.wanted o (yielded ops a.tmps)=c:=by
 cases N5:o.guard with
 |none=>rw [N5] at hg;cases hg;cases h;simp [Region.wanted,N5]
 |some jb =>
  obtain ⟨j,b⟩:=jb
  rw [N5] at hg
  simp only [trG] at hg
  split at hg<;>try (cases hg;done)
  rename_i oj hoj
  split at hg<;>try (cases hg;done)
  rename_i d hdj
  cases hg
  simp only [CB] at h
  split at h<;>try (cases h;done)
  rotate_left
  ·rename_i vs hc
   cases h
   simp only [Region.wanted,N5,uJ he hoj hdj hc]
   rfl
  rename_i c' hc
  simp only [Region.wanted,N5,wG he hoj hdj (.inl hc)]
  revert h
  cases c'<;>cases b<;>intro h<;>cases h<;>rfl
theorem S8 {b n : Nat} {t : TR} {env : List (Nat × V)} {bl : ai} {ms : List Nat} {a : Act} (hn : t.k < n) {o : Oper} (ho : ops[t.k]? = some o) (hit : rB P N ops o = some t.it)
  (yX:En (cS P N out base) b t env bl) (hR:fG P N Y ι μ ⟨env,⟨b+n,bl⟩,ms⟩ a w) (hfree:μ (b+t.k)=none) {Q:Exit->Act->World->Prop} {K:Act->World->Prop}
  (hK:∀ι' μ' a' w',fG P N Y ι' μ' ⟨t.Dg env,⟨b+n,t.pN bl⟩,ms⟩ a' w'->(∀id,id≠b+t.k->μ' id=μ id)->K a' w'):wpOpIn Y.F 0 P ops Q t.k K a w:=by
 obtain ⟨k,it,ac,rd⟩:=t
 simp only at hn ho hit hfree hK
 unfold rB at hit
 split at hit<;>try (cases hit;done)
 rename_i hd
 split at hit<;>try (cases hit;done)
 rename_i g hg
 have hgrd:it.SG=g/\it.dst=o.dst:=by
  split at hit<;>(split at hit<;>try (cases hit;done))<;>(cases hit;exact ⟨rfl,rfl⟩)
 unfold wpOpIn
 simp only [ho]
 unfold En at yX
 cases ac with
 |skip =>
  simp only at yX
  rw [hgrd.1] at yX
  rw [if_neg (by rw [jZ hR.env hg yX.1];simp)]
  refine ⟨fun _ _=>trivial,hK ι μ _ _ ?_ fun _ _=>rfl⟩
  have:=hR.put hd (aB.le_refl _) (Mu.le_refl _) hR.inv Rel.und
  simpa [TR.Dg,TR.pN,hgrd.2,Ac.val,Ac.M9,bV] using this
 |op v u =>
  split at hit
  ·split at hit <;> try (cases hit; done)
   cases hit;exact yX.elim
  ·split at hit <;> try (cases hit; done)
   cases hit;exact yX.elim
  ·rename_i op _ _
   split at hit<;>try (cases hit;done)
   rename_i i hi
   cases hit
   obtain ⟨zC,ob,v0,aj,cX,hv,_⟩:=yX
   have hw:=jZ hR.env hg zC
   rw [if_pos hw]
   have hop:Kv P Y ι μ ⟨b+n,bl⟩ w (b+k) (execOp a.eval o) v0 u i.lays:=by
    rcases aj with aj|aj
    ·exact tu hR.inv hfree hR.env hi aj cX
    ·exact tw hR.inv hfree hR.env hi aj cX
   obtain ⟨ι',μ',x,w',hx,hi',hm,hne,hinv,wE⟩:=hop
   refine ⟨fun _ _=>trivial,?_⟩
   rw [Oper.semAt_eq _ _ _ (o3 hi)]
   have hnx:gD i.lays (b+n) (b+k)=b+n:=by unfold gD;cases i.lays<;>simp<;>omega
   have pM:fG P N Y ι' μ' ⟨AM.put o.dst v env,⟨b+n,bV u bl⟩,ms⟩ (a.put o.dst x) w':=by
    refine hR.put hd hi' hm ?_ (o6 hv wE)
    have:=hinv;simp only [hnx] at this;exact this
   rcases hx with h|⟨h,rfl⟩<;>rw [h]<;>exact hK _ _ _ _ pM hne
 |call v u =>
  obtain ⟨c,args,tys,fo,as,hop,hf,ha,rfl⟩:∃(c:Callee) (args:Array Operand) (tys:Array TypeId) (fo:O) (as:List O),o.op = .call { callee:=c,args:=args,argTypes:=tys }/\jQ P c=some fo/\sY args.toList=some as/\it = .call o.dst g fo as (eH P fo tys):=by
   split at hit
   ·rename_i f args tys hop
    split at hit<;>try (cases hit;done)
    rename_i fo as hf ha
    cases hit
    exact ⟨.value f,args,tys,fo,as,hop,hf,ha,rfl⟩
   ·rename_i r name args tys hop
    split at hit<;>try (cases hit;done)
    rename_i fo as hf ha
    cases hit
    exact ⟨.invoke r name,args,tys,fo,as,hop,hf,ha,rfl⟩
   ·split at hit <;> try (cases hit; done)
    cases hit;exact yX.elim
  obtain ⟨zC,fid,fs,cs,vs',v0,nI,hmo,hp,hs,hv,_⟩:=yX
  have hw:=jZ hR.env hg zC
  rw [if_pos hw]
  refine ⟨fun _ _=>trivial,?_⟩
  rw [Oper.semAt_eq _ _ _ (by rw [hop];simp)]
  have ra:=iz hR.env ha
  obtain ⟨hent,eW⟩:=hp
  obtain ⟨xs,ys,r1,r2,hrun⟩:=rJ hop hf hR.env nI hent
  rw [hrun]
  have rl:aR ι μ (fs++cw (eH P fo tys) (as.map (·.ev env))++cs) (xs++args.map a.eval++ys).toList:=by
   have:=(r1.append (iN (ts:=eH P fo tys) ra)).append r2
   simpa using this
  refine ⟨fun h=>by simp [Ctx.F,Fence.wide] at h,?_⟩
  rcases Bool.eq_false_or_eq_true (A2 v0||(fs++cw (eH P fo tys) (as.map (·.ev env))++cs).all (cJ 8)) with hb|hb
  rotate_left
  ·rw [hb] at hs
   obtain ⟨ι2,i1,i2,i3⟩:=vo hR.inv (Bi hs)
   have hmo':cL (fin bW bl 8) (fs++cw (eH P fo tys) (as.map (·.ev env))++cs)=some vs':=(iT (fun v=>by unfold cS;exact od.symm) _).trans hmo
   refine CallsIn.mono (F:=Y.F) (eW ι2 w _ i2.c8 (fun b o x hx=>i2.rd b o x hx) (S7 i1 hmo' i3 rl)) ?_
   rintro e w' ⟨v',ι',rfl,hi,KG,hrd,jT,wE⟩
   have hinv':Inv P Y ι' μ ⟨b+n,bV u bl⟩ w':=i2.called hi KG hrd jT
   exact hK _ _ _ _ (hR.put hd (aB.le_trans i1 hi) (Mu.le_refl _) hinv' (o6 hv (wE.mono (aB.le_refl _) (fun _ _ h=>by cases h)))) fun _ _=>rfl
  rw [hb] at hs
  cases hs
  replace hs:=hb
  rw [Bool.or_eq_true] at hs
  rcases hs with hs|hs
  ·refine CallsIn.mono (F := Y.F) (eW (ι.all Y.own w) w _ (hR.inv.c8.mono (aB.wM hR.inv.rd)) (fun b o x hx => ?_) (js (fun v r x h hr => rL (fun _ _ _ => rfl) hR.inv h hr) hmo rl)) ?_
   ·exact aB.Bd hR.inv.rd hx
   ·rintro e w' ⟨v', ι', rfl, _, _, _, jT, wE⟩
    have hinv':Inv P Y ι μ ⟨b+n,bl⟩ w':=hR.inv.called (aB.le_refl _) (fun _ _ _=>rfl) (gH.kept (fun b o x hx=>hR.inv.rd b o x hx) jT) jT
    exact hK _ _ _ _ (hR.put hd (aB.le_refl _) (Mu.le_refl _) hinv' (o6 hv (Di hs wE))) fun _ _=>rfl
  ·have hid:cL (fin (cS P N out base) bl 8) (fs++cw (eH P fo tys) (as.map (·.ev env))++cs)=some (fs++cw (eH P fo tys) (as.map (·.ev env))++cs) :=
    Bk fun v hv=>w5 (List.all_eq_true.1 hs v hv)
   rw [hid] at hmo;cases hmo
   have rl':aR ι (fun _=>none) (fs++cw (eH P fo tys) (as.map (·.ev env))++cs) (xs++args.map a.eval++ys).toList :=
    ⟨rl.1,fun i v x hv hx=>eC (List.all_eq_true.1 hs _ (List.mem_of_getElem? hv)) (rl.2 i v x hv hx)⟩
   refine CallsIn.mono (F:=Y.F) (eW ι w _ hR.inv.c8 (fun b o x hx=>hR.inv.rd b o x hx) rl') ?_
   rintro e w' ⟨v',ι',rfl,hi,KG,hrd,jT,wE⟩
   have hinv':Inv P Y ι' μ ⟨b+n,bl⟩ w':=hR.inv.called hi KG hrd jT
   exact hK _ _ _ _ (hR.put hd hi (Mu.le_refl _) hinv' (o6 hv (wE.mono (aB.le_refl _) (fun _ _ h=>by cases h)))) fun _ _=>rfl
 |Si v u =>
  obtain ⟨c,args,tys,fo,as,hop,hf,ha,rfl⟩:∃(c:Callee) (args:Array Operand) (tys:Array TypeId) (fo:O) (as:List O),o.op = .call { callee:=c,args:=args,argTypes:=tys }/\jQ P c=some fo/\sY args.toList=some as/\it = .call o.dst g fo as (eH P fo tys):=by
   split at hit
   ·rename_i f args tys hop
    split at hit<;>try (cases hit;done)
    rename_i fo as hf ha
    cases hit
    exact ⟨.value f,args,tys,fo,as,hop,hf,ha,rfl⟩
   ·rename_i r name args tys hop
    split at hit<;>try (cases hit;done)
    rename_i fo as hf ha
    cases hit
    exact ⟨.invoke r name,args,tys,fo,as,hop,hf,ha,rfl⟩
   ·split at hit <;> try (cases hit; done)
    cases hit;exact yX.elim
  obtain ⟨zC,fid,fs,cs,v0,nI,hp,hv⟩:=yX
  have hw:=jZ hR.env hg zC
  rw [if_pos hw]
  refine ⟨fun _ _=>trivial,?_⟩
  rw [Oper.semAt_eq _ _ _ (by rw [hop];simp)]
  have ra:=iz hR.env ha
  obtain ⟨hent,eW⟩:=hp bl fun _ _=>rfl
  obtain ⟨xs,ys,r1,r2,hrun⟩:=rJ hop hf hR.env nI hent
  rw [hrun]
  have rl:aR ι μ (fs++cw (eH P fo tys) (as.map (·.ev env))++cs) (xs++args.map a.eval++ys).toList:=by
   have:=(r1.append (iN (ts:=eH P fo tys) ra)).append r2
   simpa using this
  refine ⟨fun h=>by simp [Ctx.F,Fence.wide] at h,?_⟩
  refine CallsIn.mono (F:=Y.F) (eW Y ι μ (b+n) w _ (Nat.add_lt_add_left hn b) hfree hR.inv rl) ?_
  rintro e w' ⟨x,ι',μ',rfl,hi,hm,hne,hinv,wE⟩
  exact hK _ _ _ _ (hR.put hd hi hm hinv (o6 hv wE)) hne
structure Good (ops:Array Oper) (m:Nat) (is:List dD) (R:List TR) (listed:Array Bool):Prop where
 sz:listed.size=ops.size
 mem:∀t∈R,t.k<m/\is[t.k]?=some t.it/\listed.getD t.k true=false
 Yv:∀i,i<m->listed.getD i true=false->∃t∈R,t.k=i
 srt:R.Pairwise (fun a b=>a.k<b.k)
 dr:R.Pairwise (DrP (cn ops))
 clo:∀i,listed.getD i false=true->∀j∈(cn ops).getD i [],listed.getD j false=true
 le:m<=ops.size
 tl:∀i,m<=i->i<ops.size->listed.getD i true=false
theorem rQ {l:Array Bool} {i:Nat} (h:l.getD i true=false):l.getD i false=false/\i<l.size:=by
 rcases Nat.lt_or_ge i l.size with h'|h'
 ·simp [h'] at h ⊢;exact h
 ·simp [Array.getElem?_eq_none h'] at h
theorem HR {l:Array Bool} {i:Nat} (h:i<l.size) (d d':Bool):l.getD i d=l.getD i d':=by simp [h]
theorem m8 {cU:List (List Nat)} {is:List dD} (h:jR cU is=true) {i j:Nat} (hij:i<j) {a b:dD} (ha:is[i]?=some a) (hb:is[j]?=some b):i∈cU.getD j []\/iP a b=true:=by
 unfold jR at h
 have hj:j<is.length:=(List.getElem?_eq_some_iff.1 hb).1
 have:=List.all_eq_true.1 (List.all_eq_true.1 h j (List.mem_range.2 hj)) i (List.mem_range.2 hij)
 simp only [ha,hb,Bool.or_eq_true] at this
 rcases this with h|h
 ·exact .inl (by simpa using h)
 ·exact .inr h
theorem jt {m:Nat} {is:List dD} {R:List TR} {listed:Array Bool} (hG:Good ops m is R listed) {i:Nat} (hi:i∈Region.ready .any ops listed):∀j∈(cn ops).getD i [],listed.getD j false=true:=by
 intro j hj
 obtain ⟨_,o,ho,hall⟩:=mem_ready.1 hi
 obtain ⟨hjs,ht⟩:=o5.1 hj
 obtain ⟨o',ho',e,he,hb,h⟩:=uQ ht
 rw [ho] at ho';cases ho'
 have hl:=hall e he hb
 rcases h with rfl|h
 ·exact hl
 ·exact hG.clo _ hl j (o5.2 ⟨hjs,h⟩)
theorem Dj {m:Nat} {is:List dD} {R:List TR} {listed:Array Bool} (hG:Good ops m is R listed) (dj:gN ops=true) {k:Nat} (h1:k<ops.size) (h3:listed.getD k true=false) (Fv:∀i,i<k->listed.getD i true=true):k∈Region.ready .any ops listed:=by
 refine mem_ready.2 ⟨h3,ops[k],by simp [h1],fun e he hb=>?_⟩
 have hlt:e.on<k:=by
  unfold gN at dj
  have hmem:(ops[k],k)∈ops.toList.zipIdx:=by
   rw [List.mem_zipIdx_iff_getElem?];simp [h1]
  have:=List.all_eq_true.1 dj _ hmem
  simp only at this
  have:=Array.all_eq_true_iff_forall_mem.1 this e he
  simpa [hb] using this
 have hlt':e.on<listed.size:=by rw [hG.sz];omega
 rw [HR hlt' false true];exact Fv _ hlt
theorem m9 {m:Nat} {is:List dD} {t:TR} {R:List TR} {listed:Array Bool} (hG:Good ops m is (t::R) listed) (dj:gN ops=true):t.k∈Region.ready .any ops listed:=by
 obtain ⟨h1,_,h3⟩:=hG.mem t (List.mem_cons_self ..)
 refine Dj hG dj (by have:=hG.le;omega) h3 fun i hi=>?_
 rcases Bool.eq_false_or_eq_true (listed.getD i true) with h|h
 ·exact h
 ·obtain ⟨t', ht', hk⟩ := hG.Yv i (by omega) h
  rcases List.mem_cons.1 ht' with rfl|ht'
  ·omega
  ·have := (List.pairwise_cons.1 hG.srt).1 t' ht'
   omega
theorem Yw {m:Nat} {is:List dD} {listed:Array Bool} (hG:Good ops m is [] listed) (dj:gN ops=true) (hm:m<ops.size):m∈Region.ready .any ops listed:=by
 refine Dj hG dj hm (hG.tl m (Nat.le_refl _) hm) fun i hi=>?_
 rcases Bool.eq_false_or_eq_true (listed.getD i true) with h|h
 ·exact h
 ·obtain ⟨t', ht', hk⟩ := hG.Yv i (by omega) h
  simp at ht'
theorem Good.step {m:Nat} {is:List dD} {L1 L2:List TR} {t:TR} {listed:Array Bool} (hG:Good ops m is (L1++t::L2) listed) (hr:t.k∈Region.ready .any ops listed):Good ops m is (L1++L2) (listed.setIfInBounds t.k true):=by
 have hsub:(L1++L2).Sublist (L1++t::L2):=(List.Sublist.refl L1).append (List.sublist_cons_self t L2)
 have hne:∀x∈L1++L2,x.k≠t.k:=fun x hx=>by
  have:=List.pairwise_append.1 hG.srt
  rcases List.mem_append.1 hx with h|h
  ·exact Nat.ne_of_lt (this.2.2 x h t (List.mem_cons_self ..))
  ·exact Nat.ne_of_gt ((List.pairwise_cons.1 this.2.1).1 x h)
 refine ⟨by simp [hG.sz],fun x hx=>?_,fun i hi hli=>?_,hG.srt.sublist hsub,hG.dr.sublist hsub,fun i hi j hj=>?_,hG.le,fun i hi hi2=>?_⟩
 ·obtain ⟨h1, h2, h3⟩ := hG.mem x (hsub.subset hx)
  exact ⟨h1,h2,by rw [getD_set_ne true (Ne.symm (hne x hx))];exact h3⟩
 ·have hki:t.k≠i:=fun e=>by
   subst e
   have:t.k<listed.size:=by rw [hG.sz];exact Nat.lt_of_lt_of_le hi hG.le
   simp [this] at hli
  rw [getD_set_ne true hki] at hli
  obtain ⟨x,hx,hk⟩:=hG.Yv i hi hli
  refine ⟨x,?_,hk⟩
  rcases List.mem_append.1 hx with h|h
  ·exact List.mem_append_left _ h
  ·rcases List.mem_cons.1 h with rfl | h
   ·exact absurd hk hki
   ·exact List.mem_append_right _ h
 ·refine getD_set_true ?_
  by_cases hki:t.k=i
  ·subst hki;exact jt hG hr j hj
  ·rw [getD_set_ne false hki] at hi
   exact hG.clo i hi j hj
 ·have hk := (hG.mem t (List.mem_append_right _ (List.mem_cons_self ..))).1
  rw [getD_set_ne true (by omega)]
  exact hG.tl i hi hi2
theorem Dk {os:List Oper} {is:List dD} {k:Nat} (h:ew P N ops os=some is):ew P N ops (os.drop k)=some (is.drop k):=by
 induction k generalizing os is with
 |zero=>simpa using h
 |succ k ih =>
  cases os with
  |nil=>cases h;rfl
  |cons o os =>
   unfold ew at h
   split at h<;>try (cases h;done)
   rename_i it its hit N6
   cases h
   simpa using ih N6
theorem w6 {m:Nat} (dj:gN ops=true) (ju:∀i,m<=i->i<ops.size->∀j,j<i->j∈(cn ops).getD i []) {Q:Exit->Act->World->Prop}:∀(n k:Nat) {listed:Array Bool} {a:Act} {w:World},
  m<=k->k+n=ops.size->listed.size=ops.size->(∀i,i<k->listed.getD i true=true)->(∀i,k<=i->i<ops.size->listed.getD i true=false) ->
  (∀i,listed.getD i false=true->∀j∈(cn ops).getD i [],listed.getD j false=true)->wpOpsIn Y.F 0 P ops Q (List.range' k n) a w->wpAnyIn Y.F 0 P .any ops Q n listed a w
 |0,k,listed,a,w,hm,hk,hsz,Fv,HS,Yx,h=>by
  refine ⟨?_,h⟩
  cases hr:Region.ready .any ops listed with
  |nil=>rfl
  |cons i r =>
   have hi:i∈Region.ready .any ops listed:=by rw [hr];exact List.mem_cons_self ..
   obtain ⟨h0,o,ho,_⟩:=mem_ready.1 hi
   have:=(Array.getElem?_eq_some_iff.1 ho).1
   rw [Fv i (by omega)] at h0;cases h0
 |n+1,k,listed,a,w,hm,hk,hsz,Fv,HS,Yx,h=>by
  have hks:k<ops.size:=by omega
  have hrk:k∈Region.ready .any ops listed:=by
   refine mem_ready.2 ⟨HS k (Nat.le_refl _) hks,ops[k],by simp [hks],fun e he hb=>?_⟩
   have hlt:e.on<k:=by
    unfold gN at dj
    have hmem:(ops[k],k)∈ops.toList.zipIdx:=by
     rw [List.mem_zipIdx_iff_getElem?];simp [hks]
    have:=List.all_eq_true.1 dj _ hmem
    simp only at this
    have:=Array.all_eq_true_iff_forall_mem.1 this e he
    simpa [hb] using this
   have hlt':e.on<listed.size:=by rw [hsz];omega
   rw [HR hlt' false true];exact Fv _ hlt
  have hrp:∀i,i∈Region.ready .any ops listed->∀j∈(cn ops).getD i [],listed.getD j false=true:=by
   intro i hi j hj
   obtain ⟨_,o,ho,hall⟩:=mem_ready.1 hi
   obtain ⟨hjs,ht⟩:=o5.1 hj
   obtain ⟨o',ho',e,he,hb,h⟩:=uQ ht
   rw [ho] at ho';cases ho'
   have hl:=hall e he hb
   rcases h with rfl|h
   ·exact hl
   ·exact Yx _ hl j (o5.2 ⟨hjs,h⟩)
  refine ⟨fun h0=>(by rw [h0] at hrk;cases hrk),fun i hi=>?_⟩
  obtain ⟨h0,o,ho,_⟩:=mem_ready.1 hi
  have nO:=(Array.getElem?_eq_some_iff.1 ho).1
  have hik:i=k:=by
   rcases Nat.lt_trichotomy i k with h1|h1|h1
   ·rw [Fv i h1] at h0;cases h0
   ·exact h1
   ·have := hrp i hi k (ju i (by omega) nO k h1)
    rw [(rQ (HS k (Nat.le_refl _) hks)).1] at this;cases this
  subst hik
  rw [List.range'_succ,wpOpsIn_cons] at h
  refine wpOpIn_mono (fun a' w' h'=>w6 dj ju n (i+1) (by omega) (by omega) (by simpa using hsz) (fun j hj=>?_) (fun j hj hj2=>?_) (fun x hx j hj=>?_) h') h
  ·by_cases e : i = j
   ·subst e;simp [hsz,hks]
   ·rw [getD_set_ne true e];exact Fv j (by omega)
  ·rw [getD_set_ne true (by omega)];exact HS j (by omega) hj2
  ·refine getD_set_true ?_
   by_cases e:i=x
   ·subst e;exact hrp i hi j hj
   ·rw [getD_set_ne false e] at hx
    exact Yx x hx j hj
theorem Oe {is : List dD} {m : Nat} (ju : ∀ i, m ≤ i → i < ops.size → ∀ j, j < i → j ∈ (cn ops).getD i []) (nO : ew P N ops ops.toList = some is) (fY : jR (cn ops) is = true) (dj : gN ops = true) {b : Nat} {ms : List Nat} {F : List (Nat × V) → ai → Prop} (hF : wU F)
  {Q:Exit->Act->World->Prop} (hend:∀ι μ env bl a w,fG P N Y ι μ ⟨env,⟨b+m,bl⟩,ms⟩ a w->F env bl->wpOpsIn Y.F 0 P ops Q (List.range' m (ops.size - m)) a w) :
  ∀(fuel:Nat) {R:List TR} {listed:Array Bool} {a:Act} {w:World} {ι:aB} {μ:Mu} {env:List (Nat×V)} {bl:ai},fuel=R.length+(ops.size - m)->Good ops m is R listed->kA (cS P N out base) b R env bl F ->
   fG P N Y ι μ ⟨env,⟨b+m,bl⟩,ms⟩ a w->(∀t∈R,μ (b+t.k)=none)->wpAnyIn Y.F 0 P .any ops Q fuel listed a w
 |fuel,R,listed,a,w,ι,μ,env,bl,hl,hG,hrun,hR,hfr=>by
  rcases Decidable.em (R=[]) with tD|tD
  ·subst tD
   have hle:=hG.le
   have hf:fuel=ops.size - m:=by simpa using hl
   rw [hf]
   refine w6 dj ju (ops.size - m) m (Nat.le_refl _) (by omega) hG.sz (fun i hi=>?_) hG.tl hG.clo (hend _ _ _ _ _ _ hR hrun)
   rcases Bool.eq_false_or_eq_true (listed.getD i true) with h|h
   ·exact h
   ·obtain ⟨t,ht,_⟩:=hG.Yv i hi h;simp at ht
  obtain ⟨fuel,rfl⟩:∃f,fuel=f+1:=⟨fuel - 1,by have:=List.length_pos_iff.2 tD;omega⟩
  ·refine ⟨fun h0 => ?_, fun i hi => ?_⟩
   ·cases R with
    |nil=>exact absurd rfl tD
    |cons t R=>have:=m9 hG dj;rw [h0] at this;simp at this
   ·obtain ⟨h0, o, ho, _⟩ := mem_ready.1 hi
    have him:i<m:=by
     rcases Nat.lt_or_ge i m with h|h
     ·exact h
     ·exfalso
      have yR:=(Array.getElem?_eq_some_iff.1 ho).1
      cases R with
      |nil=>exact tD rfl
      |cons t R =>
       have Sj:=hG.mem t (List.mem_cons_self ..)
       have:=jt hG hi _ (ju i h yR t.k (by omega))
       rw [(rQ Sj.2.2).1] at this;cases this
    obtain ⟨t,ht,hk⟩:=hG.Yv i him h0
    subst hk
    obtain ⟨L1,L2,rfl⟩:=List.append_of_mem ht
    have hAp:∀x∈L1,Ob x t:=fun x hx=>by
     have hp:=(List.pairwise_append.1 hG.srt).2.2 x hx t (List.mem_cons_self ..)
     have hd:=(List.pairwise_append.1 hG.dr).2.2 x hx t (List.mem_cons_self ..)
     have Ky:=hG.mem x (List.mem_append_left _ hx)
     have Sj:=hG.mem t ht
     have hnot:x.k∉(cn ops).getD t.k []:=fun h=>by
      have:=jt hG hi _ h
      rw [(rQ Ky.2.2).1] at this;cases this
     rcases m8 fY hp Ky.2.1 Sj.2.1 with h|h
     ·exact absurd h hnot
     ·rcases hd with h' | h'
      ·exact absurd h' hnot
      ·exact ⟨h,h'.1,h'.2⟩
    obtain ⟨yX,pU⟩:=pull hF hAp hrun
    have Sj:=hG.mem t ht
    have hit:=(kB nO).2 t.k o t.it (by simpa using ho) Sj.2.1
    refine S8 Sj.1 ho hit yX hR (hfr t ht) fun ι' μ' a' w' fU hne=>?_
    have hG':=hG.step hi
    refine Oe ju nO fY dj hF hend fuel (R:=L1++L2) (by simp at hl ⊢;omega) hG' pU fU fun x hx=>?_
    have hx':x∈L1++t::L2:=((List.Sublist.refl L1).append (List.sublist_cons_self t L2)).subset hx
    have h1:=(hG'.mem x hx).2.2
    have hnk:x.k≠t.k:=fun e=>by
     rw [e] at h1
     have:t.k<listed.size:=by rw [hG.sz];have:=hG.le;omega
     simp [this] at h1
    rw [hne _ (by omega)];exact hfr x hx'
theorem zO {ar : Ar} {b : Nat} {F G : List (Nat × V) → ai → Prop} (h : ∀ e bl, F e bl → G e bl) : ∀ {ts : List TR} {env : List (Nat × V)} {bl : ai}, kA ar b ts env bl F → kA ar b ts env bl G
 |[],_,_,hr=>h _ _ hr
 |_::_,_,_,hr=>⟨hr.1,zO h hr.2⟩
theorem Dl {ar : Ar} {b : Nat} {p : Prop} {F : List (Nat × V) → ai → Prop} : ∀ {ts : List TR} {env : List (Nat × V)} {bl : ai}, kA ar b ts env bl (fun e bl => p ∧ F e bl) → p ∧ kA ar b ts env bl F
 |[],_,_,hr=>hr
 |_::_,_,_,hr=>let ⟨h1,h2⟩:=Dl hr.2;⟨h1,hr.1,h2⟩
theorem S9 {ar:Ar} {e:kQ} {vs:List V} {bl:ai} {n n':Nat} (h:e.lays=false):kV ar e vs bl n=kV ar e vs bl n':=by
 cases e<;>first|rfl|(cases h;done)
theorem HT {ar:Ar} {i:I} {env:List (Nat×V)} {bl:ai} {n n':Nat} (h:i.lays=false):de ar i env bl n=de ar i env bl n':=by
 cases i<;>first|rfl|exact S9 h|(cases h;done)
theorem HU {ar:Ar} {i:I} {env:List (Nat×V)} {bl:ai} {n n':Nat} (h:i.lays=false):vk ar i env bl n=vk ar i env bl n':=by
 cases i<;>first|rfl|(cases h;done)
structure Pu (t:TR):Prop where
 rd:t.rd=[]
 up:t.ac.M9=[]
 it:hpure t.it=true
theorem Pu.pN {t:TR} (h:Pu t) {bl:ai}:t.pN bl=bl:=by unfold TR.pN;rw [h.up];rfl
theorem uR {it:dD} (h:hpure it=true):∃d i,it = .op d none i/\i.lays=false:=by
 cases it with
 |call=>cases h
 |op d g i =>
  cases g with
  |some=>cases h
  |none=>exact ⟨d,i,rfl,by simpa [hpure] using h⟩
theorem Pu.en {ar:Ar} {b b':Nat} {t:TR} (h:Pu t) {env:List (Nat×V)} {bl bO:ai} {k':Nat} (he:En ar b t env bl):En ar b' { t with k:=k' } env bO:=by
 have Yy:En ar b t env bO:=mg (fun _ _=>rfl) (fun id hid=>by rw [h.rd] at hid;cases hid) he
 obtain ⟨k,it,ac,rd⟩:=t
 obtain ⟨d,i,rfl,hl⟩:=uR h.it
 unfold En at Yy ⊢
 cases ac with
 |skip=>exact Yy
 |call=>exact Yy.elim
 |Si=>exact Yy.elim
 |op v u =>
  obtain ⟨zC,ob,v0,aj,cX,hv,hrd⟩:=Yy
  exact ⟨zC,ob,v0,aj.imp (fun h=>by rw [HT (n':=b+k) hl];exact h) (fun h=>by rw [HU (n':=b+k) hl];exact h),cX,hv,hrd⟩
theorem Ta {ar : Ar} {b b' : Nat} {bO : ai} (f : TR → Nat) : ∀ {ts : List TR} {env : List (Nat × V)} {bl : ai} {F : List (Nat × V) → ai → Prop}, (∀ t ∈ ts, Pu t) → kA ar b ts env bl F → kA ar b' (ts.map fun t => { t with k := f t }) env bO fun e _ => F e bl
 |[],_,_,_,_,h=>h
 |t::ts,env,bl,F,hp,h=>by
  have ht:=hp t (List.mem_cons_self ..)
  obtain ⟨h1,h2⟩:=h
  rw [ht.pN] at h2
  have h3:=Ta (b':=b') (bO:=bO) f (fun x hx=>hp x (List.mem_cons_of_mem _ hx)) h2
  refine ⟨ht.en h1,?_⟩
  have e:TR.pN { t with k:=f t } bO=bO:=ht.pN
  rw [e];exact h3
theorem Of {t : TR} (hp : Pu t) {o : Oper} (ho : ops[t.k]? = some o) (hit : rB P N ops o = some t.it) {b : Nat} {env : List (Nat × V)} {lX : ai} (yX : En (cS P N out base) b t env lX) {ms : List Nat} {a : Act}
  (hR:fG P N Y ι μ ⟨env,H,ms⟩ a w) {Q:Exit->Act->World->Prop} {K:Act->World->Prop}
  (hK:∀ι' μ' a' w',fG P N Y ι' μ' ⟨t.Dg env,H,ms⟩ a' w'->K a' w'):wpOpIn Y.F 0 P ops Q t.k K a w:=by
 have Og:En (cS P N out base) b t env H.bl:=mg (fun _ _=>rfl) (fun id hid=>by rw [hp.rd] at hid;cases hid) yX
 obtain ⟨k,it,ac,rd⟩:=t
 obtain ⟨d,i,rfl,hl⟩:=uR hp.it
 have hu:=hp.up
 simp only at ho hit hK hu
 unfold rB at hit
 split at hit<;>try (cases hit;done)
 rename_i hd
 split at hit<;>try (cases hit;done)
 rename_i g hg
 split at hit
 ·split at hit<;>cases hit
 ·split at hit<;>cases hit
 ·split at hit <;> try (cases hit; done)
  rename_i i' hi
  cases hit
  unfold En at Og
  cases ac with
  |skip=>exact absurd Og.1 (by simp [dD.SG,CB])
  |call=>exact Og.elim
  |Si=>exact Og.elim
  |op v u =>
   simp only [Ac.M9] at hu
   subst hu
   obtain ⟨zC,ob,v0,aj,cX,hv,hrd⟩:=Og
   have hw:=jZ hR.env hg zC
   unfold wpOpIn
   simp only [ho]
   rw [if_pos hw]
   have hop:Kv P Y ι μ H w H.next (execOp a.eval o) v0 [] i.lays:=by
    rcases aj with aj|aj
    ·rw [HT (n' := H.next) hl] at aj
     exact tu hR.inv (hR.inv.nx _ (Nat.le_refl _)) hR.env hi aj cX
    ·rw [HU (n' := H.next) hl] at aj
     exact tw hR.inv (hR.inv.nx _ (Nat.le_refl _)) hR.env hi aj cX
   obtain ⟨ι',μ',x,w',hx,hi',hm,hne,hinv,wE⟩:=hop
   refine ⟨fun _ _=>trivial,?_⟩
   rw [Oper.semAt_eq _ _ _ (o3 hi)]
   have pM:fG P N Y ι' μ' ⟨AM.put o.dst v env,H,ms⟩ (a.put o.dst x) w':=by
    refine hR.put hd hi' hm ?_ (o6 hv wE)
    rw [hl] at hinv
    exact hinv
   rcases hx with h|⟨h,rfl⟩<;>rw [h]<;>exact hK _ _ _ _ pM
theorem ac4 {k : Nat} {o : Oper} (ho : ops[k]? = some o) {d : Option Nat} {fid : Nat} {fs cs : List V} {as : List O} {tys : List (Option Ty)} (hit : rB P N ops o = some (.call d none (.c (.fn fid fs cs)) as tys))
  {env:List (Nat×V)} {ms:List Nat} {a:Act} (hR:fG P N Y ι μ ⟨env,H,ms⟩ a w) {Qc:V->aO->Prop} (eW:dB P fid (fs++cw tys (as.map (·.ev env))++cs) H Qc) {Q:Exit->Act->World->Prop} {K:Act->World->Prop}
  (hK:∀ι' μ' v H' a' w',fG P N Y ι' μ' ⟨put d v env,H',ms⟩ a' w'->Qc v H'->K a' w'):wpOpIn Y.F 0 P ops Q k K a w:=by
 unfold rB at hit
 split at hit<;>try (cases hit;done)
 rename_i hd
 split at hit<;>try (cases hit;done)
 rename_i g hg
 obtain ⟨cl,args,Oh,fo,as0,hop,hf,ha,heq⟩:∃(c:Callee) (args:Array Operand) (Oh:Array TypeId) (fo:O) (as0:List O),o.op = .call { callee:=c,args:=args,argTypes:=Oh }/\jQ P c=some fo/\sY args.toList=some as0/\(.call d none (.c (.fn fid fs cs)) as tys:dD) = .call o.dst g fo as0 (eH P fo Oh):=by
  split at hit
  ·rename_i f args tys hop
   split at hit<;>try (cases hit;done)
   rename_i fo as hf ha
   exact ⟨.value f,args,tys,fo,as,hop,hf,ha,(Option.some.inj hit).symm⟩
  ·rename_i r name args tys hop
   split at hit<;>try (cases hit;done)
   rename_i fo as hf ha
   exact ⟨.invoke r name,args,tys,fo,as,hop,hf,ha,(Option.some.inj hit).symm⟩
  ·split at hit<;>try (cases hit;done)
 obtain ⟨rfl,rfl,rfl,rfl,rfl⟩:=dD.call.inj heq
 have hw:=jZ (c:=true) hR.env hg rfl
 have ra:=iz hR.env ha
 unfold wpOpIn
 simp only [ho]
 rw [if_pos hw]
 obtain ⟨hent,eW⟩:=eW
 obtain ⟨xs,ys,r1,r2,hrun⟩:=rJ hop hf hR.env rfl hent
 refine ⟨fun _ _=>trivial,?_⟩
 rw [Oper.semAt_eq _ _ _ (by rw [hop];simp),hrun]
 have rl:aR ι μ (fs++cw (eH P (.c (.fn fid fs cs)) Oh) (as.map (·.ev env))++cs) (xs++args.map a.eval++ys).toList:=by
  have:=(r1.append (iN (ts:=eH P (.c (.fn fid fs cs)) Oh) ra)).append r2
  simpa using this
 refine ⟨fun h=>by simp [Ctx.F,Fence.wide] at h,?_⟩
 refine CallsIn.mono (F:=Y.F) (eW Y ι μ w _ hR.inv rl) ?_
 rintro e w' ⟨v,ι',μ',r,H',rfl,hi,hm,hinv,hv,hq⟩
 exact hK _ _ _ _ _ _ (hR.put hd hi hm hinv hv) hq
theorem rR {is:List dD} {m:Nat} (fY:jR (cn ops) is=true) {L1 L2:List TR} {t:TR} {listed:Array Bool} (hG:Good ops m is (L1++t::L2) listed) (hi:t.k∈Region.ready .any ops listed):∀x∈L1,Ob x t:=fun x hx=>by
 have hp:=(List.pairwise_append.1 hG.srt).2.2 x hx t (List.mem_cons_self ..)
 have hd:=(List.pairwise_append.1 hG.dr).2.2 x hx t (List.mem_cons_self ..)
 have Ky:=hG.mem x (List.mem_append_left _ hx)
 have Sj:=hG.mem t (List.mem_append_right _ (List.mem_cons_self ..))
 have hnot:x.k∉(cn ops).getD t.k []:=fun h=>by
  have:=jt hG hi _ h
  rw [(rQ Ky.2.2).1] at this;cases this
 rcases m8 fY hp Ky.2.1 Sj.2.1 with h|h
 ·exact absurd h hnot
 ·rcases hd with h' | h'
  ·exact absurd h' hnot
  ·exact ⟨h,h'.1,h'.2⟩
theorem Dm {is:List dD} {m:Nat} (ju:∀i,m<=i->i<ops.size->∀j,j<i->j∈(cn ops).getD i []) {R:List TR} {listed:Array Bool} (hG:Good ops m is R listed) (tD:R≠[]) {i:Nat} (hi:i∈Region.ready .any ops listed):∃t∈R,t.k=i:=by
 obtain ⟨h0,o,ho,_⟩:=mem_ready.1 hi
 have him:i<m:=by
  rcases Nat.lt_or_ge i m with h|h
  ·exact h
  ·exfalso
   have yR:=(Array.getElem?_eq_some_iff.1 ho).1
   cases R with
   |nil=>exact tD rfl
   |cons t R =>
    have Sj:=hG.mem t (List.mem_cons_self ..)
    have:=jt hG hi _ (ju i h yR t.k (by omega))
    rw [(rQ Sj.2.2).1] at this;cases this
 exact hG.Yv i him h0
theorem W9 {is : List dD} {m : Nat} (ju : ∀ i, m ≤ i → i < ops.size → ∀ j, j < i → j ∈ (cn ops).getD i []) (nO : ew P N ops ops.toList = some is) (fY : jR (cn ops) is = true) (dj : gN ops = true) {ms : List Nat} {F : List (Nat × V) → aO → Prop} (hF : ∀ {e e' : List (Nat × V)} {H : aO}, wR e e' → F e H → F e' H)
  {Q:Exit->Act->World->Prop} (hend:∀ι μ env H a w,fG P N Y ι μ ⟨env,H,ms⟩ a w->F env H->wpOpsIn Y.F 0 P ops Q (List.range' m (ops.size - m)) a w) :
  ∀(fuel:Nat) {R:List TR} {listed:Array Bool} {a:Act} {w:World} {ι:aB} {μ:Mu} {env:List (Nat×V)} {H:aO},fuel=R.length+(ops.size - m)->Good ops m is R listed->(∀t∈R,Pu t)->kA (cS P N out base) 0 R env [] (fun e _=>F e H) ->
   fG P N Y ι μ ⟨env,H,ms⟩ a w->wpAnyIn Y.F 0 P .any ops Q fuel listed a w
 |fuel,R,listed,a,w,ι,μ,env,H,hl,hG,hp,hrun,hR=>by
  rcases Decidable.em (R=[]) with tD|tD
  ·subst tD
   have hle:=hG.le
   have hf:fuel=ops.size - m:=by simpa using hl
   rw [hf]
   refine w6 dj ju (ops.size - m) m (Nat.le_refl _) (by omega) hG.sz (fun i hi=>?_) hG.tl hG.clo (hend _ _ _ _ _ _ hR hrun)
   rcases Bool.eq_false_or_eq_true (listed.getD i true) with h|h
   ·exact h
   ·obtain ⟨t,ht,_⟩:=hG.Yv i hi h;simp at ht
  obtain ⟨fuel,rfl⟩:∃f,fuel=f+1:=⟨fuel - 1,by have:=List.length_pos_iff.2 tD;omega⟩
  refine ⟨fun h0=>?_,fun i hi=>?_⟩
  ·cases R with
   |nil=>exact absurd rfl tD
   |cons t R=>have:=m9 hG dj;rw [h0] at this;simp at this
  ·obtain ⟨t, ht, rfl⟩ := Dm ju hG tD hi
   obtain ⟨h0,o,ho,_⟩:=mem_ready.1 hi
   obtain ⟨L1,L2,rfl⟩:=List.append_of_mem ht
   obtain ⟨yX,pU⟩:=pull (F:=fun e _=>F e H) (fun _ _ _ _ he _ h=>hF he h) (rR fY hG hi) hrun
   have Xa:=hp t ht
   rw [Xa.pN] at pU
   have hit:=(kB nO).2 t.k o t.it (by simpa using ho) (hG.mem t ht).2.1
   refine Of Xa ho hit yX hR fun ι' μ' a' w' fU=>?_
   refine W9 (F:=F) ju nO fY dj hF hend fuel (R:=L1++L2) (by simp at hl ⊢;omega) (hG.step hi) (fun x hx=>hp x ?_) pU fU
   exact ((List.Sublist.refl L1).append (List.sublist_cons_self t L2)).subset hx
theorem KN {it:dD} {d:Option Nat} {v:V} {env:List (Nat×V)} (h:mT d it.uses=true):(∀x∈it.os,x.ev (put d v env)=x.ev env):=(HQ fun t ht=>mZ h t ht).1
theorem iU {f:Nat} {vs:List V} {Q Q':V->aO->Prop} (h:dB P f vs H Q) (hq:∀v H,Q v H->Q' v H):dB P f vs H Q' :=
 ⟨h.1,fun Y ι μ w as hI hr=>(h.2 Y ι μ w as hI hr).mono fun e w' ⟨v,ι',μ',r,H',h1,h2,h3,h4,h5,h6⟩=>⟨v,ι',μ',r,H',h1,h2,h3,h4,h5,hq _ _ h6⟩⟩
theorem zP {c:TR} {d:Option Nat} {fid:Nat} {fs cs:List V} {as:List O} {tys:List (Option Ty)} (hc:c.it = .call d none (.c (.fn fid fs cs)) as tys) {b:Nat} {G:List (Nat×V)->aO->Prop} {bl:ai}:∀{R:List TR} {env:List (Nat×V)},
  (∀x∈R,Pu x/\mT x.it.dst c.it.uses=true/\mT d x.it.uses=true/\(∀s,d=some s->x.it.dst≠some s)) ->
  kA (cS P N out base) b R env bl (fun e _=>∃e0,wR e0 e/\dB P fid (fs++cw tys (as.map (·.ev e0))++cs) H fun v H'=>G (put d v e0) H') ->
  dB P fid (fs++cw tys (as.map (·.ev env))++cs) H fun v H'=>kA (cS P N out base) b R (put d v env) bl fun e _=>∃e0,wR e0 e/\G e0 H'
 |[],env,_,⟨e0,he,h⟩=>by
  have e1:as.map (·.ev e0)=as.map (·.ev env):=dH fun x _=>Df fun t _=>he t
  rw [e1] at h
  exact iU h fun v H' hg=>⟨_,wR.put he,hg⟩
 |x::R,env,hx,h=>by
  obtain ⟨hp,n1,n2,n3⟩:=hx x (List.mem_cons_self ..)
  obtain ⟨h1,h2⟩:=h
  rw [hp.pN] at h2
  have h3:=zP hc (fun y hy=>hx y (List.mem_cons_of_mem _ hy)) h2
  have e1:as.map (·.ev (x.Dg env))=as.map (·.ev env):=dH fun y hy=>KN n1 y (by rw [hc];simp [dD.os,hy])
  rw [e1] at h3
  refine iU h3 fun v H' hg=>⟨mg (fun s hs=>(mZ n2 s hs).symm) (fun _ _=>rfl) h1,?_⟩
  rw [hp.pN]
  refine qu (fun e e' _ _ he _ ⟨e0,q1,q2⟩=>⟨e0,q1.trans he,q2⟩) (fun s=>?_) (fun _=>rfl) hg
  simp only [TR.Dg,rP]
  by_cases q1:d=some s
  ·by_cases q2 : x.it.dst = some s
   ·exact absurd q2 (n3 s q1)
   ·simp [q1,q2]
  ·simp [q1]
theorem Xb {is : List dD} {m : Nat} (ju : ∀ i, m ≤ i → i < ops.size → ∀ j, j < i → j ∈ (cn ops).getD i []) (nO : ew P N ops ops.toList = some is) (fY : jR (cn ops) is = true) (dj : gN ops = true) {ms : List Nat} {G : List (Nat × V) → aO → Prop}
  {Q:Exit->Act->World->Prop} (hend:∀ι μ env H a w,fG P N Y ι μ ⟨env,H,ms⟩ a w->(∃e0,wR e0 env/\G e0 H)->wpOpsIn Y.F 0 P ops Q (List.range' m (ops.size - m)) a w)
  {c:TR} {d:Option Nat} {fid:Nat} {fs cs:List V} {as:List O} {tys:List (Option Ty)} (hc:c.it = .call d none (.c (.fn fid fs cs)) as tys) (Yz:∀k,k<m->c.k<k->c.k∉(cn ops).getD k []) {H:aO} :
  ∀(fuel:Nat) {La Lb:List TR} {listed:Array Bool} {a:Act} {w:World} {ι:aB} {μ:Mu} {env:List (Nat×V)},fuel=(La++c::Lb).length+(ops.size - m)->Good ops m is (La++c::Lb) listed->(∀t∈La++Lb,Pu t) ->
   kA (cS P N out base) 0 (La++Lb) env [] (fun e _=>∃e0,wR e0 e/\dB P fid (fs++cw tys (as.map (·.ev e0))++cs) H fun v H'=>G (put d v e0) H') ->
   fG P N Y ι μ ⟨env,H,ms⟩ a w->wpAnyIn Y.F 0 P .any ops Q fuel listed a w
 |fuel,La,Lb,listed,a,w,ι,μ,env,hl,hG,hp,hrun,hR=>by
  obtain ⟨fuel,rfl⟩:∃f,fuel=f+1:=⟨fuel - 1,by simp at hl;omega⟩
  have rj:wU fun e (_:ai)=>∃e0,wR e0 e/\dB P fid (fs++cw tys (as.map (·.ev e0))++cs) H fun v H'=>G (put d v e0) H':=fun e e' _ _ he _ ⟨e0,q1,q2⟩=>⟨e0,q1.trans he,q2⟩
  refine ⟨fun h0=>?_,fun i hi=>?_⟩
  ·cases La with
   |nil=>have:=m9 hG dj;rw [h0] at this;simp at this
   |cons t R=>have:=m9 (R:=R++c::Lb) hG dj;rw [h0] at this;simp at this
  ·obtain ⟨t, ht, rfl⟩ := Dm ju hG (by simp) hi
   obtain ⟨h0,o,ho,_⟩:=mem_ready.1 hi
   have hit:=(kB nO).2 t.k o t.it (by simpa using ho) (hG.mem t ht).2.1
   rcases List.mem_append.1 ht with hta|htb
   ·obtain ⟨P1, P2, rfl⟩ := List.append_of_mem hta
    have hG1:Good ops m is (P1++t::(P2++c::Lb)) listed:=by simpa using hG
    have Xa:=hp t (by simp)
    obtain ⟨yX,pU⟩:=pull rj (rR fY hG1 hi) (show kA (cS P N out base) 0 (P1++t::(P2++Lb)) env [] _ by simpa using hrun)
    rw [Xa.pN] at pU
    refine Of Xa ho hit yX hR fun ι' μ' a' w' fU=>?_
    refine Xb ju nO fY dj hend hc Yz fuel (La:=P1++P2) (Lb:=Lb) (by simp at hl ⊢;omega) (by simpa using hG1.step hi) (fun x hx=>hp x (by simp at hx ⊢;rcases hx with h|h|h<;>simp [h])) (by simpa using pU) fU
   rcases List.mem_cons.1 htb with rfl|htb
   ·rw [hc] at hit
    have hap:=rR fY hG hi
    have hsy:∀x∈La++Lb,Pu x/\mT x.it.dst t.it.uses=true/\mT d x.it.uses=true/\(∀s,d=some s->x.it.dst≠some s):=fun x hx=>by
     have hd:t.it.dst=d:=by rw [hc];rfl
     refine ⟨hp x hx,?_⟩
     rcases List.mem_append.1 hx with h|h
     ·have hs := (hap x h).slots
      simp only [iP,Bool.and_eq_true] at hs
      obtain ⟨⟨s1,s2⟩,s3⟩:=hs
      rw [hd] at s2 s3
      refine ⟨s1,s2,fun s hs e=>?_⟩
      rw [e,hs] at s3;simp at s3
     ·have hlt := (List.pairwise_cons.1 (List.pairwise_append.1 hG.srt).2.1).1 x h
      have Ky:=hG.mem x (by simp [h])
      rcases m8 fY hlt (hG.mem t ht).2.1 Ky.2.1 with h'|hs
      ·exact absurd h' (Yz _ Ky.1 hlt)
      ·simp only [iP, Bool.and_eq_true] at hs
       obtain ⟨⟨s1,s2⟩,s3⟩:=hs
       rw [hd] at s1 s3
       refine ⟨s2,s1,fun s hs e=>?_⟩
       rw [hs,e] at s3;simp at s3
    refine ac4 ho hit hR (zP hc hsy hrun) fun ι' μ' v H' a' w' fU hq=>?_
    exact W9 ju nO fY dj (F:=fun e H=>∃e0,wR e0 e/\G e0 H) (fun he ⟨e0,q1,q2⟩=>⟨e0,q1.trans he,q2⟩) hend fuel (R:=La++Lb) (by simp at hl ⊢;omega) (hG.step hi) hp hq fU
   ·obtain ⟨P1, P2, rfl⟩ := List.append_of_mem htb
    have hG1:Good ops m is ((La++c::P1)++t::P2) listed:=by simpa using hG
    have Xa:=hp t (by simp)
    have hap:=rR fY hG1 hi
    obtain ⟨yX,pU⟩:=pull (L1:=La++P1) rj (fun x hx=>hap x (by simp at hx ⊢;rcases hx with h|h<;>simp [h])) (show kA (cS P N out base) 0 ((La++P1)++t::P2) env [] _ by simpa using hrun)
    rw [Xa.pN] at pU
    refine Of Xa ho hit yX hR fun ι' μ' a' w' fU=>?_
    refine Xb ju nO fY dj hend hc Yz fuel (La:=La) (Lb:=P1++P2) (by simp at hl ⊢;omega) (by simpa using hG1.step hi) (fun x hx=>hp x (by simp at hx ⊢;rcases hx with h|h|h<;>simp [h])) (by simpa using pU) fU
theorem Tb (hm:P.follows .mixedOrders=true):HM P N out base:=by
 intro id ops CF SZ nO fY dj hl S K hK Y ι μ a w ho hb hR
 refine wpIn_region_any hm ?_
 obtain ⟨ts,h1,h2,h3⟩:=mh hK
 simp only [List.nil_append] at h3
 obtain ⟨X7,hrun⟩:=Dl h3
 replace X7:=NG X7
 have hlen:CF.length+SZ.length=ops.size:=by simpa using (kB nO).1
 have Tc:ts.length=CF.length:=by rw [<-h1];simp
 have hk:∀(j:Nat) t,ts[j]?=some t->t.k=j/\(CF++SZ)[j]?=some t.it/\j<CF.length:=fun j t ht=>by
  have hj:=(List.getElem?_eq_some_iff.1 ht).1
  refine ⟨?_,?_,by omega⟩
  ·have : (ts.map (·.k))[j]? = some t.k := by simp [ht]
   rw [h2,List.getElem?_range' (by omega)] at this
   simpa using this.symm
  ·rw [List.getElem?_append_left (by omega),<-h1];simp [ht]
 let F:List (Nat×V)->ai->Prop:=fun env bl=>∃w7 lX,wR w7 env/\Oa lX bl/\dF (cS P N out base) SZ ⟨w7,⟨S.H.next+CF.length,lX⟩,S.ms⟩ K
 have hF:wU F:=fun env env' bl bO he sS ⟨e0,b0,q1,q2,q3⟩=>⟨e0,b0,q1.trans he,fun i=>(q2 i).trans (sS i),q3⟩
 have pM:∀{ι' μ' env bl w7 lX a' w'},fG P N Y ι' μ' ⟨env,⟨S.H.next+CF.length,bl⟩,S.ms⟩ a' w'->wR w7 env->Oa lX bl->fG P N Y ι' μ' ⟨w7,⟨S.H.next+CF.length,lX⟩,S.ms⟩ a' w':=fun fU q1 q2 =>
  ⟨fun t=>by rw [q1 t];exact fU.env t,fU.sz,fU.inv.eqB q2,fU.ms⟩
 have hfl:ops.size=ts.length+(ops.size - CF.length):=by omega
 have htr2:ew P N ops (ops.toList.drop CF.length)=some SZ:=by
  have:=Dk (k:=CF.length) nO
  rwa [List.drop_left' rfl] at this
 refine Oe (out:=out) (base:=base) (b:=S.H.next) (ms:=S.ms) (F:=F) (fun i hi hi2=>hl i hi (by omega)) nO fY dj hF (fun ι' μ' env bl a' w' fU hf=>?_) ops.size (R:=ts) (ι:=ι) (μ:=μ) (env:=S.env) (bl:=S.H.bl) hfl ?_ ?_ ?_ ?_
 ·obtain ⟨e0, b0, q1, q2, q3⟩ := hf
  have h:=wL (Y:=Y) (os:=ops.toList.drop CF.length) (Q:=Post P N Y fun e S=>match e with | .normal=>K S|_=>False) (K:=K) (out:=out) (base:=base) (fun ι μ S a w hR hK=>Post.of (e':=.normal) hR rfl hK) (k:=CF.length) htr2 (fun j=>by
   rw [List.getElem?_drop];simp) (pM fU q1 q2) q3
  rwa [List.length_drop,Array.length_toList] at h
 ·refine ⟨by simp, fun t ht => ?_, fun i hi hli => ?_, ?_, qw X7, fun i hi => ?_, by omega, fun i hi hi2 => by simp [hi2]⟩
  ·obtain ⟨j, hj⟩ := List.getElem?_of_mem ht
   obtain ⟨e1,e2,e3⟩:=hk j t hj
   subst e1
   exact ⟨e3,e2,by simp [show t.k<ops.size by omega]⟩
  ·have : i < ts.length := by omega
   refine ⟨ts[i],List.getElem_mem this,(hk i _ (by simp)).1⟩
  ·have h4 : (ts.map (·.k)).Pairwise (· < ·) := by rw [h2]; exact List.pairwise_lt_range'
   exact List.pairwise_map.1 h4
  ·exfalso
   rcases Nat.lt_or_ge i ops.size with h|h<;>simp [h] at hi
 ·refine zO (fun e bl h => ?_) hrun
  exact ⟨e,bl,fun _=>rfl,fun _=>rfl,h⟩
 ·exact ⟨hR.env,hR.sz,(hR.inv.KL (by omega)).drawn,hR.ms⟩
 ·intro t ht
  exact hR.inv.nx _ (by omega)
theorem Td {ar:Ar} {b:Nat} {q:List Nat->dU->Prop} {p:List (Nat×V)->ai->Prop} {r:dU->List (Nat×V)->ai->Prop}:∀{ts:List TR} {env:List (Nat×V)} {bl:ai},kA ar b ts env bl (fun e bl=>p e bl\/∃ids u,q ids u/\r u e bl) ->
  kA ar b ts env bl p\/∃ids u,q ids u/\kA ar b ts env bl (r u)
 |[],_,_,h=>h
 |_::_,_,_,⟨h1,h2⟩=>(Td h2).imp (fun h=>⟨h1,h⟩) fun ⟨ids,u,h,h'⟩=>⟨ids,u,h,h1,h'⟩
theorem Te (hm:P.follows .mixedOrders=true):HN P N out base:=fun id ops is c e _ _ _ h=>by cases h
theorem eK (hm:P.follows .mixedOrders=true):gT P N out base:=⟨Tb hm,Te hm⟩
end
end Go.AM
end
section
namespace Go.AM
section
variable {P:Program} {N:Nat} {Y:Ctx} {ι ι':aB} {μ μ':Mu} {H:aO} {w w':World} {out:Option Nat} {base:Nat}
theorem Tf {func:Func} {fn:Fn} (fP:cN P func=some fn):Ku P func.results.toList=some fn.res:=by
 unfold cN at fP
 split at fP<;>try (cases fP;done)
 split at fP<;>try (cases fP;done)
 rename_i hrs
 split at fP<;>try (cases fP;done)
 cases fP;exact hrs
theorem Inv.down (h:Inv P Y ι μ H w) (ro:Option Nat):Inv P ⟨Y.w0,ι,μ,ro,Y.x,[]⟩ ι μ H w :=
 ⟨h.below,aB.le_refl _,fun _ _ _ _=>rfl,h.rd,Mu.le_refl _,h.nx,h.live,h.inj,h.lt,h.c8⟩
theorem Inv.up {ro:Option Nat} {H':aO} (h0:Inv P Y ι μ H w) (h:Inv P ⟨Y.w0,ι,μ,ro,Y.x,[]⟩ ι' μ' H' w'):Inv P Y ι' μ' H' w'/\ι.le ι'/\μ.le μ' :=
 ⟨⟨h.below,aB.le_trans h0.i0 h.i0,fun b o hb hx=>(h.iB b o hb hx).trans (h0.iB b o hb hx),h.rd,Mu.le_trans h0.m0 h.m0,h.nx,h.live,h.inj,h.lt,h0.gl⟩,h.i0,h.m0⟩
theorem iA {f : Nat} {func : Func} {fn : Fn} (hf : P.funcs[f]? = some func) (fP : cN P func = some fn) (hent : e9 P f) (cY : gT P fn.N none H.next) {vs : List V} {Q : V → aO → Prop} (hlen : vs.length ≤ fn.np)
  (h:lW (cS P fn.N none H.next) fn.body ⟨args 0 vs,H,[]⟩ (oa fn.res fn.tys Q)):dB P f vs H Q:=by
 refine ⟨hent,fun Y ι μ w as hI hr=>?_⟩
 refine Be (Y:=⟨Y.w0,ι,μ,none,Y.x,[]⟩) hf fP cY hlen h rfl rfl (fun id hid=>hI.nx id hid) (hI.down none) hr fun Y1 ι' μ' S' a' w' e' hY hR hq=>?_
 have key:oa.kr fn.res fn.tys Q S'->LeavesInM Fence.wide 0 P func a'.tmps (KC P Y ι μ Q) a'.defers .returning w':=by
  intro hs
  unfold oa.kr at hs
  split at hs<;>try (exact hs.elim)
  rename_i bl sS
  split at hs<;>try (exact hs.elim)
  rename_i vs' hvs
  refine me (Tf fP) (n:=S'.H.next) (bl:=S'.H.bl) hY rfl hR.inv hR.env hR.ms sS hvs fun x w2 mP hx=>?_
  obtain ⟨h1,h2,h3⟩:=hI.up mP
  exact ⟨x,ι',μ',_,_,rfl,h2,h3,h1,hx (hTs fn.tys),hs⟩
 cases e' with
 |exit id=>exact hq.elim
 |normal=>exact ⟨.inl rfl,key hq⟩
 |ret=>exact ⟨.inr rfl,key hq⟩
def unr (ar : Ar) (c : C) : Nat → St → (Ex → St → Prop) → Prop
 |0,_,_=>False
 |n+1,S,K=>lW ar c S fun e S'=>match e with
  | .normal=>unr ar c n S' K
  | .exit id=>K (.exit id) S'
  | .ret=>K .ret S'
theorem w8 (cY:gT P N out base) {c:C} {S:St} {K:Ex->St->Prop} {n:Nat} (h:unr (cS P N out base) c n S K):(cS P N out base).loop c S K:=by
 intro body hbody Y ι μ a w ho hb hR
 refine gO (fun x a w=>∃Y1,Ext P Y Y1/\∃ι μ S,fG P N Y1 ι μ S a w/\unr (cS P N out base) c x S K) id (x:=n) ⟨Y,.refl Y,ι,μ,S,hR,h⟩ ?_
 rintro x a w ⟨Y0,N9,ι,μ,S,hR,hx⟩
 cases x with
 |zero=>exact hx.elim
 |succ x =>
  refine wpIn_mono (n8 (dI cY body hbody hx) N9 ho hb hR) fun e a' w' hp=>?_
  obtain ⟨Y1,hY,ι',μ',S',e',h1,h2,h3⟩:=hp
  cases e' with
  |normal=>cases h2;exact ⟨x,⟨Y1,hY,ι',μ',S',h1,h3⟩,Nat.lt_succ_self x⟩
  |exit id=>cases h2;exact ⟨Y1,hY,ι',μ',S',.exit id,h1,rfl,h3⟩
  |ret=>cases h2;exact ⟨Y1,hY,ι',μ',S',.ret,h1,rfl,h3⟩
theorem Inv.KO {bl:ai} {n id:Nat} {L:Loc} {B:jE} (h:Inv P Y ι μ ⟨n,bl⟩ w) (hb:aq id bl=some B) (hL:μ id=some L) {o o':Obj} (ho:w.heap[L.b]?=some o) (hnc:∀c e f,o ≠ .cells c e f) (hnm:∀ms c,o ≠ .map ms c) :
  Inv P Y ι μ ⟨n,cB id bl⟩ (w.putObj L.b o'):=by
 have hold:Y.own L.b:=((h.live id _ hb).loc hL).1
 have dG:∀k,k≠L.b->(w.putObj L.b o').heap[k]?=w.heap[k]?:=fun k hk=>World.putObj_heap_other hk
 have hsub:=h.del id
 refine ⟨⟨h.below.os, h.below.tape, h.below.output, by rw [World.putObj_size]; exact h.below.size, fun k hk hx => ?_, h.below.dr, fun k hk => (h.below.maps k hk).trans (by
   by_cases e:k=L.b
   ·subst e;exact .no (fun ms c e=>by rw [ho] at e;cases e;exact hnm _ _ rfl)
   ·exact .eq (dG k e))⟩,h.i0,h.iB,fun b o2 x hx=>?_,h.m0,h.nx,fun i B2 hB=>?_,hsub.inj,hsub.lt,h.gl⟩
 ·rw [dG k (Ctx.mV hold hk hx)];exact h.below.block k hk hx
 ·have := h.rd b o2 x hx
  have hne:b≠L.b:=fun e=>by
   subst e
   cases o<;>simp [World.cell?,ho] at this
   exact hnc _ _ _ rfl
  unfold World.cell? at this ⊢
  simp only at this ⊢
  rw [dG b hne];exact this
 ·simp only at hB
  rw [bB] at hB
  split at hB
  ·cases hB
  ·rename_i e
   refine (h.live i B2 hB).mono (aB.le_refl _) (Mu.le_refl _) (fun h=>h) (fun L' hL'=>dG _ (fun e'=>e (h.inj i id B2 _ L' L hB hb hL' hL e'))) (fun _ _ h=>h)
def w9 (j:Option Ex) (S:St) (K:Ex->St->Prop):Prop:=match j with
 |none=>K .normal S
 |some e=>match e with
  | .normal=>False
  | .exit i=>K (.exit i) S
  | .ret=>K .ret S
def fH (id:Nat) (sh:List Nat) (S:St) (K:Ex->St->Prop) (H:aO):Prop:=match aq id H.bl with
 |some (.loop st j _ _ _ _ _ _)=>match st with
  | .busy=>False
  |_=>match ej sh (cB id H.bl) with
   |some bl=>w9 j ⟨S.env,⟨H.next,bl⟩,S.ms⟩ K
   |none=>False
 |_=>False
def Fw (ar:Ar) (N:Nat) (out:Option Nat) (f:O) (ps:List Nat) (as bd:C) (S:St) (K:Ex->St->Prop):Prop :=
 ps.all (Nat.blt · N)=true /\
 match f.ev S.env with
 | .fn fid first cap=>match out with
  | none => S.ms = [] ∧ ar.call fid (first ++ [.yl (S.H.next + 1)] ++ cap) ⟨S.H.next + 2, (S.H.next + 1, .loop .ready none S.H.next S.env ps as bd N) :: (S.H.next, .fC) :: S.H.bl⟩
    fun _ H=>fH (S.H.next+1) [S.H.next] S K H
  |some HV=>match aq HV S.H.bl with
   | some (.loop _ _ d _ _ _ _ _) => ar.call fid (first ++ [.yl S.H.next] ++ cap) ⟨S.H.next + 1, (S.H.next, .loop .ready none d S.env ps as bd N) :: S.H.bl⟩
     fun _ H=>fH S.H.next [] S K H
   |_=>False
 |_=>False
theorem Na (h:Inv P Y ι μ H w) {id:Nat} (hid:H.next<=id):aq id H.bl=none:=by
 cases hb:aq id H.bl with
 |none=>rfl
 |some B=>have:=h.lt id B hb;omega
theorem Sk {bl:ai} {id:Nat} (h:aq id bl=none):Oa (cB id bl) bl:=fun i=>by
 rw [bB];split
 ·rename_i e;subst e;exact h.symm
 ·rfl
theorem ld {f:O} {ps:List Nat} {as bd:C} {S:St} {K:Ex->St->Prop} (h:Fw (cS P N out base) N out f ps as bd S K):(cS P N out base).c9 f ps as bd S K:=by
 intro fo CE ao bo hfo hps hao hbo Y ι μ a w ho hb hR
 obtain ⟨hpN,h⟩:=h
 have rf:=aK hR.env hfo
 have hnc:∀(r:Loop) c e f,Obj.loop r ≠ .cells c e f:=fun r c e f=>by intro h;cases h
 split at h
 ·rename_i fid fs cs nI
  rw [nI] at rf
  generalize hg:a.eval fo=fv at rf
  cases rf with
  |fn _ _ _ xs ys h1 h2 h3 h4 =>
   have r1:aR ι μ fs xs.toList:=⟨by simpa using h1,fun i v x hv hx=>h2 i v x hv (by simpa using hx)⟩
   have r2:aR ι μ cs ys.toList:=⟨by simpa using h3,fun i v x hv hx=>h4 i v x hv (by simpa using hx)⟩
   -- behind the call
   have fin:∀{aM:Nat} {L:Loc} {sh ms':List Nat} {ds':List Deferred} {μ1:Mu},μ.le μ1->μ1 aM=some L->jG Y.hid μ1 ms' ds'->((sh=[]/\ms'=S.ms)\/∃i,sh=[i]/\ms'=[i]/\S.ms=[]/\Y.ro=none) ->
     ∀e w',KC P Y ι μ1 (fun _ H=>fH aM sh S K H) e w' ->
     rangePost Y.F 0 P L.b (Post P N Y K) { a with defers:=ds' } e w':=fun {aM L sh ms' ds' μ1} lI hL hmk hsh e w' he=>by
    obtain ⟨v,ι',μ',r,H',rfl,hi,hm,hinv,hv,hq⟩:=he
    unfold fH at hq
    split at hq<;>try (exact hq.elim)
    rename_i st j d env' ps' as' Nb N' sS
    obtain ⟨L',r',Ld,q1,q2,q3,q4,q5,q6,q7,q8,q9,q10,q11,q12,q13⟩:=hinv.live _ _ sS
    rw [hm _ _ hL] at q1;cases q1
    have hst:r'.state ≠ .busy:=by rw [q4];cases st<;>simp [stR] at hq ⊢
    have hinv':=hinv.KO (o':=.loop { r' with state:=.exhausted }) sS (hm _ _ hL) q3 (hnc r') (fun _ _ e=>by cases e)
    have Xc:fG P N Y ι' μ' ⟨S.env,⟨H'.next,cB aM H'.bl⟩,ms'⟩ { a with defers:=ds' } (w'.putObj L.b (.loop { r' with state:=.exhausted })) :=
     ⟨hR.env.mono hi (Mu.le_trans lI hm),hR.sz,hinv',hmk.mono hm⟩
    have Xd:∃bl,ej sh (cB aM H'.bl)=some bl/\w9 j ⟨S.env,⟨H'.next,bl⟩,S.ms⟩ K:=by
     cases hsh2:ej sh (cB aM H'.bl) with
     |none=>rw [hsh2] at hq;cases st<;>exact hq.elim
     |some bl=>rw [hsh2] at hq;exact ⟨bl,rfl,by cases st<;>first|exact hq.elim|exact hq⟩
    obtain ⟨bl,Oi,Tg⟩:=Xd
    obtain ⟨Y1,Xe,pM⟩:∃Y1,Ext P Y Y1/\fG P N Y1 ι' μ' ⟨S.env,⟨H'.next,bl⟩,S.ms⟩ { a with defers:=ds' } (w'.putObj L.b (.loop { r' with state:=.exhausted })):=by
     rcases hsh with ⟨rfl,rfl⟩|⟨i,rfl,rfl,hS,hro⟩
     ·cases Oi;exact ⟨Y,.refl Y,Xc⟩
     ·simp only [ej] at Oi
      split at Oi<;>try (cases Oi;done)
      rename_i hb
      cases Oi
      rw [hS]
      exact Xc.Bb rfl hb hro
    have hend:=run_endLoop (P:=P) q3 hst
    generalize w'.putObj L.b (.loop { r' with state:=.exhausted })=w4 at pM hend
    refine ⟨r'.pending,w4,hend,?_⟩
    unfold w9 at Tg
    cases j with
    |none=>simp only [zA] at q5;rw [q5];exact .of1 (e':=.normal) Xe pM rfl Tg
    |some e =>
     cases e with
     |normal=>exact Tg.elim
     |exit i=>simp only [zA] at q5;rw [q5];exact wpIn_exit (.of1 (e':=.exit i) Xe pM rfl Tg)
     |ret=>simp only [zA] at q5;rw [q5];exact wpIn_ret (.of1 (e':=.ret) Xe pM rfl Tg)
   have hpN':∀p∈ps,p<N:=fun p hp=>by have:=List.all_eq_true.1 hpN p hp;simpa using this
   cases out with
   |none =>
    simp only at h
    have hro:Y.ro=none:=ho
    obtain ⟨hms0,hent,eW⟩:=h
    let Ld:Loc:=⟨w.heap.size,0,0,0⟩
    let L:Loc:=⟨w.heap.size+1,0,0,0⟩
    have hn0:=hR.inv.nx S.H.next (Nat.le_refl _)
    have hle0:=Mu.iQ (L:=Ld) hn0
    have Yc:=hR.inv.lay hn0 (L:=Ld) (o:=.deferred (some [])) (b:=.fC) rfl ⟨Ld,by simp [Mu.set],.inl hR.inv.below.size,by show (w.heap.push _)[w.heap.size]?=_;simp⟩
    have hsz1:(w.alloc (.deferred (some []))).heap.size=w.heap.size+1:=World.size_alloc _ _
    have W5:(μ.set S.H.next Ld) (S.H.next+1)=none:=by simp only [Mu.set];rw [if_neg (by omega)];exact hR.inv.nx _ (by omega)
    have hle1:=Mu.iQ (L:=L) W5
    have YA : ∀ fn : Nat, Inv P Y ι ((μ.set S.H.next Ld).set (S.H.next + 1) L) ⟨S.H.next + 2, (S.H.next + 1, .loop .ready none S.H.next S.env ps as bd N) :: (S.H.next, .fC) :: S.H.bl⟩
      ((w.alloc (.deferred (some []))).alloc (.loop { state:=.ready,pending:=none,fn:=fn,tmps:=a.tmps,params:=CE,assign:=ao,body:=bo,defers:=w.heap.size })):=fun fn=>by
     have mP := Yc.lay W5 (L := L) (o := .loop { state := .ready, pending := none, fn := fn, tmps := a.tmps, params := CE, assign := ao, body := bo, defers := w.heap.size })
      (b:=.loop .ready none S.H.next S.env ps as bd N) (by simp [L,hsz1]) ⟨L,{ state:=.ready,pending:=none,fn:=fn,tmps:=a.tmps,params:=CE,assign:=ao,body:=bo,defers:=w.heap.size },Ld,by simp [Mu.set],.inl (by have:=hR.inv.below.size;simp only [L];omega),by
       have:=World.alloc_heap_new (w.alloc (.deferred (some []))) (.loop { state:=.ready,pending:=none,fn:=fn,tmps:=a.tmps,params:=CE,assign:=ao,body:=bo,defers:=w.heap.size })
       rw [hsz1] at this;exact this,rfl,rfl,hR.env.mono (aB.le_refl _) (Mu.le_trans hle0 hle1),hps,hR.sz,hpN',hao,hbo,by simp [Mu.set],rfl⟩
     refine mP.congr (fun id=>?_) (by simp only;omega)
     rw [bx,aY]
     by_cases e:S.H.next+1=id
     ·subst e;simp
     ·rw [if_neg e, if_neg (fun e' => e e'.symm), bx, aY]
      by_cases e2:S.H.next=id
      ·subst e2;simp
      ·rw [if_neg e2,if_neg (fun e'=>e2 e'.symm)]
    have yY:=Mu.le_trans hle0 hle1
    have hLd:((μ.set S.H.next Ld).set (S.H.next+1) L) S.H.next=some Ld:=by simp [Mu.set]
    have hL:((μ.set S.H.next Ld).set (S.H.next+1) L) (S.H.next+1)=some L:=by simp [Mu.set]
    refine wpIn_rangeFunc fun fn _=>?_
    have Dn:=YA fn
    obtain ⟨W,hW⟩:∃W,W=(w.alloc (.deferred (some []))).alloc (.loop { state:=.ready,pending:=none,fn:=fn,tmps:=a.tmps,params:=CE,assign:=ao,body:=bo,defers:=w.heap.size }):=⟨_,rfl⟩
    rw [<-hW] at Dn
    refine ⟨w.heap.size+1,[{ target:=.collected w.heap.size,args:=#[] }],W,{ target:=.fn (.func fid) ys,args:=xs++#[.func (.yield (w.heap.size+1)) #[] #[]] },W,fid,
     (xs++#[.func (.yield (w.heap.size+1)) #[] #[]])++ys,W,?_,?_,fun _ _=>trivial,?_,fun h=>by simp [Ctx.F,Fence.wide] at h,?_⟩
    ·show (Instr.enterLoop fn a.tmps CE ao bo Y.ro).run P w = _
     rw [hro,hW];exact run_enterLoop_outer _ _ _ _ _
    ·have e1 : ∀ v, a.eval (.const v) = v := fun _ => rfl
     simp [resolve,hg,Deferred.ofValue,e1]
    ·have := hent ((xs ++ #[Value.func (Fn.yield (w.heap.size + 1)) #[] #[]]) ++ ys) W
     simpa [invoke] using this
    ·have rl:aR ι ((μ.set S.H.next Ld).set (S.H.next+1) L) (fs++[.yl (S.H.next+1)]++cs) ((xs++#[Value.func (Fn.yield (w.heap.size+1)) #[] #[]])++ys).toList:=by
      have q1:=r1.mono (aB.le_refl _) yY
      have q2:=r2.mono (aB.le_refl _) yY
      have:=(q1.append (.cons (.yl _ L hL) .nil)).append q2
      simpa using this
     refine CallsIn.mono (F:=Y.F) (eW Y ι _ _ _ Dn rl) fun e w' he=>?_
     exact fin (L:=L) (aM:=S.H.next+1) (sh:=[S.H.next]) (ms':=[S.H.next]) (ds':={ target:=.collected w.heap.size,args:=#[] }::a.defers) yY hL ⟨Ld,_,a.defers,rfl,hLd,rfl,by have:=hR.ms;rw [hms0] at this;exact this⟩ (.inr ⟨_,rfl,rfl,hms0,hro⟩) e w' he
   |some HV =>
    simp only at h
    obtain ⟨L0,hm0,hro⟩:=ho
    split at h<;>try (exact h.elim)
    rename_i st0 j0 d0 w7 ps0 as0 bd0 N0 hb0
    obtain ⟨hent,eW⟩:=h
    obtain ⟨L0',r0,Ld,q1,q2,q3,q4,q5,q6,q7,q8,q9,q10,q11,q12,q13⟩:=hR.inv.live _ _ hb0
    rw [hR.inv.m0 _ _ hm0] at q1;cases q1
    let L:Loc:=⟨w.heap.size,0,0,0⟩
    have hn0:=hR.inv.nx S.H.next (Nat.le_refl _)
    have yY:=Mu.iQ (L:=L) hn0
    have YA : ∀ fn : Nat, Inv P Y ι (μ.set S.H.next L) ⟨S.H.next + 1, (S.H.next, .loop .ready none d0 S.env ps as bd N) :: S.H.bl⟩
      (w.alloc (.loop { state:=.ready,pending:=none,fn:=fn,tmps:=a.tmps,params:=CE,assign:=ao,body:=bo,defers:=r0.defers })):=fun fn=>by
     have mP := hR.inv.lay hn0 (L := L) (o := .loop { state := .ready, pending := none, fn := fn, tmps := a.tmps, params := CE, assign := ao, body := bo, defers := r0.defers })
      (b:=.loop .ready none d0 S.env ps as bd N) rfl ⟨L,{ state:=.ready,pending:=none,fn:=fn,tmps:=a.tmps,params:=CE,assign:=ao,body:=bo,defers:=r0.defers },Ld,by simp [Mu.set],.inl hR.inv.below.size,by
       show (w.heap.push _)[w.heap.size]?=_
       simp,rfl,rfl,hR.env.mono (aB.le_refl _) yY,hps,hR.sz,hpN',hao,hbo,yY _ _ q12,q13⟩
     refine mP.congr (fun id=>?_) (by simp only;omega)
     rw [bx,aY]
     by_cases e:S.H.next=id
     ·subst e;simp
     ·rw [if_neg e,if_neg (fun e'=>e e'.symm)]
    have hL:(μ.set S.H.next L) S.H.next=some L:=by simp [Mu.set]
    refine wpIn_rangeFunc fun fn _=>?_
    have Dn:=YA fn
    obtain ⟨W,hW⟩:∃W,W=w.alloc (.loop { state:=.ready,pending:=none,fn:=fn,tmps:=a.tmps,params:=CE,assign:=ao,body:=bo,defers:=r0.defers }):=⟨_,rfl⟩
    rw [<-hW] at Dn
    refine ⟨w.heap.size,[],W,{ target:=.fn (.func fid) ys,args:=xs++#[.func (.yield w.heap.size) #[] #[]] },W,fid,
     (xs++#[.func (.yield w.heap.size) #[] #[]])++ys,W,?_,?_,fun _ _=>trivial,?_,fun h=>by simp [Ctx.F,Fence.wide] at h,?_⟩
    ·show (Instr.enterLoop fn a.tmps CE ao bo Y.ro).run P w = _
     rw [hro,hW];exact run_enterLoop_inner q3 _ _ _ _ _
    ·have e1 : ∀ v, a.eval (.const v) = v := fun _ => rfl
     simp [resolve,hg,Deferred.ofValue,e1]
    ·have := hent ((xs ++ #[Value.func (Fn.yield w.heap.size) #[] #[]]) ++ ys) W
     simpa [invoke] using this
    ·have rl:aR ι (μ.set S.H.next L) (fs++[.yl S.H.next]++cs) ((xs++#[Value.func (Fn.yield w.heap.size) #[] #[]])++ys).toList:=by
      have q1:=r1.mono (aB.le_refl _) yY
      have q2:=r2.mono (aB.le_refl _) yY
      have:=(q1.append (.cons (.yl _ L hL) .nil)).append q2
      simpa using this
     refine CallsIn.mono (F:=Y.F) (eW Y ι _ _ _ Dn rl) fun e w' he=>?_
     exact fin (L:=L) (aM:=S.H.next) (sh:=[]) yY hL (hR.ms.mono yY) (.inl ⟨rfl,rfl⟩) e w' he
 ·exact h.elim
end
end Go.AM
end
section
namespace Go.AM
def uS : List Nat → List V → List (Nat × V) → List (Nat × V)
  |p::ps,v::vs,env=>uS ps vs (AR p v env)
  |_,_,env=>env
def mz (id:Nat) (Q:V->aO->Prop) (e:Ex) (S:St):Prop:=match aq id S.H.bl with
  |some (.loop .busy _ d env ps as bd N)=>match e with
    | .normal=>Q (.tf true) ⟨S.H.next,(id,.loop .ready none d env ps as bd N)::cB id S.H.bl⟩
    | .exit i=>Q (.tf false) ⟨S.H.next,(id,.loop .done (some (.exit i)) d env ps as bd N)::cB id S.H.bl⟩
    | .ret=>Q (.tf false) ⟨S.H.next,(id,.loop .done (some .ret) d env ps as bd N)::cB id S.H.bl⟩
  |_=>False
def Bl (ar:Nat->Ar) (id:Nat) (vs:List V) (H:aO) (Q:V->aO->Prop):Prop:=match aq id H.bl with
  |some (.loop .ready none d env ps as bd N)=>vs.length=ps.length/\lW (ar N) as ⟨uS ps vs env,H,[]⟩ fun e S=>match e with
    | .normal=>match aq id S.H.bl with
      |some (.loop .ready none d' env' ps' as' Nb N')=>lW (ar N) bd ⟨S.env,⟨S.H.next,(id,.loop .busy none d' env' ps' as' Nb N')::cB id S.H.bl⟩,S.ms⟩ (mz id Q)
      |_=>False
    |_=>False
  |_=>False
section
variable {P:Program} {N:Nat} {Y:Ctx} {ι ι':aB} {μ μ':Mu} {H:aO} {w w':World} {out:Option Nat} {base:Nat}
theorem zQ:∀{ps:List Nat} {vs:List V} {args:List Value} {env:List (Nat×V)} {tmps:Array Value},aR ι μ vs args->(∀p∈ps,p<N)->tmps.size=N->fS ι μ env tmps ->
    fS ι μ (uS ps vs env) ((ps.zip args).foldl (fun t (p,v)=>t.setIfInBounds p v) tmps)/\((ps.zip args).foldl (fun (t:Array Value) (p,v)=>t.setIfInBounds p v) tmps).size=N
  |[],vs,args,env,tmps,hr,hp,hs,he=>by simp only [uS,List.zip_nil_left,List.foldl_nil];exact ⟨he,hs⟩
  |p::ps,[],args,env,tmps,hr,hp,hs,he=>by rw [hr.of_nil];simp only [uS,List.zip_nil_right,List.foldl_nil];exact ⟨he,hs⟩
  |p::ps,v::vs,args,env,tmps,hr,hp,hs,he=>by
    obtain ⟨x,r,rfl,h1,h2⟩:=hr.cA
    simp only [uS,List.zip_cons_cons,List.foldl_cons]
    refine zQ h2 (fun q hq=>hp q (List.mem_cons_of_mem _ hq)) (by simp [hs]) fun t=>?_
    have hd':p<N:=hp p (List.mem_cons_self ..)
    rw [l9]
    by_cases h:p=t
    · subst h
      rw [if_pos rfl]
      have:(tmps.setIfInBounds p x).getD p undef=x:=by simp [Array.getD,hs,hd']
      rw [this];exact h1
    · rw [if_neg h]
      have:(tmps.setIfInBounds p x).getD t undef=tmps.getD t undef:=by
        simp only [Array.getD_eq_getD_getElem?]
        rw [Array.getElem?_setIfInBounds_ne h]
      rw [this];exact he t
theorem zR {id:Nat} {vs:List V} {Q:V->aO->Prop} (cY:∀N,gT P N (some id) H.next) (h:Bl (fun N=>cS P N (some id) H.next) id vs H Q):around P id vs H Q:=by
  intro Y ι μ w args L hI hr hL
  unfold Bl at h
  split at h<;>try (exact h.elim)
  rename_i d env ps as bd N hb
  obtain ⟨hlen,h⟩:=h
  obtain ⟨L',r,Ld,q1,q2,q3,q4,q5,q6,q7,q8,q9,q10,q11,q12,q13⟩:=hI.live _ _ hb
  rw [hL] at q1;cases q1
  have hnc:∀(r:Loop) c e f,Obj.loop r ≠ .cells c e f:=fun r c e f=>by intro h;cases h
  have hsize : args.size = r.params.size := by have h1 := hr.1; have h2 : r.params.toList.length = ps.length := by rw [q7]
                                               simp at h1 h2;omega
  refine ⟨r.fn,_,r.assign,r.body,w,run_yield q3 hsize,roundIn_of_wpIn trivial ?_⟩
  let Y':Ctx:=⟨Y.w0,ι,μ,some L.b,Y.x,[]⟩
  obtain ⟨he1,Yy⟩:=zQ (env:=env) hr q9 q8 q6
  have hzip:(r.params.zip args).foldl (fun tmps (x:Tmp×Value)=>tmps.setIfInBounds x.1 x.2) r.tmps=(ps.zip args.toList).foldl (fun (t:Array Value) (p,v)=>t.setIfInBounds p v) r.tmps:=by
    rw [<-Array.foldl_toList,Array.toList_zip,q7]
  have hR:fG P N Y' ι μ ⟨uS ps vs env,H,[]⟩ { tmps:=(r.params.zip args).foldl (fun tmps (x:Tmp×Value)=>tmps.setIfInBounds x.1 x.2) r.tmps,defers:=[] } w :=
    ⟨by rw [hzip];exact he1,by rw [hzip];exact Yy,hI.down _,rfl⟩
  have hbase:Y'.base H.next:=fun id hid=>hI.nx id hid
  have hout:nH Y' (some id):=⟨L,hL,rfl⟩
  refine wpIn_mono (dI (cY N) r.assign q10 h Y' ι μ _ w hout hbase hR) fun e a1 w1 hp=>?_
  obtain ⟨Y1,Xe,ι1,μ1,S1,e1,Nc,hx1,Xd⟩:=hp
  have:=Xe.same (by simp [Y'])
  subst this
  cases e1 with
  |exit i=>exact Xd.elim
  |ret=>exact Xd.elim
  |normal =>
    cases hx1
    simp only at Xd
    split at Xd<;>try (exact Xd.elim)
    rename_i d1 env1 ps1 as1 bd1 N1 kP
    obtain ⟨L1,r1,Ld1,p1,p2,p3,p4,p5,p6,p7,p8,p9,p10,p11,p12,p13⟩:=Nc.inv.live _ _ kP
    have Yh:μ1 id=some L:=Nc.inv.m0 _ _ hL
    rw [Yh] at p1;cases p1
    refine ⟨_,run_beginRound p3 p4,?_⟩
    have hlt1:L.b<w1.heap.size:=(Array.getElem?_eq_some_iff.1 p3).1
    have mP := Nc.inv.HG (o' := .loop { r1 with state := .busy }) (B' := .loop .busy none d1 env1 ps1 as1 bd1 N1) kP Yh p3 (hnc _) (fun _ _ e => by cases e)
      ⟨L,{ r1 with state:=.busy },Ld1,Yh,p2,World.putObj_heap_same hlt1,rfl,p5,p6,p7,p8,p9,p10,p11,p12,p13⟩
    have wk:fG P N Y' ι1 μ1 ⟨S1.env,⟨S1.H.next,(id,.loop .busy none d1 env1 ps1 as1 bd1 N1)::cB id S1.H.bl⟩,S1.ms⟩ a1 (w1.putObj L.b (.loop { r1 with state:=.busy })):=⟨Nc.env,Nc.sz,mP,Nc.ms⟩
    refine wpIn_mono (dI (cY N) r.body q11 Xd Y' ι1 μ1 _ _ hout hbase wk) fun e a3 w3 hp=>?_
    obtain ⟨Y3,hY3,ι3,μ3,S3,e3,Nd,Xf,Th⟩:=hp
    have:=hY3.same (by simp [Y'])
    subst this
    unfold mz at Th
    split at Th<;>try (exact Th.elim)
    rename_i j3 d3 env3 ps3 as3 bd3 N3 HF
    obtain ⟨L3,r3,Ld3,s1,s2,s3,s4,s5,s6,s7,s8,s9,s10,s11,s12,s13⟩:=Nd.inv.live _ _ HF
    have hL3:μ3 id=some L:=Nd.inv.m0 _ _ hL
    rw [hL3] at s1;cases s1
    have hlt3:L.b<w3.heap.size:=(Array.getElem?_eq_some_iff.1 s3).1
    have fin:∀(jump:Option Code) (st:qd) (j:Option Ex) (v:V),stR st=(if jump.isNone then .ready else .done)->zA j jump->v = .tf jump.isNone->Q v ⟨S3.H.next,(id,.loop st j d3 env3 ps3 as3 bd3 N3)::cB id S3.H.bl⟩ ->
        ∃v w',(Instr.endRound L.b jump).run P w3 = .ok v w'/\KC P Y ι μ Q (.returned v) w':=fun jump st j v h1 h2 h3 h4=>by
      have hI4 := Nd.inv.HG (o' := .loop { r3 with state := if jump.isNone then .ready else .done, pending := jump }) (B' := .loop st j d3 env3 ps3 as3 bd3 N3) HF hL3 s3 (hnc _) (fun _ _ e => by cases e)
        ⟨L,{ r3 with state:=if jump.isNone then .ready else .done,pending:=jump },Ld3,hL3,s2,World.putObj_heap_same hlt3,h1.symm,h2,s6,s7,s8,s9,s10,s11,s12,s13⟩
      obtain ⟨u1,u2,u3⟩:=hI.up hI4
      subst h3
      exact ⟨_,_,run_endRound jump s3,_,ι3,μ3,_,_,rfl,u2,u3,u1,.tf _,h4⟩
    cases e3 with
    |normal=>cases Xf;exact fin none .ready none _ rfl rfl rfl Th
    |exit i=>cases Xf;exact fin (some (.exit i)) .done (some (.exit i)) _ rfl rfl rfl Th
    |ret=>cases Xf;exact fin (some .ret) .done (some .ret) _ rfl rfl rfl Th
end
end Go.AM
end
section
namespace Go.AM
section
variable {c1 : Nat → List V → aO → (V → aO → Prop) → Prop} {c2 : Nat → List V → V → Prop} {c3 : C → St → (Ex → St → Prop) → Prop}
 {c4:Nat->List V->aO->(V->aO->Prop)->Prop} {c5:O->List Nat->C->C->St->(Ex->St->Prop)->Prop} {c6:C->St->(Ex->St->Prop)->Prop} {c7:GC} {bl:ai}
theorem ji : ∀ {t : Ty} {bl : ai} {vs : List V}, bQ (bM c1 c2 c3 c4 c5 c6 c7) bl t vs = bQ bW bl t vs
 | .unit,bl,vs=>by simp only [bQ]
 | .prod a b,bl,vs=>by simp only [bQ,ji (t:=a),ji (t:=b)]
 | .bool,_,[]=>rfl
 | .str,_,[]=>rfl
 | .int _,_,[]=>rfl
 | .list _,_,[]=>rfl
 | .bU _ _ _,_,[]=>rfl
 | .bool,_,c::cs=>by cases c<;>rfl
 | .str,_,c::cs=>by cases c<;>rfl
 | .int k,_,c::cs=>by cases c<;>rfl
 | .list t,_,c::cs=>by cases c<;>rfl
 | .bU d g t,_,c::cs=>by cases c<;>first|rfl|(simp only [bQ,ji (t:=t)])
theorem rS {t : Ty} {bl : ai} : ∀ {n : Nat} {vs : List V}, lY (bM c1 c2 c3 c4 c5 c6 c7) bl t n vs = lY bW bl t n vs
 |0,[]=>rfl
 |0,_::_=>rfl
 |n+1,vs=>by simp only [lY,ji,rS (n:=n)]
theorem Bm {t : Ty} {xs : List t.den} : ∀ {n i : Nat}, CM (bM c1 c2 c3 c4 c5 c6 c7) t xs n i = CM bW t xs n i
 |0,_=>rfl
 |n+1,i=>by simp only [CM,Bm (n:=n)];rfl
theorem Dp {t:Ty} {g:Bool} {v:V}:keyOf (bM c1 c2 c3 c4 c5 c6 c7) t g v=keyOf bW t g v:=by simp only [keyOf,ji]
theorem Bn {t : Ty} : ∀ {vs : List V}, sX (bM c1 c2 c3 c4 c5 c6 c7) bl t vs = sX bW bl t vs
 |[]=>rfl
 |v::r=>by simp only [sX,ji,Bn (vs:=r)]
theorem nh : ∀ {t : Ty} {x : t.den} {p : List Bool} {vs : List V}, dz (bM c1 c2 c3 c4 c5 c6 c7) bl t x p vs = dz bW bl t x p vs
 |t,x,[],vs=>by cases t<;>simp only [dz,ji]
 | .prod a b,x,false::p,vs=>by simp only [dz,nh (t:=a)]
 | .prod a b,x,true::p,vs=>by simp only [dz,nh (t:=b)]
 | .unit,_,_::_,_=>by simp [dz]
 | .bool,_,_::_,_=>by simp [dz]
 | .str,_,_::_,_=>by simp [dz]
 | .int _,_,_::_,_=>by simp [dz]
 | .list _,_,_::_,_=>by simp [dz]
 | .bU _ _ _,_,_::_,_=>by simp [dz]
theorem rT {t:Ty} {v:V}:elems (bM c1 c2 c3 c4 c5 c6 c7) bl t v=elems bW bl t v:=by cases v<;>rfl
theorem xd:∀{ks:List Kd} {xs ys:List V},bf (bM c1 c2 c3 c4 c5 c6 c7) ks xs ys=bf bW ks xs ys:=by
 intro ks
 induction ks with
 |nil=>intro xs ys;cases xs<;>cases ys<;>rfl
 |cons k ks ih =>
  intro xs ys
  cases xs with
  |nil=>cases k<;>rfl
  |cons x xs =>
   cases ys with
   |nil=>cases k<;>cases x<;>rfl
   |cons y ys=>cases k<;>cases x<;>cases y<;>first|rfl|(simp only [bf,ih];rfl)
theorem xe {mx:Bool} {k:IntKind}:∀{ys:List V} {a:Int},jf (bM c1 c2 c3 c4 c5 c6 c7) mx k a ys=jf bW mx k a ys:=by
 intro ys
 induction ys with
 |nil=>intro a;rfl
 |cons y ys ih=>intro a;cases y<;>first|rfl|(simp only [jf,ih];rfl)
theorem Oj {e:kQ} {vs:List V} {aM:Nat}:kV (bM c1 c2 c3 c4 c5 c6 c7) e vs bl aM=kV bW e vs bl aM:=by
 cases e<;>first|rfl|(simp only [kV,rT,Dp,rS];done)|(simp only [kV,rT,Dp,rS];rfl)
theorem xg {f g : Nat → Option V} (h : ∀ n, f n = g n) : ∀ ns, AP f ns = AP g ns
 |[]=>rfl
 |n::r=>by simp only [AP,h n,xg h r]
theorem Ti {vs:List V} {j:Int}:Nu (bM c1 c2 c3 c4 c5 c6 c7) vs j=Nu bW vs j:=rfl
theorem Bo {cs : List V} : ∀ {l : List (Nat × Nat × Int)} {o : Nat}, CN (bM c1 c2 c3 c4 c5 c6 c7) cs l o = CN bW cs l o
 |[],o=>rfl
 |(eZ,len,j)::r,o=>by simp only [CN,xg (fun n=>Bo (l:=r) (o:=o+n * eZ)),Ti]
theorem tE {i:I} {env:List (Nat×V)} {aM:Nat}:de (bM c1 c2 c3 c4 c5 c6 c7) i env bl aM=de bW i env bl aM:=by
 cases i<;>first|rfl|(simp only [de,Bn,nh,rT,xd,xe,Oj,rS,Bm,Bo];done)|(simp only [de,Bn,nh,rT,xd,xe,Oj,rS,Bm,Bo];rfl)
theorem Bp {i:I} {env:List (Nat×V)} {aM:Nat}:vk (bM c1 c2 c3 c4 c5 c6 c7) i env bl aM=vk bW i env bl aM:=by
 cases i<;>first|rfl|(simp only [vk,nh,ji];done)|(simp only [vk,nh,ji];rfl)
theorem HW : ∀ {cs : List V}, E9 (bM c1 c2 c3 c4 c5 c6 c7) bl cs = E9 bW bl cs
 |[]=>rfl
 |v::r=>by simp only [E9,HW (cs:=r),ji]
theorem YB {id:Nat}:clU (bM c1 c2 c3 c4 c5 c6 c7) id bl=clU bW id bl:=by
 unfold clU
 split
 ·simp only [nh];rfl
 ·simp only [HW]
 ·rfl
end
theorem Fx {c1 : Nat → List V → aO → (V → aO → Prop) → Prop} {c2 : Nat → List V → V → Prop} {c3 : C → St → (Ex → St → Prop) → Prop}
  {c4:Nat->List V->aO->(V->aO->Prop)->Prop} {c5:O->List Nat->C->C->St->(Ex->St->Prop)->Prop} {c6:C->St->(Ex->St->Prop)->Prop} {c7:GC}:∀{ids:List Nat} {bl:ai},Kq (bM c1 c2 c3 c4 c5 c6 c7) ids bl=Kq bW ids bl
 |[],_=>rfl
 |id::r,bl=>by simp only [Kq,YB,Fx (ids:=r)]
def adl (ar:Ar) (x:O) (env:List (Nat×V)) (bl:ai) (aM:Nat):Out:=some ([],x.ev env,[])
def Tj (ar:Ar) (c:O) (a:O) (b:O) (env:List (Nat×V)) (bl:ai) (aM:Nat):Out :=
  match c.ev env with
  | .tf true=>some ([],a.ev env,[])
  | .tf false=>some ([],b.ev env,[])
  | .bool c=>match Ko (a.ev env),Ko (b.ev env) with
   |some x,some y=>some ([],.bool (ar.Kn c x y),[])
   |_,_=>none
  |_=>none
def Ol (ar:Ar) (z:List V) (env:List (Nat×V)) (bl:ai) (aM:Nat):Out:=some ([],.ptr aM 0,[(aM,some (.cells z false))])
def YC (ar:Ar) (x:O) (env:List (Nat×V)) (bl:ai) (aM:Nat):Out:=match (x.ev env).cells? with
  |some cs=>some ([],.ptr aM 0,[(aM,some (.cells cs false))])
  |none=>none
def Om (ar:Ar) (z:List V) (parts:List (Nat×Nat×O)) (env:List (Nat×V)) (bl:ai) (aM:Nat):Out:=match uF parts env z with
  |some cs=>some ([],.agg cs,[])
  |none=>none
def KP (ar:Ar) (t:Ty) (xs:List O) (env:List (Nat×V)) (bl:ai) (aM:Nat):Out:=match sX ar bl t (xs.map (·.ev env)) with
  |some (ys,u)=>some ([],.sl aM t 0 xs.length,u++[(aM,some (.arr t ys false))])
  |none=>none
def Tk (ar:Ar) (agg:Bool) (k:Nat) (x:O) (env:List (Nat×V)) (bl:ai) (aM:Nat):Out :=
  match x.ev env with
  | .ptr id off=>match aq id bl with
   |some (.cells cs _)=>match cut off k cs with
    |some vs=>match fQ agg vs with
     |some v=>some ([],v,[])
     |none=>none
    |none=>none
   |_=>none
  | .av cs=>match cut 0 k cs with
   |some vs=>match fQ agg vs with
    |some v=>some ([],v,[])
    |none=>none
   |none=>none
  | .ep id t i p=>match aq id bl with
   |some (.arr t' xs _)=>if t=t' then
     match pK t' (ar.get t'.zero xs i) p with
     |some ⟨t2,y⟩=>match dL t2 y with
      |vs=>if vs.length=k then (match fQ agg vs with
       |some v=>some ([ar.EW i (ar.len xs)],v,[])
       |none=>none) else none
     |none=>none
    else none
   |some (.j8 t' xs i' p' v)=>if t=t'/\p=p'/\k=1 then (match agg with
    |false=>some ([ar.eq (Int.ofNat i) (Int.ofNat i')],v,[])
    |true=>none) else none
   |_=>none
  | .ip t y=>match dL t y with
   |vs=>if vs.length=k then (match fQ agg vs with
    |some v=>some ([],v,[])
    |none=>none) else none
  | .pa id t m=>match aq id bl with
   |some (.arr t' xs _)=>if t=t' then (match CM ar t' xs m 0 with
    |vs=>if vs.length=k then (match fQ agg vs with
     |some v=>some ([],v,[])
     |none=>none) else none) else none
   |_=>none
  | .sp id o l=>match aq id bl with
   |some (.cells cs _)=>match k with
    |1=>match CN ar cs l o with
     |some v=>match fQ agg [v] with
      |some v=>some ([],v,[])
      |none=>none
     |none=>none
    |_=>none
   |_=>none
  |_=>none
def On (ar:Ar) (k:Nat) (a:O) (x:O) (env:List (Nat×V)) (bl:ai) (aM:Nat):Out :=
  match (x.ev env).cells? with
  |none=>none
  |some vs=>if vs.length=k then
   (match a.ev env with
   | .ptr id off=>match aq id bl with
    |some (.cells cs false)=>match nP off vs cs with
     |some cs'=>some ([],.any,[(id,some (.cells cs' false))])
     |none=>none
    |_=>none
   | .ep id t i p=>match aq id bl with
    |some (.arr t' xs false)=>if t=t' then
      match dz ar bl t' (ar.get t'.zero xs i) p vs with
      |some (y,u)=>match rq id u with
       |true=>some ([ar.EW i (ar.len xs)],.any,u++[(id,some (.arr t' (ar.set xs i y) false))])
       |false=>none
      |none=>none
     else none
    |_=>none
   | .pa id t m=>match aq id bl with
    |some (.arr t' xs false)=>if t=t' then
      match lY ar bl t' m vs with
      |some (ys,u)=>match rq id u with
       |true=>some ([],.any,u++[(id,some (.arr t' ys false))])
       |false=>none
      |none=>none
     else none
    |_=>none
   | .sp id o l=>match aq id bl with
    |some (.cells cs false)=>match nP (o+ke l) vs cs with
     |some cs'=>some ([],.any,[(id,some (.cells cs' false))])
     |none=>none
    |_=>none
   |_=>none) else none
def YD (ar:Ar) (op:fD) (x:O) (y:O) (env:List (Nat×V)) (bl:ai) (aM:Nat):Out :=
  match x.ev env,y.ev env with
  | .int k a,.int k' b=>match op with
   | .shl=>zu ar .shl k a b
   | .shr=>zu ar .shr k a b
   |_=>if k=k' then E7 ar op k a b else none
  | .str a,.str b=>E8 ar op a b
  |_,_=>none
def YE (ar:Ar) (neg:Bool) (x:O) (y:O) (env:List (Nat×V)) (bl:ai) (aM:Nat):Out:=match Ko (x.ev env),Ko (y.ev env) with
  |some a,some b=>some ([],.bool (match neg with|true=>ar.sV (ar.beq a b)|false=>ar.beq a b),[])
  |_,_=>none
def YF (ar:Ar) (neg:Bool) (ks:List Kd) (x:O) (y:O) (env:List (Nat×V)) (bl:ai) (aM:Nat):Out :=
  match x.ev env,y.ev env with
  | .agg xs,.agg ys=>match bf ar ks xs ys with
   |some c=>some ([],.bool (match neg with|true=>ar.sV c|false=>c),[])
   |none=>none
  |_,_=>none
def YG (ar:Ar) (x:O) (env:List (Nat×V)) (bl:ai) (aM:Nat):Out:=match x.ev env with
  | .int k a=>match k.signed with
   |true=>match ar.sub 0 a with|z=>some ([ar.cP k z],.int k z,[])
   |false=>some ([],.int k (ar.wr k (ar.sub 0 a)),[])
  |_=>none
def YH (ar:Ar) (x:O) (env:List (Nat×V)) (bl:ai) (aM:Nat):Out:=match x.ev env with
  | .tf b=>some ([],.tf (!b),[])
  | .bool b=>some ([],.bool (ar.sV b),[])
  |_=>none
def Tl (ar:Ar) (k:IntKind) (x:O) (env:List (Nat×V)) (bl:ai) (aM:Nat):Out:=match x.ev env with
  | .int _ n=>some ([ar.cP k n],.int k n,[])
  |_=>none
def YI (ar:Ar) (off:Nat) (path:List Bool) (x:O) (env:List (Nat×V)) (bl:ai) (aM:Nat):Out:=match x.ev env with
  | .ptr id o=>some ([],.ptr id (o+off),[])
  | .av cs=>if off<=cs.length then some ([],.av (cs.drop off),[]) else none
  | .ep id t i p=>match t.qZ p with
   |some t1=>if t1.b7 path=off then (match t1.qZ path with
    |some _=>some ([],.ep id t i (p++path),[])
    |none=>none) else none
   |none=>none
  | .ip t y=>if t.b7 path=off then (match pK t y path with
   |some ⟨t2,z⟩=>some ([],.ip t2 z,[])
   |none=>none) else none
  | .pa id t m=>if (off / t.sz) * t.sz=off/\off / t.sz<m then some ([],.ep id t (off / t.sz) [],[]) else none
  | .jP t xs=>if (off / t.sz) * t.sz=off then some ([ar.EW (off / t.sz) (ar.len xs)],.ip t (ar.get t.zero xs (off / t.sz)),[]) else none
  | .sp id o l=>some ([],.sp id (o+off) l,[])
  |_=>none
def Oo (ar:Ar) (agg:Bool) (off:Nat) (k:Nat) (x:O) (env:List (Nat×V)) (bl:ai) (aM:Nat):Out:=match x.ev env with
  | .agg cs=>match cut off k cs with
   |some vs=>match fQ agg vs with
    |some v=>some ([],v,[])
    |none=>none
   |none=>none
  |_=>none
def YJ (ar:Ar) (eZ:Nat) (x:O) (i:O) (env:List (Nat×V)) (bl:ai) (aM:Nat):Out :=
  match i.ev env with
  | .int _ n=>match x.ev env with
   | .sl id t lo m=>if t.sz=eZ then some ([ar.gz n (Int.ofNat m)],.ep id t (ar.AN lo (ar.sW n)) [],[]) else none
   | .eG t xs=>if t.sz=eZ then some ([ar.gz n (Int.ofNat (ar.len xs))],.ip t (ar.get t.zero xs (ar.sW n)),[]) else none
   |_=>none
  |_=>none
def Tm (ar:Ar) (len:Nat) (eZ:Nat) (x:O) (i:O) (env:List (Nat×V)) (bl:ai) (aM:Nat):Out :=
  match x.ev env with
  | .pa id t m=>match i.ev env with
   | .int _ j=>if t.sz=eZ/\m=len then some ([ar.gz j (Int.ofNat len)],.ep id t (ar.sW j) [],[]) else none
   |_=>none
  | .jP t xs=>match i.ev env with
   | .int _ j=>if t.sz=eZ then some ([ar.gz j (Int.ofNat len),ar.gz j (Int.ofNat (ar.len xs))],.ip t (ar.get t.zero xs (ar.sW j)),[]) else none
   |_=>none
  | .ptr id o=>match i.ev env with
   | .int _ j=>some ([ar.gz j (Int.ofNat len)],.sp id o [(eZ,len,j)],[])
   |_=>none
  | .sp id o l=>match i.ev env with
   | .int _ j=>some ([ar.gz j (Int.ofNat len)],.sp id o ((eZ,len,j)::l),[])
   |_=>none
  | .av cs=>match i.ev env with
   | .int _ (.ofNat n)=>if n<len then (if n * eZ<=cs.length then some ([],.av (cs.drop (n * eZ)),[]) else none) else none
   |_=>none
  |_=>none
def YK (ar:Ar) (k:Nat) (x:O) (env:List (Nat×V)) (bl:ai) (aM:Nat):Out:=match x.ev env with
  | .cG vs=>match vs[k]? with
   |some v=>some ([],v,[])
   |none=>none
  |_=>none
def YL (ar:Ar) (x:O) (env:List (Nat×V)) (bl:ai) (aM:Nat):Out:=match x.ev env with
  | .sl _ _ _ n=>some ([],.int .i64 (Int.ofNat n),[])
  | .eG _ xs=>some ([],.int .i64 (Int.ofNat (ar.len xs)),[])
  | .bA=>some ([],.int .i64 0,[])
  |_=>none
def Tn (ar:Ar) (x:O) (env:List (Nat×V)) (bl:ai) (aM:Nat):Out:=match x.ev env with
  | .str s=>some ([],.int .i64 (ar.Km s),[])
  |_=>none
def To (ar:Ar) (n:Nat) (env:List (Nat×V)) (bl:ai) (aM:Nat):Out:=some ([],.int .i64 (Int.ofNat n),[])
def KQ (ar:Ar) (eZ:Nat) (x:O) (y:O) (env:List (Nat×V)) (bl:ai) (aM:Nat):Out :=
  match x.ev env with
  | .bA=>match Nt (y.ev env) with
   |some t=>if t.sz=eZ then
     (match elems ar bl t (y.ev env) with
     |some ys=>match ar.len ys with
      |m=>some ([ar.EW m cz],.sl aM t 0 m,[(aM,some (.arr t ys false))])
     |none=>none) else none
   |none=>none
  | .sl id t lo n=>if t.sz=eZ then
   (match aq id bl with
   |some (.arr t' xs false)=>if t'=t then
    (match jK t' t xs with
    |some xs'=>match elems ar bl t (y.ev env) with
     |some ys=>match ar.AN n (ar.len ys) with
      |m=>some ([ar.EW m cz],.sl aM t 0 m,[(id,none),(aM,some (.arr t (ar.app (ar.sub' xs' lo n) ys) false))])
     |none=>none
    |none=>none) else none
   |_=>none) else none
  | .kO t xs=>if t.sz=eZ then
   (match elems ar bl t (y.ev env) with
   |some ys=>match ar.AN (ar.len xs) (ar.len ys) with
    |m=>some ([ar.EW 0 (ar.len ys),ar.EW m cz],.sl aM t 0 m,[(aM,some (.arr t (ar.app xs ys) false))])
   |none=>none) else none
  |_=>none
def Fy (ar:Ar) (t:Ty) (n:O) (env:List (Nat×V)) (bl:ai) (aM:Nat):Out:=match n.ev env with
  | .int _ z=>match ar.sW z with
   |m=>some ([ar.gz z (Int.ofNat cz)],.sl aM t 0 m,[(aM,some (.arr t (ar.rep m t.zero) false))])
  |_=>none
def Tp (ar:Ar) (f:Nat) (a:List O) (b:List O) (env:List (Nat×V)) (bl:ai) (aM:Nat):Out:=some ([],.fn f (a.map (·.ev env)) (b.map (·.ev env)),[])
def Oq (ar:Ar) (eZ:Nat) (x:O) (lo:Option O) (hi:Option O) (mx:Option O) (env:List (Nat×V)) (bl:ai) (aM:Nat):Out :=
  match mx with
  |some m=>match hi with
   |some h=>match qe (m.ev env),qe (h.ev env),cV env 0 lo with
    |some a,some b,some c=>match x.ev env with
     | .eG t xs=>some ([ar.eq c 0,ar.eq a b,ar.eq a (Int.ofNat (ar.len xs))],.kO t xs,[])
     | .bA=>some ([ar.eq a 0,ar.eq b 0,ar.eq c 0],.bA,[])
     |_=>none
    |_,_,_=>none
   |none=>none
  |none =>
   match x.ev env with
   | .sl id t l n=>if t.sz=eZ then
    (match cV env 0 lo,cV env (Int.ofNat n) hi with
    |some a,some b=>some ([ar.le 0 a,ar.le a b,ar.le b (Int.ofNat n)],.sl id t (ar.AN l (ar.sW a)) (ar.Nr (ar.sW b) (ar.sW a)),[])
    |_,_=>none) else none
   | .eG t xs=>if t.sz=eZ then
    (match cV env 0 lo,cV env (Int.ofNat (ar.len xs)) hi with
    |some a,some b=>some ([ar.le 0 a,ar.le a b,ar.le b (Int.ofNat (ar.len xs))],.eG t (ar.sub' xs (ar.sW a) (ar.Nr (ar.sW b) (ar.sW a))),[])
    |_,_=>none) else none
   | .bA=>(match cV env 0 lo,cV env 0 hi with
    |some a,some b=>some ([ar.eq a 0,ar.eq b 0],.bA,[])
    |_,_=>none)
   |_=>none
def KR (ar:Ar) (mx:Bool) (x:O) (ys:List O) (env:List (Nat×V)) (bl:ai) (aM:Nat):Out:=match x.ev env with
  | .int k a=>match jf ar mx k a (ys.map (·.ev env)) with
   |some z=>some ([],.int k z,[])
   |none=>none
  |_=>none
def Tq (ar:Ar) (i:I) (env:List (Nat×V)) (bl:ai) (aM:Nat):Out:=match i with
 | .mv x=>adl ar x env bl aM
 | .pick c a b=>Tj ar c a b env bl aM
 | .alloc z=>Ol ar z env bl aM
 | .box x=>YC ar x env bl aM
 | .build z parts=>Om ar z parts env bl aM
 | .bI t xs=>KP ar t xs env bl aM
 | .load agg k x=>Tk ar agg k x env bl aM
 | .store k a x=>On ar k a x env bl aM
 | .bin op x y=>YD ar op x y env bl aM
 | .SB neg x y=>YE ar neg x y env bl aM
 | .eqs neg ks x y=>YF ar neg ks x y env bl aM
 | .neg x=>YG ar x env bl aM
 | .not x=>YH ar x env bl aM
 | .conv k x=>Tl ar k x env bl aM
 | .qc off path x=>YI ar off path x env bl aM
 | .field agg off k x=>Oo ar agg off k x env bl aM
 | .idx eZ x i=>YJ ar eZ x i env bl aM
 | .yO len eZ x i=>Tm ar len eZ x i env bl aM
 | .ext k x=>YK ar k x env bl aM
 | .len x=>YL ar x env bl aM
 | .lens x=>Tn ar x env bl aM
 | .yP n=>To ar n env bl aM
 | .append eZ x y=>KQ ar eZ x y env bl aM
 | .je t n=>Fy ar t n env bl aM
 | .AL f a b=>Tp ar f a b env bl aM
 | .slice eZ x lo hi mx=>Oq ar eZ x lo hi mx env bl aM
 | .lF mx x ys=>KR ar mx x ys env bl aM
 | .ex e xs=>kV ar e (xs.map (·.ev env)) bl aM
theorem tF {ar:Ar} {i:I} {env:List (Nat×V)} {bl:ai} {aM:Nat}:Tq ar i env bl aM=de ar i env bl aM:=by cases i<;>rfl
structure Rn where
 call:Nat->List V->aO->Option (V×aO)
 round:Nat->List V->aO->Option (V×aO)
 dy:Nat->List V->Option V
 loop:Nat->Option Nat->C->St->Option (Ex×St)
def Bq (g:Option (Nat×Bool)) (S:St):Option (Bool×St):=match g with
 |none=>some (true,S)
 |some (s,b)=>match get s S.env with
  | .tf c=>some (match c,b with|true,true=>true|false,false=>true|_,_=>false,S)
  | .bool c=>some (match c,b with|true,true=>true|false,false=>true|_,_=>false,Sg s c S)
  | .cG _=>some (false,S)
  |_=>none
def vp : List Bool → Bool
 |[]=>true
 |true::r=>vp r
 |false::_=>false
def rU (rn : Rn) : List dD → St → Option St
 |[],S=>some S
 | .op d g i::r,S=>match Bq g S with
  |some (true,S)=>match Tq bW i S.env S.H.bl S.H.next with
   |some (ob,v,u)=>match vp ob with
    |true=>rU rn r ⟨put d v S.env,⟨CA i.lays S.H.next,bV u S.H.bl⟩,S.ms⟩
    |false=>none
   |none=>none
  |some (false,S)=>rU rn r ⟨put d (.cG []) S.env,S.H,S.ms⟩
  |none=>none
 | .call d g f a tys::r,S=>match Bq g S with
  |some (true,S)=>match f.ev S.env with
   | .fn f fs cs=>match rn.call f (fs++cw tys (a.map (·.ev S.env))++cs) S.H with
    |some (v,H)=>rU rn r ⟨put d v S.env,H,S.ms⟩
    |none=>none
   | .yl id=>match rn.round id (cw tys (a.map (·.ev S.env))) S.H with
    |some (v,H)=>rU rn r ⟨put d v S.env,H,S.ms⟩
    |none=>none
   |_=>none
  |some (false,S)=>rU rn r ⟨put d (.cG []) S.env,S.H,S.ms⟩
  |none=>none
def HX (gs:List Nat) (d:Option Nat) (v:V):V:=match d with
 |none=>v
 |some t=>match tg t gs with
  |false=>v
  |true=>match v with
   | .bool c=>.tf c
   |v=>v
def Xg (rn : Rn) (gs : List Nat) (b : Nat) : List dD → Nat → List (Nat × V) → ai → List DR → Option (List (Nat × V) × ai × List DR)
 |[],_,env,bl,bP=>some (env,bl,bP)
 | .op d g i::r,k,env,bl,bP=>match CB g env with
  |some true=>match Tq bW i env bl (b+k) with
   |some (ob,v,u)=>match vp ob with
    |true=>Xg rn gs b r (k+1) (put d (HX gs d v) env) (bV u bl) (qi k (mU i env) (u.map (·.1)) bP)
    |false=>none
   |none=>none
  |some false=>Xg rn gs b r (k+1) (put d (.cG []) env) bl bP
  |none=>none
 | .call d g f a tys::r,k,env,bl,bP=>match CB g env with
  |some true=>match f.ev env with
   | .fn f fs cs=>match fs++cw tys (a.map (·.ev env))++cs with
    |vs=>match cL (fin bW bl 8) vs with
     |some vs'=>match rn.dy f vs' with
      |some x=>match A2 x||vs.all (cJ 8) with
       |true=>Xg rn gs b r (k+1) (put d (HX gs d x) env) bl (qi k (jn bl vs) [] bP)
       |false=>none
      |none=>none
     |none=>none
   |_=>none
  |some false=>Xg rn gs b r (k+1) (put d (.cG []) env) bl bP
  |none=>none
def Ot (j:Option Ex) (S:St):Option (Ex×St):=match j with
 |none=>some (.normal,S)
 |some e=>match e with
  | .normal=>none
  | .exit i=>some (.exit i,S)
  | .ret=>some (.ret,S)
def Bs (id:Nat) (sh:List Nat) (S:St) (H:aO):Option (Ex×St):=match aq id H.bl with
 |some (.loop st j _ _ _ _ _ _)=>match st with
  | .busy=>none
  |_=>match ej sh (cB id H.bl) with
   |some bl=>Ot j ⟨S.env,⟨H.next,bl⟩,S.ms⟩
   |none=>none
 |_=>none
def rE (rn : Rn) (N : Nat) (out : Option Nat) : C → St → Option (Ex × St)
 | .skip,S=>some (.normal,S)
 | .cF is,S=>match rU rn is S with
  |some S=>some (.normal,S)
  |none=>none
 | .draw ps is,S=>match Xg rn (qj is) S.H.next is 0 S.env S.H.bl [] with
  |some (env,bl,bP)=>match vW ps bP with
   |true=>some (.normal,⟨env,⟨S.H.next+is.length,bl⟩,S.ms⟩)
   |false=>none
  |none=>none
 | .seq a b,S=>match rE rn N out a S with
  |some (.normal,S)=>rE rn N out b S
  |r=>r
 | .cond c a b,S=>match c.ev S.env with
  | .tf true=>rE rn N out a S
  | .tf false=>rE rn N out b S
  | .bool true=>rE rn N out a (M5 c true S)
  | .bool false=>rE rn N out b (M5 c false S)
  |_=>none
 | .block id c,S=>match rE rn N out c S with
  |some (.exit id',S)=>match Nat.beq id' id with
   |true=>some (.normal,S)
   |false=>some (.exit id',S)
  |r=>r
 | .loop c,S=>rn.loop N out c S
 | .exit id,S=>some (.exit id,S)
 | .ret,S=>some (.ret,S)
 | .gk _ _ _ _ _ _ _ _ _ _ _,_=>none
 | .c9 f ps a b,S=>match ps.all (Nat.blt · N) with
  |false=>none
  |true=>match f.ev S.env with
   | .fn fid first cap=>match out with
    |none=>match S.ms with
     |[]=>match rn.call fid (first++[.yl (S.H.next+1)]++cap) ⟨S.H.next+2,(S.H.next+1,.loop .ready none S.H.next S.env ps a b N)::(S.H.next,.fC)::S.H.bl⟩ with
      |some (_,H)=>Bs (S.H.next+1) [S.H.next] S H
      |none=>none
     |_::_=>none
    |some HV=>match aq HV S.H.bl with
     |some (.loop _ _ d _ _ _ _ _)=>match rn.call fid (first++[.yl S.H.next]++cap) ⟨S.H.next+1,(S.H.next,.loop .ready none d S.env ps a b N)::S.H.bl⟩ with
      |some (_,H)=>Bs S.H.next [] S H
      |none=>none
     |_=>none
   |_=>none
section
variable {P:Program} {N:Nat} {Y:Ctx} {ι ι':aB} {μ μ':Mu} {H:aO} {w w':World} {out:Option Nat} {base:Nat}
structure YM (P:Program) (rn:Rn):Prop where
 call:∀{f vs H v H'},rn.call f vs H=some (v,H')->dB P f vs H fun v2 H2=>v2=v/\H2=H'
 round:∀{id vs H v H'},rn.round id vs H=some (v,H')->around P id vs H fun v2 H2=>v2=v/\H2=H'
 dy:∀{f vs v},rn.dy f vs=some v->dy P f vs v
 loop:∀{N out base c S e S' K},rn.loop N out c S=some (e,S')->K e S'->∃n,unr (cS P N out base) c n S K
 mixed:P.follows .mixedOrders=true
theorem Dq {id:Nat} {vs:List V} {Q Q':V->aO->Prop} (h:around P id vs H Q) (hq:∀v H,Q v H->Q' v H):around P id vs H Q':=fun Y ι μ w args L h1 h2 h3=>by
 obtain ⟨f,tmps,as,bd,w1,h4,h5⟩:=h Y ι μ w args L h1 h2 h3
 exact ⟨f,tmps,as,bd,w1,h4,h5.mono fun e w' ⟨v,ι',μ',r,H',h1,h2,h3,h4,h5,h6⟩=>⟨v,ι',μ',r,H',h1,h2,h3,h4,h5,hq _ _ h6⟩⟩
theorem tG : ∀ {ob : List Bool}, vp ob = true → qf ob
 |[],_=>trivial
 |[true],_=>rfl
 |true::b::r,h=>⟨rfl,tG (ob:=b::r) h⟩
 |false::_,h=>by cases h
theorem o7 {g:Option (Nat×Bool)} {d:Option Nat} {S S':St} {c:Bool} (h:Bq g S=some (c,S')) {K run:St->Prop} (hk:(c=true->run S')/\(c=false->K ⟨put d (.cG []) S'.env,S'.H,S'.ms⟩)):jg g d S K run:=by
 cases g with
 |none=>cases h;exact hk.1 rfl
 |some p =>
  obtain ⟨s,b⟩:=p
  simp only [Bq] at h
  simp only [jg]
  split at h<;>try (cases h;done)
  ·rename_i c' hc
   cases h
   simp only [hc]
   cases c'<;>cases b<;>first|exact hk.1 rfl|exact hk.2 rfl
  ·rename_i c' hc
   cases h
   simp only [hc]
   cases c'
   ·refine ⟨fun e => (by cases e), fun _ => ?_⟩
    cases b<;>first|exact hk.1 rfl|exact hk.2 rfl
   ·refine ⟨fun _ => ?_, fun e => (by cases e)⟩
    cases b<;>first|exact hk.1 rfl|exact hk.2 rfl
  ·rename_i vs hc
   cases h
   simp only [hc]
   exact hk.2 rfl
theorem nj {ar : Ar} {d : Option Nat} {i : I} {S : St} {K : St → Prop} {ob : List Bool} {v : V} {u : dU} (aj : de ar i S.env S.H.bl S.H.next = some (ob, v, u)) (cX : qf ob)
  (hk:K ⟨put d v S.env,⟨CA i.lays S.H.next,bV u S.H.bl⟩,S.ms⟩):wpOp ar d i S K:=by
 refine .inl ?_
 unfold ru
 rw [aj]
 cases ob with
 |nil=>exact hk
 |cons b r=>exact ⟨cX,hk⟩
theorem Ou {ar : Ar} {d : Option Nat} {i : I} {S : St} {K : St → Prop} {ob : List Bool} {v : V} {u : dU} (aj : vk ar i S.env S.H.bl S.H.next = some (ob, v, u)) (cX : qf ob)
  (hk:K ⟨put d v S.env,⟨CA i.lays S.H.next,bV u S.H.bl⟩,S.ms⟩):wpOp ar d i S K:=by
 refine .inr (.inl ?_)
 unfold ru
 rw [aj]
 cases ob with
 |nil=>exact hk
 |cons b r=>exact ⟨cX,hk⟩
theorem Ov {ar : Ar} {d : Option Nat} {i : I} {S : St} {K : St → Prop} {ob : List Bool} {v : V} {u u' : dU} {ids : List Nat} (hu : Kq ar ids S.H.bl = some u') (aj : de ar i S.env (bV u' S.H.bl) S.H.next = some (ob, v, u)) (cX : qf ob)
  (hk:K ⟨put d v S.env,⟨CA i.lays S.H.next,bV u (bV u' S.H.bl)⟩,S.ms⟩):wpOp ar d i S K:=by
 refine .inr (.inr ⟨ids,u',hu,?_⟩)
 unfold ru
 rw [aj]
 cases ob with
 |nil=>exact hk
 |cons b r=>exact ⟨cX,hk⟩
theorem mA {rn : Rn} (zS : YM P rn) : ∀ {is : List dD} {S S' : St} {K : St → Prop}, rU rn is S = some S' → K S' → dF (cS P N out base) is S K
 |[],S,S',K,h,hK=>by cases h;exact hK
 | .op d g i::r,S,S',K,h,hK=>by
  simp only [rU] at h
  simp only [dF]
  split at h<;>try (cases h;done)
  ·rename_i S1 hg
   split at h<;>try (cases h;done)
   rename_i ob v u aj
   split at h<;>try (cases h;done)
   rename_i cX
   exact o7 hg ⟨fun _=>nj (tE.trans (tF.symm.trans aj)) (tG cX) (mA zS h hK),fun e=>(by cases e)⟩
  ·rename_i S1 hg
   exact o7 hg ⟨fun e=>(by cases e),fun _=>mA zS h hK⟩
 | .call d g f a tys::r,S,S',K,h,hK=>by
  simp only [rU] at h
  simp only [dF]
  split at h<;>try (cases h;done)
  ·rename_i S1 hg
   refine o7 hg ⟨fun _=>?_,fun e=>(by cases e)⟩
   split at h<;>try (cases h;done)
   ·rename_i fid fs cs hf
    split at h<;>try (cases h;done)
    rename_i v H hc
    refine .inl ?_
    simp only [mS,hf]
    refine iU (zS.call hc) fun v2 H2 hq=>?_
    obtain ⟨rfl,rfl⟩:=hq
    exact mA zS h hK
   ·rename_i id hf
    split at h<;>try (cases h;done)
    rename_i v H hc
    refine .inl ?_
    simp only [mS,hf]
    refine Dq (zS.round hc) fun v2 H2 hq=>?_
    obtain ⟨rfl,rfl⟩:=hq
    exact mA zS h hK
  ·rename_i S1 hg
   exact o7 hg ⟨fun e=>(by cases e),fun _=>mA zS h hK⟩
theorem HY {gs:List Nat} {d:Option Nat} {v:V} {env:List (Nat×V)} {K:List (Nat×V)->Prop} (h:K (put d (HX gs d v) env)):th gs d v env K:=by
 unfold th
 unfold HX at h
 cases d with
 |none=>exact h
 |some t =>
  simp only at h ⊢
  split
  ·rename_i hm;rw [hm] at h;exact h
  ·rename_i hm
   rw [hm] at h
   simp only at h
   split
   ·rename_i c
    cases c
    ·exact ⟨fun e=>(by cases e),fun _=>h⟩
    ·exact ⟨fun _=>h,fun e=>(by cases e)⟩
   ·rename_i hx
    cases v<;>first|exact h|exact absurd rfl (hx _)
theorem xj {rn:Rn} (zS:YM P rn) {gs:List Nat} {b:Nat}:∀{is:List dD} {k:Nat} {env env':List (Nat×V)} {bl bO:ai} {bP Dr:List DR} {K:List (Nat×V)->ai->List DR->Prop},
  Xg rn gs b is k env bl bP=some (env',bO,Dr)->K env' bO Dr->lH (cS P N out base) gs b is k env bl bP K
 |[],k,env,env',bl,bO,bP,Dr,K,h,hK=>by cases h;exact hK
 | .op d g i::r,k,env,env',bl,bO,bP,Dr,K,h,hK=>by
  simp only [Xg] at h
  simp only [lH]
  split at h<;>try (cases h;done)
  ·rename_i hg
   split at h<;>try (cases h;done)
   rename_i ob v u aj
   split at h<;>try (cases h;done)
   rename_i cX
   have Bt:de (cS P N out base) i env bl (b+k)=some (ob,v,u):=tE.trans (tF.symm.trans aj)
   simp only [hg]
   exact .inl (l7 Bt (tG cX) (HY (xj zS h hK)))
  ·rename_i hg
   simp only [hg]
   exact xj zS h hK
 | .call d g f a tys::r,k,env,env',bl,bO,bP,Dr,K,h,hK=>by
  simp only [Xg] at h
  simp only [lH]
  split at h<;>try (cases h;done)
  ·rename_i hg
   split at h<;>try (cases h;done)
   rename_i fid fs cs hf
   split at h<;>try (cases h;done)
   rename_i vs' hm
   split at h<;>try (cases h;done)
   rename_i x hp
   split at h<;>try (cases h;done)
   rename_i hs
   have hm':cL (fin (cS P N out base) bl 8) (fs++cw tys (a.map (·.ev env))++cs)=some vs':=(iT (fun v=>od) _).trans hm
   simp only [hg,hf,hm']
   exact .inl ⟨x,[],zS.dy hp,by rw [hs];rfl,HY (xj zS h hK)⟩
  ·rename_i hg
   simp only [hg]
   exact xj zS h hK
theorem zT {id:Nat} {sh:List Nat} {S:St} {e:Ex} {S':St} {H:aO} (h:Bs id sh S H=some (e,S')) {K:Ex->St->Prop} (hK:K e S'):fH id sh S K H:=by
 unfold Bs at h
 unfold fH
 have key:∀{j S1},Ot j S1=some (e,S')->w9 j S1 K:=fun {j S1} hj=>by
  unfold Ot at hj
  unfold w9
  cases j with
  |none=>cases hj;exact hK
  |some e'=>cases e'<;>simp only at hj ⊢<;>cases hj<;>exact hK
 split at h<;>try (cases h;done)
 rename_i st j _ _ _ _ _ _ hb
 try simp only [hb]
 cases st
 case busy=>cases h
 all_goals
  simp only at h ⊢
  split at h
  ·rename_i hs;first|(rw [hs];exact key h)|exact key h
  ·cases h
theorem rE_ok {rn:Rn} (zS:YM P rn):∀{c:C} {S S':St} {e:Ex} {K:Ex->St->Prop},rE rn N out c S=some (e,S')->K e S'->lW (cS P N out base) c S K:=by
 intro c
 induction c with
 |skip=>intro S S' e K h hK;cases h;exact hK
 |cF is =>
  intro S S' e K h hK
  simp only [rE] at h
  split at h<;>try (cases h;done)
  rename_i S1 hS
  cases h
  exact mA zS hS hK
 |draw ps is =>
  intro S S' e K h hK
  simp only [rE] at h
  split at h<;>try (cases h;done)
  rename_i env bl bP hd
  split at h<;>try (cases h;done)
  rename_i hok
  cases h
  exact xj zS hd ⟨hok,hK⟩
 |seq a b rV rm =>
  intro S S' e K h hK
  simp only [rE] at h
  simp only [lW]
  split at h
  ·rename_i S1 ha
   exact rV ha (rm h hK)
  ·rename_i r hr
   have:e ≠ .normal:=fun he=>by subst he;exact hr _ h
   refine rV h ?_
   cases e with
   |normal=>exact absurd rfl this
   |exit id=>exact hK
   |ret=>exact hK
 |cond c a b rV rm =>
  intro S S' e K h hK
  simp only [rE] at h
  simp only [lW]
  split at h<;>try (cases h;done)
  ·rename_i hc;simp only [hc];exact rV h hK
  ·rename_i hc;simp only [hc];exact rm h hK
  ·rename_i hc;simp only [hc];exact ⟨fun _=>rV h hK,fun e=>(by cases e)⟩
  ·rename_i hc;simp only [hc];exact ⟨fun e=>(by cases e),fun _=>rm h hK⟩
 |block id c ih =>
  intro S S' e K h hK
  simp only [rE] at h
  simp only [lW]
  split at h
  ·rename_i id' S1 hc
   refine ih hc ?_
   simp only
   split at h
   ·rename_i hb;cases h;simp only [hb];exact hK
   ·rename_i hb;cases h;simp only [hb];exact hK
  ·rename_i r hr
   refine ih h ?_
   cases e with
   |normal=>exact hK
   |exit id'=>exact absurd h (hr _ _)
   |ret=>exact hK
 |loop c ih =>
  intro S S' e K h hK
  obtain ⟨n,hn⟩:=zS.loop h hK
  exact .inl (w8 (eK zS.mixed) hn)
 |exit id=>intro S S' e K h hK;cases h;exact hK
 |ret=>intro S S' e K h hK;cases h;exact hK
 |gk pre m it cl e kt kg vt vg pJ b ih=>intro S S' e K h hK;cases h
 |c9 f ps a b rV rm =>
  intro S S' e K h hK
  simp only [rE] at h
  simp only [lW]
  refine .inl (ld ?_)
  unfold Fw
  split at h<;>try (cases h;done)
  rename_i hall
  refine ⟨hall,?_⟩
  split at h<;>try (cases h;done)
  rename_i fid first cap hf
  try simp only [hf]
  cases out with
  |none =>
   simp only at h ⊢
   split at h<;>try (cases h;done)
   rename_i SW
   split at h<;>try (cases h;done)
   rename_i v H1 hc
   refine ⟨SW,?_⟩
   refine iU (zS.call hc) fun v2 H2 hq=>?_
   obtain ⟨rfl,rfl⟩:=hq
   exact zT h hK
  |some HV =>
   simp only at h ⊢
   split at h<;>try (cases h;done)
   rename_i hb
   split at h<;>try (cases h;done)
   rename_i v H1 hc
   try simp only [hb]
   refine iU (zS.call hc) fun v2 H2 hq=>?_
   obtain ⟨rfl,rfl⟩:=hq
   exact zT h hK
end
end Go.AM
end
section
namespace Go.AM
open Go.RowKit
def kD (P : Program) (g : TypeId → Ty → Bool) : Nat → List Field → Ty → Bool
 |_,[],.unit=>true
 |off,[f],ty=>Nat.beq f.offset off&&Nat.beq (P.cellsOf f.type) ty.sz&&g f.type ty
 |off,f::f2::r,.prod a b=>Nat.beq f.offset off&&Nat.beq (P.cellsOf f.type) a.sz&&g f.type a&&kD P g (off+a.sz) (f2::r) b
 |_,_,_=>false
def zU (P:Program) (g:TypeId->Ty->Bool) (fs:List Field) (ty:Ty):Bool:=match fs with
 |[f]=>match ty with
  | .prod a .unit=>kD P g 0 [f] a
  |_=>false
 |fs=>kD P g 0 fs ty
def zV (P : Program) (g : TypeId → Ty → Bool) : Nat → TypeId → Ty → Bool
 |0,_,.unit=>true
 |1,e,ty=>Nat.beq (P.cellsOf e) ty.sz&&g e ty
 |n+2,e,.prod a b=>Nat.beq (P.cellsOf e) a.sz&&g e a&&zV P g (n+1) e b
 |_,_,_=>false
def gI (P : Program) : Nat → TypeId → Ty → Bool
 |0,_,_=>false
 |n+1,t,ty=>match P.underlying t with
  |some .bool=>match ty with | .bool=>true|_=>false
  |some (.int k)=>match ty with | .int k'=>decide (k=k')|_=>false
  |some .string=>match ty with | .str=>true|_=>false
  |some (.slice e)=>match ty with | .list te=>Nat.beq (P.cellsOf e) te.sz&&Nat.blt 0 te.sz&&gI P n e te|_=>false
  |some (.struct fs)=>Nat.beq (P.cellsOf t) ty.sz&&zU P (gI P n) fs.toList ty
  |some (.array m e)=>Nat.beq (P.cellsOf t) ty.sz&&zV P (gI P n) m e ty
  |_=>false
def Wf : (t : Ty) → t.den → Prop
 | .unit,_=>True
 | .bool,_=>True
 | .str,s=>s.size<=maxLen
 | .int k,n=>k.min<=n/\n<=k.max
 | .list t,xs=>xs.length<=maxLen/\∀x∈xs,Wf t x
 | .prod a b,x=>Wf a x.1/\Wf b x.2
 | .bU _ _ a,x=>Wf a x
def iC (w:World):aB:=fun b o=>w.cell? ⟨b,o,none⟩
section
variable {H:Type} {enc:TypeId×Value->H} {P:Program} {w:World} {sp:Nat->Bool} {held:Bool}
theorem Bu {b o:Nat} {a:Addr} {n:Nat} {cs:List Value} (ha:a=⟨b,o,none⟩\/0<n) (hb:a.block=b) (ho:a.off=o) (h:w.cells? 0 a n=some cs):cs.length=n/\Reads (iC w) b o cs/\(0<n->a.spot=none):=by
 unfold World.cells? at h
 rw [if_pos (Nat.zero_le _)] at h
 have key:∀(m:Nat) (xs:List Nat) (cs:List Value),xs.mapM (fun i=>w.cell? (a.add i))=some cs->cs.length=xs.length/\∀(j i:Nat),xs[j]?=some i->w.cell? (a.add i)=cs[j]?:=by
  intro m xs
  induction xs with
  |nil=>intro cs h;simp at h;subst h;exact ⟨rfl,fun j i hj=>by simp at hj⟩
  |cons x xs ih =>
   intro cs h
   rw [List.mapM_cons] at h
   cases hx:w.cell? (a.add x) with
   |none=>simp [hx] at h
   |some v =>
    cases hr:xs.mapM (fun i=>w.cell? (a.add i)) with
    |none=>simp [hx,hr] at h
    |some vs =>
     simp [hx,hr] at h
     subst h
     obtain ⟨h1,h2⟩:=ih vs hr
     refine ⟨by simp [h1],fun j i hj=>?_⟩
     cases j with
     |zero=>simp at hj;subst hj;simpa using hx
     |succ j=>simpa using h2 j i (by simpa using hj)
 obtain ⟨h1,h2⟩:=key 0 _ _ h
 have hlen:cs.length=n:=by simpa using h1
 have Ow:0<n->a.spot=none:=fun hn=>by
  have:=h2 0 0 (by simp [hn])
  simp only [Addr.add,if_true] at this
  have hc:∃v,w.cell? a=some v:=⟨cs[0]'(by omega),by rw [this];simp⟩
  obtain ⟨v,hv⟩:=hc
  unfold World.cell? at hv
  cases hs:a.spot with
  |none=>rfl
  |some s=>rw [hs] at hv;split at hv<;>simp at hv
 refine ⟨hlen,fun j v hv=>?_,Ow⟩
 have hj:j<cs.length:=(List.getElem?_eq_some_iff.1 hv).1
 have:=h2 j j (by rw [List.getElem?_range (by omega)])
 rw [hv] at this
 unfold iC
 have e:a.add j=⟨b,o+j,none⟩:=by
  have hs:=Ow (by omega)
  unfold Addr.add
  subst hb;subst ho
  split
  ·rename_i h0;subst h0;cases a;simp_all
  ·rfl
 rw [e] at this
 exact this
theorem HZ {α : Type} {D : α → List Value → Prop} : ∀ (n : Nat) (f : Nat → α) (g : Nat → List Value), (∀ i, i < n → D (f i) (g i)) → bS D ((List.range n).map f) ((List.range n).flatMap g)
 |0,_,_,_=>rfl
 |n+1,f,g,h=>by
  rw [List.range_succ,List.map_append,List.flatMap_append]
  exact (HZ n f g fun i hi=>h i (by omega)).append ⟨g n,[],by simp,h n (by omega),rfl⟩
theorem Ts {k:IntKind} {n:Int} (h:(Lit.int k n).wf=true):k.min<=n/\n<=k.max:=by
 simpa [Lit.wf] using h
theorem qx {n : Nat} (ih : ∀ {t : TypeId} {ty : Ty}, gI P n t ty = true → ∀ {fuel : Nat} {cs : List Value} {x : DataW H × List MemPlace}, DataW.trod enc P w 0 sp held fuel t cs = some x → ∃ y : ty.den, ak (iC w) ty y cs ∧ Wf ty y)
  {fuel:Nat} {cs:List Value}:∀{fs:List Field} {off:Nat} {ty:Ty},kD P (gI P n) off fs ty=true->cs.length=off+ty.sz ->
   (∀f∈fs,∃x,DataW.trod enc P w 0 sp held fuel f.type ((cs.drop f.offset).take (P.cellsOf f.type))=some x)->∃y:ty.den,ak (iC w) ty y (cs.drop off)/\Wf ty y
 |[],off,ty,h,hl,_=>by
  cases ty<;>simp [kD] at h
  exact ⟨(),by simp [ak];simp [Ty.sz] at hl;omega,trivial⟩
 |[f],off,ty,h,hl,hf=>by
  have h':(Nat.beq f.offset off&&Nat.beq (P.cellsOf f.type) ty.sz&&gI P n f.type ty)=true:=by
   cases ty<;>simpa [kD] using h
  simp only [Bool.and_eq_true] at h'
  obtain ⟨⟨h1,h2⟩,h3⟩:=h'
  have e1:=Nat.eq_of_beq_eq_true h1
  have e2:=Nat.eq_of_beq_eq_true h2
  obtain ⟨x,hx⟩:=hf f (List.mem_singleton_self _)
  rw [e1,e2,List.take_of_length_le (by simp;omega)] at hx
  exact ih h3 hx
 |f::f2::r,off,ty,h,hl,hf=>by
  cases ty<;>simp only [kD,Bool.false_eq_true] at h
  rename_i a b
  simp only [Bool.and_eq_true] at h
  obtain ⟨⟨⟨h1,h2⟩,h3⟩,h4⟩:=h
  have e1:=Nat.eq_of_beq_eq_true h1
  have e2:=Nat.eq_of_beq_eq_true h2
  obtain ⟨x,hx⟩:=hf f (List.mem_cons_self ..)
  rw [e1,e2] at hx
  obtain ⟨y,hy,wy⟩:=ih h3 hx
  simp only [Ty.sz] at hl
  obtain ⟨z,hz,wz⟩:=qx ih h4 (by omega) (fun g hg=>hf g (List.mem_cons_of_mem _ hg))
  refine ⟨(y,z),⟨_,_,?_,hy,hz⟩,wy,wz⟩
  rw [<-List.drop_drop,List.take_append_drop]
theorem H6 {n : Nat} (ih : ∀ {t : TypeId} {ty : Ty}, gI P n t ty = true → ∀ {fuel : Nat} {cs : List Value} {x : DataW H × List MemPlace}, DataW.trod enc P w 0 sp held fuel t cs = some x → ∃ y : ty.den, ak (iC w) ty y cs ∧ Wf ty y)
  {fuel:Nat} {cs:List Value} {e:TypeId}:∀{m i:Nat} {ty:Ty},zV P (gI P n) m e ty=true->cs.length=i * P.cellsOf e+ty.sz ->
   (∀j,i<=j->j<i+m->∃x,DataW.trod enc P w 0 sp held fuel e ((cs.drop (j * P.cellsOf e)).take (P.cellsOf e))=some x)->∃y:ty.den,ak (iC w) ty y (cs.drop (i * P.cellsOf e))/\Wf ty y
 |0,i,ty,h,hl,_=>by
  cases ty<;>simp [zV] at h
  exact ⟨(),by simp [ak];simp [Ty.sz] at hl;omega,trivial⟩
 |1,i,ty,h,hl,hf=>by
  have h':(Nat.beq (P.cellsOf e) ty.sz&&gI P n e ty)=true:=by
   cases ty<;>simpa [zV] using h
  simp only [Bool.and_eq_true] at h'
  have e2:=Nat.eq_of_beq_eq_true h'.1
  obtain ⟨x,hx⟩:=hf i (Nat.le_refl _) (by omega)
  rw [List.take_of_length_le (by rw [List.length_drop];omega)] at hx
  exact ih h'.2 hx
 |m+2,i,ty,h,hl,hf=>by
  cases ty<;>simp only [zV,Bool.false_eq_true] at h
  rename_i a b
  simp only [Bool.and_eq_true] at h
  obtain ⟨⟨h1,h3⟩,h4⟩:=h
  have e2:=Nat.eq_of_beq_eq_true h1
  obtain ⟨x,hx⟩:=hf i (Nat.le_refl _) (by omega)
  obtain ⟨y,hy,wy⟩:=ih h3 hx
  simp only [Ty.sz] at hl
  obtain ⟨z,hz,wz⟩:=H6 ih h4 (i:=i+1) (by rw [Nat.add_mul];omega) (fun j h1 h2=>hf j (by omega) (by omega))
  refine ⟨(y,z),⟨_,_,?_,hy,hz⟩,wy,wz⟩
  rw [show (i+1) * P.cellsOf e=i * P.cellsOf e+P.cellsOf e by rw [Nat.add_mul];omega,<-List.drop_drop,List.take_append_drop]
theorem Ox {n:Nat}:∀{t:TypeId} {ty:Ty},gI P n t ty=true->∀{fuel:Nat} {cs:List Value} {x:DataW H×List MemPlace},DataW.trod enc P w 0 sp held fuel t cs=some x->∃y:ty.den,ak (iC w) ty y cs/\Wf ty y:=by
 induction n with
 |zero=>intro t ty h;cases h
 |succ n ih =>
  intro t ty h fuel cs x hx
  have hx0:=hx
  unfold gI at h
  split at h
  ·rename_i hu
   cases ty<;>simp at h
   cases fuel with
   |zero=>simp [DataW.trod] at hx
   |succ fuel =>
    rcases cs with _|⟨c,_|⟨c2,r⟩⟩
    ·simp [DataW.trod,hu] at hx
    ·cases c <;> simp [DataW.trod, hu] at hx
     exact ⟨_,rfl,trivial⟩
    ·simp [DataW.trod,hu] at hx
  ·rename_i k hu
   cases ty<;>simp at h
   subst h
   cases fuel with
   |zero=>simp [DataW.trod] at hx
   |succ fuel =>
    rcases cs with _|⟨c,_|⟨c2,r⟩⟩
    ·simp [DataW.trod,hu] at hx
    ·cases c <;> simp [DataW.trod, hu] at hx
     obtain ⟨⟨rfl,h2⟩,_⟩:=hx
     exact ⟨_,rfl,Ts h2⟩
    ·simp [DataW.trod,hu] at hx
  ·rename_i hu
   cases ty<;>simp at h
   cases fuel with
   |zero=>simp [DataW.trod] at hx
   |succ fuel =>
    rcases cs with _|⟨c,_|⟨c2,r⟩⟩
    ·simp [DataW.trod,hu] at hx
    ·cases c <;> simp [DataW.trod, hu] at hx
     exact ⟨_,rfl,hx.1⟩
    ·simp [DataW.trod,hu] at hx
  ·rename_i e hu
   cases ty<;>simp only [Bool.false_eq_true] at h
   rename_i te
   simp only [Bool.and_eq_true] at h
   obtain ⟨⟨h1,h2⟩,h3⟩:=h
   have e1:=Nat.eq_of_beq_eq_true h1
   have hpos:0<te.sz:=by simpa using h2
   rcases DataW.trod_slice hu hx with ⟨rfl,rfl⟩|⟨a,len,cap,elems,rest,m,_,rfl,rfl,_,hlc,hm,hel,hE,_,_⟩
   ·exact ⟨[],⟨none,0,by simp,by simp,.inl rfl⟩,by simp,by simp⟩
   ·have each:∀i,i<len->∃(y:te.den) (us:List Value),ak (iC w) te y us/\Wf te y/\us.length=te.sz/\Reads (iC w) a.block (a.off+i * te.sz) us/\(i=0->a.spot=none):=fun i hi=>by
     have:=hE i hi
     have hlt:i<elems.length:=by omega
     rw [List.getElem?_eq_getElem hlt,e1] at this
     cases hc:w.cells? 0 (a.add (i * te.sz)) te.sz with
     |none=>rw [hc] at this;simp at this
     |some us =>
      rw [hc,Option.bind_some] at this
      obtain ⟨y,hy,wy⟩:=ih h3 this
      have hb:(a.add (i * te.sz)).block=a.block:=by unfold Addr.add;split<;>rfl
      have ho:(a.add (i * te.sz)).off=a.off+i * te.sz:=by unfold Addr.add;split<;>simp_all
      obtain ⟨q1,q2,q3⟩:=Bu (.inr hpos) hb ho hc
      refine ⟨y,us,hy,wy,q1,q2,fun h0=>?_⟩
      subst h0
      have:=q3 hpos
      simpa [Addr.add] using this
    by_cases hl0:len=0
    ·subst hl0
     exact ⟨[],⟨some a,cap,rfl,by simp,.inl rfl⟩,by simp,by simp⟩
    ·obtain ⟨f,hf⟩:∃f:Nat->te.den×List Value,∀i,i<len->ak (iC w) te (f i).1 (f i).2/\Wf te (f i).1/\(f i).2.length=te.sz/\Reads (iC w) a.block (a.off+i * te.sz) (f i).2/\(i=0->a.spot=none) :=
      ⟨fun i=>if h:i<len then ((each i h).choose,(each i h).choose_spec.choose) else (te.zero,[]),fun i hi=>by simp only [hi,dif_pos];exact (each i hi).choose_spec.choose_spec⟩
     have Ow:=(hf 0 (by omega)).2.2.2.2 rfl
     have hrd:∀n,n<=len->((List.range n).flatMap fun i=>(f i).2).length=n * te.sz/\Reads (iC w) a.block a.off ((List.range n).flatMap fun i=>(f i).2):=fun n=>by
      induction n with
      |zero=>intro _;exact ⟨by simp,fun j v hv=>by simp at hv⟩
      |succ n ih2 =>
       intro hn
       obtain ⟨l1,l2⟩:=ih2 (by omega)
       obtain ⟨_,_,l3,l4,_⟩:=hf n (by omega)
       rw [List.range_succ,List.flatMap_append]
       simp only [List.flatMap_cons,List.flatMap_nil,List.append_nil]
       refine ⟨by rw [List.length_append,l1,l3,Nat.add_mul];simp,fun j v hv=>?_⟩
       rw [List.getElem?_append] at hv
       split at hv
       ·exact l2 j v hv
       ·rename_i hj
        have:=l4 _ _ hv
        rw [l1] at this hj
        rw [show a.off+n * te.sz+(j - n * te.sz)=a.off+j by omega] at this
        exact this
     refine ⟨(List.range len).map fun i=>(f i).1,⟨some a,cap,by simp,by simpa using hlc,.inr ⟨a.block,a.off,(List.range len).flatMap fun i=>(f i).2,by cases a;simp_all,(hrd len (Nat.le_refl _)).2,HZ _ _ _ fun i hi=>(hf i hi).1⟩⟩,by simp;omega,fun x hx=>?_⟩
     obtain ⟨i,hi,rfl⟩:=List.mem_map.1 hx
     exact (hf i (List.mem_range.1 hi)).2.1
  ·rename_i fs hu
   simp only [Bool.and_eq_true] at h
   obtain ⟨h1,h2⟩:=h
   obtain ⟨xs,m,_,_,hl,hxl,hf⟩:=DataW.trod_struct hu hx
   have hfm:∀f∈fs.toList,∃y,DataW.trod enc P w 0 sp held m f.type ((cs.drop f.offset).take (P.cellsOf f.type))=some y:=fun f hfm=>by
    obtain ⟨i,hi⟩:=List.getElem?_of_mem hfm
    have hi':fs[i]?=some f:=by simpa using hi
    have hlt:i<xs.length:=by rw [hxl];exact (Array.getElem?_eq_some_iff.1 hi').1
    exact ⟨xs[i],by rw [hf i f hi'];simp⟩
   have hlen:cs.length=ty.sz:=by rw [hl,Nat.eq_of_beq_eq_true h1]
   unfold zU at h2
   split at h2
   ·rename_i f hfs
    split at h2<;>try (cases h2;done)
    rename_i a
    have:=qx ih (fuel:=m) (cs:=cs) h2 (by simpa [Ty.sz] using hlen) (fun f' hf'=>by rw [<-hfs] at hf';exact hfm f' hf')
    obtain ⟨y,hy,wy⟩:=this
    exact ⟨(y,()),⟨cs,[],by simp,by simpa using hy,rfl⟩,wy,trivial⟩
   ·have := qx ih (fuel := m) (cs := cs) h2 (by simpa using hlen) hfm
    simpa using this
  ·rename_i m e hu
   simp only [Bool.and_eq_true] at h
   obtain ⟨h1,h2⟩:=h
   obtain ⟨xs,k,_,_,hl,hxl,hf⟩:=DataW.trod_array hu hx
   have:=H6 ih (fuel:=k) (cs:=cs) (i:=0) h2 (by rw [hl,Nat.eq_of_beq_eq_true h1];simp) (fun j _ hj=>⟨xs[j]'(by omega),by rw [hf j (by omega)];simp⟩)
   simpa using this
  ·cases h
end
end Go.AM
end
section
namespace Go.AM
inductive EV (π : List Nat) : V → V → Prop
 |any (v):EV π .any v
 |tf (b):EV π (.tf b) (.tf b)
 |bool (b):EV π (.bool b) (.bool b)
 |tfb (b):EV π (.bool b) (.tf b)
 |int (k n):EV π (.int k n) (.int k n)
 |str (s):EV π (.str s) (.str s)
 |eJ:EV π .eJ .eJ
 |cu:EV π .cu .cu
 |cK:EV π .cK .cK
 |eG (t xs):EV π (.eG t xs) (.eG t xs)
 |kO (t xs):EV π (.kO t xs) (.kO t xs)
 |Tt (t):EV π (.eG t []) .bA
 |bA:EV π .bA .bA
 |sl (id i t lo n) (h:π[id]?=some i):EV π (.sl id t lo n) (.sl i t lo n)
 |YN (id t lo):EV π (.sl id t lo 0) .bA
 |ptr (id i o) (h:π[id]?=some i):EV π (.ptr id o) (.ptr i o)
 |ep (id i t j p) (h:π[id]?=some i):EV π (.ep id t j p) (.ep i t j p)
 |yl (id i) (h:π[id]?=some i):EV π (.yl id) (.yl i)
 |ip (t x):EV π (.ip t x) (.ip t x)
 |av (cs ds) (h:cs.length=ds.length) (h2:∀(i:Nat) v u,cs[i]?=some v->ds[i]?=some u->EV π v u):EV π (.av cs) (.av ds)
 | fn (f as as' cs cs') (h : as.length = as'.length) (h2 : ∀ (i : Nat) v u, as[i]? = some v → as'[i]? = some u → EV π v u)
   (h3:cs.length=cs'.length) (h4:∀(i:Nat) v u,cs[i]?=some v->cs'[i]?=some u->EV π v u):EV π (.fn f as cs) (.fn f as' cs')
 |agg (cs ds) (h:cs.length=ds.length) (h2:∀(i:Nat) v u,cs[i]?=some v->ds[i]?=some u->EV π v u):EV π (.agg cs) (.agg ds)
 |cG (cs ds) (h:cs.length=ds.length) (h2:∀(i:Nat) v u,cs[i]?=some v->ds[i]?=some u->EV π v u):EV π (.cG cs) (.cG ds)
 |bU (t v u) (h:EV π v u):EV π (.bU t v) (.bU t u)
 |cb (c):EV π (.cb c) (.cb c)
 |mp (id i) (h:π[id]?=some i):EV π (.mp id) (.mp i)
 |dZ:EV π .dZ .dZ
 |pa (id i t n) (h:π[id]?=some i):EV π (.pa id t n) (.pa i t n)
 |jP (t xs):EV π (.jP t xs) (.jP t xs)
def sU (π:List Nat) (cs ds:List V):Prop:=cs.length=ds.length/\∀(i:Nat) v u,cs[i]?=some v->ds[i]?=some u->EV π v u
theorem sU.nil {π:List Nat}:sU π [] []:=⟨rfl,fun i v u h=>by simp at h⟩
theorem sU.cons {π:List Nat} {v u:V} {cs ds:List V} (h:EV π v u) (hl:sU π cs ds):sU π (v::cs) (u::ds) :=
 ⟨by simp [hl.1],fun i w y hw hy=>by
  cases i with
  |zero=>simp at hw hy;subst hw;subst hy;exact h
  |succ i=>exact hl.2 i w y (by simpa using hw) (by simpa using hy)⟩
def EE (π:List Nat) (env' env:List (Nat×V)):Prop:=∀p∈env',EV π p.2 (get p.1 env)
def Oy (π:List Nat) (nx:Nat) (bl:ai) (id:Nat) (B:jE):Prop:=∃i,π[id]?=some i/\match B with
 | .cells cs fz=>∃ds,aq i bl=some (.cells ds fz)/\sU π cs ds
 | .arr t xs fz=>aq i bl=some (.arr t xs fz)\/(xs=[]/\nx<=i)
 | .loop st j d env ps as bd N=>∃d0 w7,aq i bl=some (.loop st j d0 w7 ps as bd N)/\π[d]?=some d0/\EE π env w7
 | .fC=>aq i bl=some .fC
 | .map kt kg vt vg es=>aq i bl=some (.map kt kg vt vg es)
 | .j8 t xs k p v=>∃u,aq i bl=some (.j8 t xs k p u)/\EV π v u
structure mB (base:Nat) (π:List Nat) (S S':St):Prop where
 pre:π.take base=List.range base
 nx:S'.H.next=π.length
 ms:S'.ms.map (fun i=>π[i]?)=S.ms.map some
 env:EE π S'.env S.env
 bl:∀p∈S'.H.bl,Oy π S.H.next S.H.bl p.1 p.2
 inj:∀p∈S'.H.bl,∀q∈S'.H.bl,π[p.1]?=π[q.1]?->p.1=q.1
section
variable {P:Program} {N:Nat} {Y:Ctx} {ι ι':aB} {μ μ':Mu} {H:aO} {w w':World} {out:Option Nat} {base:Nat} {π:List Nat}
theorem aR.gE {cs ds:List V} {xs:List Value} (h:cs.length=ds.length) (ih:∀(i:Nat) v u,cs[i]?=some v->ds[i]?=some u->∀{x:Value},Rel ι μ u x->Rel ι (μ.gE π) v x) (hr:aR ι μ ds xs):aR ι (μ.gE π) cs xs :=
 ⟨h.trans hr.1,fun i v x hv hx=>by
  have hi:i<ds.length:=by have:=(List.getElem?_eq_some_iff.1 hv).1;omega
  exact ih i v ds[i] hv (by simp [hi]) (hr.2 i ds[i] x (by simp [hi]) hx)⟩
theorem EV.rel {v' v:V} (h:EV π v' v):∀{x:Value},Rel ι μ v x->Rel ι (μ.gE π) v' x:=by
 induction h with
 |any v=>intro x _;exact .any _
 |tf b=>intro x hr;cases hr;exact .tf _
 |bool b=>intro x hr;cases hr;exact .bool _
 |tfb b=>intro x hr;cases hr;exact .bool _
 |int k n=>intro x hr;cases hr;exact .int _ _
 |str s=>intro x hr;cases hr;exact .str _
 |eJ=>intro x hr;cases hr;exact .eJ
 |cu=>intro x hr;cases hr;exact .cu
 |cK=>intro x hr;cases hr;exact .cK
 |eG t xs=>intro x hr;cases hr with|eG _ _ _ hd=>exact .eG t xs _ hd
 |kO t xs=>intro x hr;cases hr with|kO _ _ a hd=>exact .kO t xs a hd
 |Tt t=>intro x hr;cases hr;exact .eG _ _ _ ⟨_,0,rfl,Nat.le_refl _,.inl rfl⟩
 |bA=>intro x hr;cases hr;exact .bA
 |sl id i t lo n hi =>
  intro x hr
  cases hr with
  |sl _ _ _ _ cap L hL h1 h2 h3=>exact .sl id t lo n cap L (by simp [Mu.gE,hi,hL]) h1 h2 h3
  |cg=>exact .cg _ _ _ _
 |YN id t lo=>intro x hr;cases hr;exact .cg _ _ _ _
 |ptr id i o hi=>intro x hr;cases hr with|ptr _ _ L hL=>exact .ptr id o L (by simp [Mu.gE,hi,hL])
 |ep id i t j p hi=>intro x hr;cases hr with|ep _ _ _ _ L hL=>exact .ep id t j p L (by simp [Mu.gE,hi,hL])
 |yl id i hi=>intro x hr;cases hr with|yl _ L hL=>exact .yl id L (by simp [Mu.gE,hi,hL])
 |ip t y=>intro x hr;cases hr with|ip _ _ b o us h1 h2=>exact .ip t y b o us h1 h2
 |av cs ds h h2 ih =>
  intro x hr
  cases hr with
  |av _ b o gf h1 h3 h4 =>
   have hR:aR ι μ ds ((List.range ds.length).map gf):=⟨by simp,fun i v x hv hx=>by
    have hi:=(List.getElem?_eq_some_iff.1 hv).1
    simp [hi] at hx;subst hx;exact h3 i v hv⟩
   have fU:=aR.gE h ih hR
   exact .av cs b o gf (fun i hi => h1 i (by omega)) (fun i v hv => fU.2 i v (gf i) hv (by
    have hi:=(List.getElem?_eq_some_iff.1 hv).1
    simp [show i<ds.length by omega])) h4
 |fn f as as' cs cs' h h2 h3 h4 ih1 ih2 =>
  intro x hr
  cases hr with
  |fn _ _ _ xs ys q1 q2 q3 q4 =>
   have r1:=aR.gE h ih1 (xs:=xs.toList) ⟨by simpa using q1,fun i v x hv hx=>q2 i v x hv (by simpa using hx)⟩
   have r2:=aR.gE h3 ih2 (xs:=ys.toList) ⟨by simpa using q3,fun i v x hv hx=>q4 i v x hv (by simpa using hx)⟩
   exact .fn f as cs xs ys (by simpa using r1.1) (fun i v x hv hx=>r1.2 i v x hv (by simpa using hx)) (by simpa using r2.1) (fun i v x hv hx=>r2.2 i v x hv (by simpa using hx))
 |agg cs ds h h2 ih =>
  intro x hr
  cases hr with
  |agg _ xs q1 q2 q3 =>
   have r1:=aR.gE h ih (xs:=xs.toList) ⟨by simpa using q1,fun i v x hv hx=>q2 i v x hv (by simpa using hx)⟩
   exact .agg cs xs (by simpa using r1.1) (fun i v x hv hx=>r1.2 i v x hv (by simpa using hx)) q3
 |cG cs ds h h2 ih =>
  intro x hr
  cases hr with
  |cG _ xs q1 q2 =>
   have r1:=aR.gE h ih (xs:=xs.toList) ⟨by simpa using q1,fun i v x hv hx=>q2 i v x hv (by simpa using hx)⟩
   exact .cG cs xs (by simpa using r1.1) (fun i v x hv hx=>r1.2 i v x hv (by simpa using hx))
 |bU t v u h ih=>intro x hr;cases hr with|bU _ _ x hx=>exact .bU t v x (ih hx)
 |cb c=>intro x hr;cases hr with|cb _ b hc=>exact .cb c b hc
 |mp id i hi=>intro x hr;cases hr with|mp _ L hL=>exact .mp id L (by simp [Mu.gE,hi,hL])
 |dZ=>intro x hr;cases hr;exact .dZ
 |pa id i t n hi=>intro x hr;cases hr with|pa _ _ _ L hL hm=>exact .pa id t n L (by simp [Mu.gE,hi,hL]) hm
 |jP t xs=>intro x hr;cases hr with|jP _ _ b o us h1 h2=>exact .jP t xs b o us h1 h2
theorem EE.rel {tmps : Array Value} {env : List (Nat × V)} (he : fS ι μ env tmps) : ∀ {env' : List (Nat × V)}, EE π env' env → fS ι (μ.gE π) env' tmps
 |[],_=>fun t=>.any _
 |(t,v)::r,h=>fun i=>by
  rw [fF];split
  ·rename_i e;subst e;exact (h _ (List.mem_cons_self ..)).rel (he _)
  ·exact EE.rel he (fun p hp=>h p (List.mem_cons_of_mem _ hp)) i
theorem eL : ∀ {bl : ai} {id : Nat} {b : jE}, aq id bl = some b → (id, b) ∈ bl
 |[],id,b,h=>by simp [aq] at h
 |(s,c)::r,id,b,h=>by
  rw [aY] at h
  split at h
  ·rename_i e;subst e;cases h;exact List.mem_cons_self ..
  ·exact List.mem_cons_of_mem _ (eL h)
theorem mB.rep {S S':St} (h:mB base π S S') (hbase:Y.base base) {a:Act} (hR:fG P N Y ι μ S a w):fG P N Y ι (μ.gE π) S' a w:=by
 have hI:=hR.inv
 have hle:Y.m0.le (μ.gE π):=fun id L hL=>by
  have hlt:id<base:=by
   rcases Nat.lt_or_ge id base with h|h
   ·exact h
   ·rw [hbase id h] at hL;cases hL
  have:π[id]?=some id:=by
   have e1:(π.take base)[id]?=(List.range base)[id]?:=by rw [h.pre]
   rw [List.getElem?_take,if_pos hlt,List.getElem?_range hlt] at e1
   exact e1
  simp [Mu.gE,this,hI.m0 id L hL]
 refine ⟨h.env.rel hR.env,hR.sz,⟨hI.below,hI.i0,hI.iB,hI.rd,hle,fun id hid=>?_,fun id B hB=>?_,?_,fun id B hB=>?_,hI.gl⟩,?_⟩
 ·have : π[id]? = none := List.getElem?_eq_none (by rw [← h.nx]; exact hid)
  simp [Mu.gE,this]
 ·obtain ⟨i, e1, hb⟩ := h.bl _ (eL hB)
  have jS:(μ.gE π) id=μ i:=by simp only [Mu.gE];rw [e1];rfl
  cases B with
  |cells cs fz =>
   obtain ⟨ds,e2,aj⟩:=hb
   obtain ⟨L,vs,hM,Yt⟩:=hI.live i _ e2
   exact ⟨L,vs,⟨by rw [jS];exact hM.mu,hM.old,hM.row,hM.fits,hM.one,hM.CC,hM.qk⟩,aR.gE aj.1 (fun i v u hv hu=>fun {x} hr=>(aj.2 i v u hv hu).rel hr) Yt⟩
  |arr t xs fz =>
   rcases hb with e2|⟨rfl,hge⟩
   ·rcases hI.live i _ e2 with ⟨e, hn⟩ | ⟨L, vs, hM, hc, hl⟩
    ·exact .inl ⟨e,by rw [jS];exact hn⟩
    ·exact .inr ⟨L,vs,⟨by rw [jS];exact hM.mu,hM.old,hM.row,hM.fits,hM.one,hM.CC,hM.qk⟩,hc,hl⟩
   ·exact .inl ⟨rfl,by rw [jS];exact hI.nx i hge⟩
  |loop st j d env ps as bd N =>
   obtain ⟨d0,w7,e2,e3,hee⟩:=hb
   obtain ⟨L,r,Ld,q1,q2,q3,q4,q5,q6,q7,q8,q9,q10,q11,q12,q13⟩:=hI.live i _ e2
   exact ⟨L,r,Ld,by rw [jS];exact q1,q2,q3,q4,q5,hee.rel q6,q7,q8,q9,q10,q11,by simp only [Mu.gE];rw [e3];exact q12,q13⟩
  |fC =>
   obtain ⟨L,q1,q2,q3⟩:=hI.live i _ hb
   exact ⟨L,by rw [jS];exact q1,q2,q3⟩
  |map kt kg vt vg es =>
   obtain ⟨L,ms,clock,kR,q1,q2,q3⟩:=hI.live i _ hb
   exact ⟨L,ms,clock,kR,by rw [jS];exact q1,q2,q3⟩
  |j8 t xs k p v =>
   obtain ⟨u,e2,aj⟩:=hb
   obtain ⟨L,us,vs,c,hM,hc,hl,q1,q2,q3,q4⟩:=hI.live i _ e2
   exact ⟨L,us,vs,c,⟨by rw [jS];exact hM.mu,hM.old,hM.row,hM.fits,hM.one,hM.CC,hM.qk⟩,hc,hl,q1,q2,q3,aj.rel q4⟩
 ·intro id id' B B' L L' hb hb' hm hm' e
  obtain ⟨i,e1,W7⟩:=h.bl _ (eL hb)
  obtain ⟨i',EY,hbk'⟩:=h.bl _ (eL hb')
  simp only at e1 EY
  have jS:(μ.gE π) id=μ i:=by simp only [Mu.gE];rw [e1];rfl
  have Yu:(μ.gE π) id'=μ i':=by simp only [Mu.gE];rw [EY];rfl
  rw [jS] at hm;rw [Yu] at hm'
  have live:∀{i:Nat} {B:jE} {id:Nat} {L:Loc},Oy π S.H.next S.H.bl id B->π[id]?=some i->μ i=some L->∃C,aq i S.H.bl=some C:=by
   intro i B id L W7 e hm
   obtain ⟨i2,e2,iw⟩:=W7
   rw [e] at e2;cases e2
   cases B with
   |cells cs fz=>obtain ⟨ds,e2,_⟩:=iw;exact ⟨_,e2⟩
   |arr t xs fz =>
    rcases iw with e2|⟨_,hge⟩
    ·exact ⟨_,e2⟩
    ·rw [hI.nx i hge] at hm;cases hm
   |loop st j d env ps as bd N=>obtain ⟨d0,w7,e2,_⟩:=iw;exact ⟨_,e2⟩
   |fC=>exact ⟨_,iw⟩
   |map kt kg vt vg es=>exact ⟨_,iw⟩
   |j8 t xs k p v=>obtain ⟨u,e2,_⟩:=iw;exact ⟨_,e2⟩
  obtain ⟨C,hC⟩:=live (h.bl _ (eL hb)) e1 hm
  obtain ⟨C',SI⟩:=live (h.bl _ (eL hb')) EY hm'
  have:=hI.inj i i' C C' L L' hC SI hm hm' e
  subst this
  exact h.inj _ (eL hb) _ (eL hb') (e1.trans EY.symm)
 ·obtain ⟨i, e1, _⟩ := h.bl _ (eL hB)
  have:=(List.getElem?_eq_some_iff.1 e1).1
  rw [h.nx];exact this
 ·have key:∀{ms ms':List Nat} {ds:List Deferred},ms'.map (fun i=>π[i]?)=ms.map some->jG Y.hid μ ms ds->jG Y.hid (μ.gE π) ms' ds:=by
   intro ms
   induction ms with
   |nil=>intro ms' ds e hm;cases ms'<;>simp at e;exact hm
   |cons i ms ih =>
    intro ms' ds e hm
    cases ms' with
    |nil=>simp at e
    |cons i' ms' =>
     simp only [List.map_cons,List.cons.injEq] at e
     obtain ⟨L,d,ds',q1,q2,q3,q4⟩:=hm
     exact ⟨L,d,ds',q1,by simp [Mu.gE,e.1,q2],q3,ih e.2 q4⟩
  exact key h.ms hR.ms
def jN {α β : Type} (step : α → Option (α ⊕ β)) : Nat → α → Option β
 |0,_=>none
 |n+1,x=>match step x with
  |none=>none
  |some (.inl y)=>jN step n y
  |some (.inr b)=>some b
noncomputable def iter {α β:Type} (step:α->Option (α ⊕ β)) (x:α):Option β:=by
 classical exact if h:∃n b,jN step n x=some b then some h.choose_spec.choose else none
theorem zW {α β : Type} {step : α → Option (α ⊕ β)} : ∀ {n m : Nat} {x : α} {b c : β}, jN step n x = some b → jN step m x = some c → b = c
 |0,_,_,_,_,h,_=>by cases h
 |_+1,0,_,_,_,_,h=>by cases h
 |n+1,m+1,x,b,c,h,h'=>by
  simp only [jN] at h h'
  split at h
  ·cases h
  ·rename_i y e;rw [e] at h';exact zW h h'
  ·rename_i b' e;rw [e] at h';cases h;cases h';rfl
theorem Bv {α β:Type} {step:α->Option (α ⊕ β)} {n:Nat} {x:α} {b:β} (h:jN step n x=some b):iter step x=some b:=by
 unfold iter
 have h':∃n b,jN step n x=some b:=⟨n,b,h⟩
 rw [dif_pos h']
 exact congrArg some (zW h'.choose_spec.choose_spec h)
theorem tH {α β:Type} {step:α->Option (α ⊕ β)} {x:α} {b:β} (h:iter step x=some b):∃n,jN step n x=some b:=by
 unfold iter at h
 split at h
 ·rename_i h';cases h;exact ⟨_,h'.choose_spec.choose_spec⟩
 ·cases h
theorem aW {α β:Type} {step:α->Option (α ⊕ β)} {x y:α} {b:β} (h:step x=some (.inl y)) (h':iter step y=some b):iter step x=some b:=by
 obtain ⟨n,hn⟩:=tH h'
 exact Bv (n:=n+1) (by simp [jN,h,hn])
theorem bk {α β:Type} {step:α->Option (α ⊕ β)} {x:α} {b:β} (h:step x=some (.inr b)):iter step x=some b :=
 Bv (n:=1) (by simp [jN,h])
theorem dJ {α β κ : Type} {step : α → Option (α ⊕ β)} (g : κ → α) (m : κ → Nat) (Post : β → Prop) (Inv : κ → Prop)
  (h:∀k,Inv k->(∃k',step (g k)=some (.inl (g k'))/\Inv k'/\m k'<m k)\/∃b,step (g k)=some (.inr b)/\Post b):∀k,Inv k->∃b,iter step (g k)=some b/\Post b:=by
 intro k
 generalize hn:m k=n
 induction n using Nat.strongRecOn generalizing k with
 |_ n ih =>
  intro hk
  rcases h k hk with ⟨k',h1,h2,h3⟩|⟨b,h1,h2⟩
  ·obtain ⟨b, q1, q2⟩ := ih (m k') (hn ▸ h3) k' rfl h2
   exact ⟨b,aW h1 q1,q2⟩
  ·exact ⟨b,bk h1,h2⟩
theorem KS (cY : gT P N out base) {α β : Type} {I : α → St} {X : β → Ex × St} {step : α → Option (α ⊕ β)} {c : C}
  (hstep:∀x r,step x=some r->lW (cS P N out base) c (I x) fun e S'=>match r with
   | .inl y=>e = .normal/\∃π,mB base π S' (I y)
   | .inr b=>e ≠ .normal/\e=(X b).1/\∃π,mB base π S' (X b).2)
  {x:α} {b:β} (hx:iter step x=some b) {S:St} {π:List Nat} (hS:mB base π S (I x)) {K:Ex->St->Prop} (hK:K (X b).1 (X b).2):(cS P N out base).loop c S K:=by
 obtain ⟨n,hn⟩:=tH hx
 intro body hbody Y ι μ a w ho hb hR
 refine gO (fun (n:Nat) a w=>∃Y1,Ext P Y Y1/\∃x ι μ,fG P N Y1 ι μ (I x) a w/\jN step n x=some b) id (x:=n) ⟨Y,.refl Y,x,ι,_,hS.rep hb hR,hn⟩ ?_
 rintro n a w ⟨Y0,N9,x,ι,μ,hR,hx⟩
 cases n with
 |zero=>cases hx
 |succ n =>
  simp only [jN] at hx
  split at hx
  ·cases hx
  ·rename_i y e
   refine wpIn_mono (n8 (dI cY body hbody (hstep x _ e)) N9 ho hb hR) fun e a' w' hp=>?_
   obtain ⟨Y1,hY,ι',μ',S',e',h1,h2,rfl,π',h3⟩:=hp
   cases h2
   exact ⟨n,⟨Y1,hY,y,ι',_,h3.rep (hY.wF hb) h1,hx⟩,Nat.lt_succ_self n⟩
  ·rename_i b' e
   cases hx
   refine wpIn_mono (n8 (dI cY body hbody (hstep x _ e)) N9 ho hb hR) fun e a' w' hp=>?_
   obtain ⟨Y1,hY,ι',μ',S',e',h1,h2,hne,h3,π',h4⟩:=hp
   have hp:Post P N Y K e a' w':=⟨Y1,hY,ι',_,_,_,h4.rep (hY.wF hb) h1,by rw [<-h3];exact h2,hK⟩
   cases e' with
   |normal=>exact absurd rfl hne
   |exit id=>cases h2;exact hp
   |ret=>cases h2;exact hp
end
abbrev Env:=List (Nat×V)
section
variable {P:Program} {N:Nat} {Y:Ctx} {ι ι':aB} {μ μ':Mu} {H H':aO} {w w':World} {out:Option Nat} {base:Nat}
theorem Inv.junk (h:Inv P Y ι μ H w) (o:Obj):Inv P Y ι μ H (w.alloc o):=by
 have heap:∀k,k<w.heap.size->(w.alloc o).heap[k]?=w.heap[k]?:=fun k hk=>by
  show (w.heap.push o)[k]?=_
  rw [Array.getElem?_push];split
  ·omega
  ·rfl
 refine ⟨⟨h.below.os,h.below.tape,h.below.output,by have:=h.below.size;simp;omega,fun k hk hx=>?_,h.below.dr,fun k hk=>(h.below.maps k hk).trans (.eq (heap k (Nat.lt_of_lt_of_le hk h.below.size)))⟩,h.i0,h.iB,fun b o x hx=>?_,h.m0,h.nx,fun id B hB=>?_,h.inj,h.lt,h.gl⟩
 ·have := h.below.size
  rw [heap k (by omega)];exact h.below.block k hk hx
 ·have := h.rd b o x hx
  rw [World.cell?_alloc_lt _ _ _ (World.block_lt_of_cell? _ _ this)];exact this
 ·exact (h.live id B hB).mono (aB.le_refl _) (Mu.le_refl _) (fun h=>h) (fun L' hL'=>heap _ ((h.live id B hB).loc hL').2) (fun _ _ h=>h)
theorem fT.Xh {B:Nat->Prop} {id:Nat} {b:jE} (h:fT P B ι μ id w b) {L:Loc} (hL:μ id=some L) {r:Nat} {m:Option Nat} {s c:Nat} {seen:Array Nat} (hr:w.heap[r]?=some (.mapIter m s seen c)):L.b≠r:=by
 intro e
 subst e
 cases b with
 |cells cs fz =>
  obtain ⟨L',vs,hM,_⟩:=h
  have:=hM.mu;rw [hL] at this;cases this
  obtain ⟨c,e,h1,_⟩:=hM.row
  rw [hr] at h1;cases h1
 |arr t xs fz =>
  rcases h with ⟨_,h⟩|⟨L',vs,hM,_⟩
  ·rw [h] at hL;cases hL
  ·have := hM.mu; rw [hL] at this; cases this
   obtain ⟨c,e,h1,_⟩:=hM.row
   rw [hr] at h1;cases h1
 |loop st j d env ps as bd N =>
  obtain ⟨L',r,Ld,h1,h2,h3,_⟩:=h
  rw [hL] at h1;cases h1
  rw [hr] at h3;cases h3
 |fC =>
  obtain ⟨L',h1,h2,h3⟩:=h
  rw [hL] at h1;cases h1
  rw [hr] at h3;cases h3
 |map kt kg vt vg es =>
  obtain ⟨L',ms,clock,kR,h1,h2,h3,_⟩:=h
  rw [hL] at h1;cases h1
  rw [hr] at h3;cases h3
 |j8 t xs i p v =>
  obtain ⟨L',us,vs,c,hM,_⟩:=h
  have:=hM.mu;rw [hL] at this;cases this
  obtain ⟨c,e,h1,_⟩:=hM.row
  rw [hr] at h1;cases h1
theorem Inv.side (h:Inv P Y ι μ H w) {r:Nat} {m:Option Nat} {s c:Nat} {seen:Array Nat} (hr:w.heap[r]?=some (.mapIter m s seen c)) (hown:Y.own r) (o:Obj):Inv P Y ι μ H (w.putObj r o):=by
 have dG:∀k,k≠r->(w.putObj r o).heap[k]?=w.heap[k]?:=fun k hk=>World.putObj_heap_other hk
 refine ⟨⟨h.below.os,h.below.tape,h.below.output,by rw [World.putObj_size];exact h.below.size,fun k hk hx=>?_,h.below.dr,fun k hk=>(h.below.maps k hk).trans ?_⟩,h.i0,h.iB,fun b o2 x hx=>?_,h.m0,h.nx,fun i B hB=>?_,h.inj,h.lt,h.gl⟩
 ·rw [dG k (Ctx.mV hown hk hx)];exact h.below.block k hk hx
 ·by_cases e : k = r
  ·subst e;rw [hr];exact .no fun _ _ e=>by cases e
  ·exact .eq (dG k e)
 ·have := h.rd b o2 x hx
  have hne:b≠r:=fun e=>by subst e;simp [World.cell?,hr] at this
  unfold World.cell? at this ⊢
  simp only at this ⊢
  rw [dG b hne];exact this
 ·exact (h.live i B hB).mono (aB.le_refl _) (Mu.le_refl _) (fun h=>h) (fun L' hL'=>dG _ ((h.live i B hB).Xh hL' hr)) (fun _ _ h=>h)
def Ctx.side (Y:Ctx) (w:World) (ι:aB) (μ:Mu) (r:Nat):Ctx:=⟨w,ι,μ,Y.ro,fun b=>Y.own b/\b≠r,Y.hid⟩
theorem Inv.into (h:Inv P Y ι μ H w) {r:Nat} {m:Option Nat} {s c:Nat} {seen:Array Nat} (hr:w.heap[r]?=some (.mapIter m s seen c)):Inv P (Y.side w ι μ r) ι μ H w :=
 ⟨HA.refl _ _,aB.le_refl _,fun _ _ _ _=>rfl,h.rd,Mu.le_refl _,h.nx,fun id B hB=>(h.live id B hB).owns fun L hL ho=>.inr ⟨ho,(h.live id B hB).Xh hL hr⟩,h.inj,h.lt,h.c8⟩
theorem Inv.adm (h:Inv P Y ι μ H w) {r:Nat} (h2:Inv P (Y.side w ι μ r) ι' μ' H' w'):Inv P Y ι' μ' H' w':=by
 have hs:=h.below.size
 have Yl:∀k,k<Y.w0.heap.size->¬Y.x k->¬(Y.side w ι μ r).x k:=fun k hk hx hX=>by
  rcases hX.1 with h|h
  ·omega
  ·exact hx h
 have b2:=h2.below
 refine ⟨⟨b2.os.trans h.below.os,b2.tape.trans h.below.tape,b2.output.trans h.below.output,Nat.le_trans hs b2.size,fun k hk hx=>?_,Nat.le_trans h.below.dr b2.dr,fun k hk=>(h.below.maps k hk).trans (b2.maps k (Nat.lt_of_lt_of_le hk hs))⟩,
  aB.le_trans h.i0 h2.i0,fun b o hb hx=>?_,h2.rd,Mu.le_trans h.m0 h2.m0,h2.nx,fun id B hB=>(h2.live id B hB).owns fun L _ ho=>?_,h2.inj,h2.lt,h.gl⟩
 ·exact (b2.block k (Nat.lt_of_lt_of_le hk hs) (Yl k hk hx)).trans (h.below.block k hk hx)
 ·exact (h2.iB b o (Nat.lt_of_lt_of_le hb hs) (Yl b hb hx)).trans (h.iB b o hb hx)
 ·rcases ho with ho | ho
  ·exact .inl (Nat.le_trans hs ho)
  ·exact ho.1
end
def EZ {E α β : Type} (step : E → α → Option (α ⊕ β)) : List E → α → Option (α ⊕ β)
 |[],x=>some (.inl x)
 |e::r,x=>match step e x with
  |none=>none
  |some (.inl y)=>EZ step r y
  |some (.inr b)=>some (.inr b)
def Sl {E α : Type} (step : E → α → Option α) : List E → α → Option α
 |[],x=>some x
 |e::r,x=>match step e x with
  |none=>none
  |some y=>Sl step r y
noncomputable def iV {E B:Type} (f:List E->Option B) (es:List E):Option B:=by
 classical exact if h:∃b,∀l:List E,l.Perm es->f l=some b then some h.choose else none
theorem oh {E B:Type} {f:List E->Option B} {es:List E} {b:B} (h:iV f es=some b):∀l:List E,l.Perm es->f l=some b:=by
 unfold iV at h
 split at h
 ·rename_i h';cases h;exact h'.choose_spec
 ·cases h
theorem ab4 {E B:Type} {f:List E->Option B} {es:List E} {b:B} (h:∀l:List E,l.Perm es->f l=some b):iV f es=some b:=by
 have h':∃b,∀l:List E,l.Perm es->f l=some b:=⟨b,h⟩
 unfold iV
 rw [dif_pos h']
 have h1:=h'.choose_spec es (.refl _)
 rw [h es (.refl _)] at h1
 exact h1.symm▸rfl
noncomputable def Ds {α:Type} (a b:α):Bool:=@decide (a=b) (Classical.propDecidable _)
theorem Dt {α:Type} {a b:α} (h:Ds a b=true):a=b:=by simpa [Ds] using h
@[simp] theorem YO {α:Type} (a:α):Ds a a=true:=by simp [Ds]
def fc : List Nat → Env → Env
 |[],env=>env
 |t::r,env=>(t,.any)::fc r env
def Tu (e:Option Nat) (kt:Ty) (kg:Bool) (vt:Ty) (vg:Bool) (x:kt.den×vt.den) (env:Env):Env:=match e with
 |none=>env
 |some s=>(s,.cG [dL.jl kg (dL kt x.1),dL.jl vg (dL vt x.2)])::env
section
variable {P:Program} {N:Nat} {Y:Ctx} {ι ι':aB} {μ μ':Mu} {H H':aO} {w w':World} {out:Option Nat} {base:Nat}
theorem qy : ∀ {cl : List Nat} {env : Env} {t : Nat}, get t (fc cl env) = .any ∨ get t (fc cl env) = get t env
 |[],env,t=>.inr rfl
 |s::r,env,t=>by
  rw [fc,fF]
  split
  ·exact .inl rfl
  ·exact qy
theorem fS.forget {env:Env} {tmps:Array Value} (h:fS ι μ env tmps) (cl:List Nat):fS ι μ (fc cl env) tmps:=fun t=>by
 rcases qy (cl:=cl) (env:=env) (t:=t) with e|e<;>rw [e]
 ·exact .any _
 ·exact h t
theorem fS.over {env:Env} {a:Act} (h:fS ι μ env a.tmps) {d:Nat} (hd:get d env = .any) (v:Value):fS ι μ env (a.put (some d) v).tmps:=fun t=>by
 by_cases e:d=t
 ·subst e;rw [hd];exact .any _
 ·have:(a.tmps.setIfInBounds d v).getD t undef=a.tmps.getD t undef:=by
   simp only [Array.getD_eq_getD_getElem?]
   rw [Array.getElem?_setIfInBounds_ne e]
  simp only [Act.put]
  rw [this];exact h t
theorem fG.over {S:St} {a:Act} (h:fG P N Y ι μ S a w) {d:Nat} (hd:get d S.env = .any) (v:Value):fG P N Y ι μ S (a.put (some d) v) w :=
 ⟨h.env.over hd v,by simp [Act.put,h.sz],h.inv,h.ms⟩
theorem Bw {a:Act} {d:Nat} {v:Value} (hd:d<a.tmps.size):(a.put (some d) v).tmps.getD d undef=v:=by simp [Act.put,Array.getD,hd]
theorem Oz {a:Act} {d t:Nat} {v:Value} (h:d≠t):(a.put (some d) v).tmps.getD t undef=a.tmps.getD t undef:=by
 simp only [Act.put,Array.getD_eq_getD_getElem?]
 rw [Array.getElem?_setIfInBounds_ne h]
theorem Inv.name (h:Inv P Y ι μ H w) (L:Loc):Inv P Y ι (μ.set H.next L) ⟨H.next+1,H.bl⟩ w:=by
 have hn:=h.nx H.next (Nat.le_refl _)
 have hle:=Mu.iQ (L:=L) hn
 have hne:∀id B,aq id H.bl=some B->id≠H.next:=fun id B hB=>Nat.ne_of_lt (h.lt id B hB)
 refine ⟨h.below,h.i0,h.iB,h.rd,Mu.le_trans h.m0 hle,fun id hid=>?_,fun id B hB=>?_,fun id id' B B' L1 L2 h1 h2 lI hm2 e=>?_,fun id B hB=>Nat.lt_succ_of_lt (h.lt id B hB),h.gl⟩
 ·simp only at hid
  unfold Mu.set;rw [if_neg (by omega)];exact h.nx id (by omega)
 ·exact (h.live id B hB).mono (aB.le_refl _) hle (fun hm=>by unfold Mu.set;rw [if_neg (hne id B hB)];exact hm) (fun _ _=>rfl) (fun _ _ h=>h)
 ·unfold Mu.set at lI hm2
  rw [if_neg (hne id B h1)] at lI
  rw [if_neg (hne id' B' h2)] at hm2
  exact h.inj id id' B B' L1 L2 h1 h2 lI hm2 e
theorem ig {o:Oper} (h:o.guard=none) (f:Nat->Option Bool):Region.wanted o f=true:=by
 unfold Region.wanted;rw [h]
theorem Fz {a b:Code} {hd:WZ} (h:vV P N a b=some hd):∃(ia:Nat) (yZ:Array Oper) (o:Oper) (rr:List Oper) (t:TypeId) (x:Operand) (b3 i2:Nat) (tJ:Array Oper) (o1 o2:Oper) (n ok:Nat) (y:Code),
  a = .region ia yZ false/\yZ.toList=rr++[o]/\o.op = .range t x/\o.dst=some hd.it/\o.guard=none/\hd.it<N/\pQ P t=some (hd.kt,hd.kg,hd.vt,hd.vg)/\dY x=some hd.m/\ew P N yZ rr=some hd.pre /\
  b = .block hd.pJ (.loop (.seq (.region i2 tJ false) (.seq (.cond (.tmp ok) .skip (.exit hd.pJ)) (.block b3 y))))/\tJ.toList=[o1,o2]/\o1.op = .next (.tmp hd.it) false/\o1.dst=some n/\o1.guard=none /\
  o2.op = .extract (.tmp n) 0/\o2.dst=some ok/\o2.guard=none/\n<N/\ok<N/\n≠hd.it/\ok≠hd.it/\hd.cl=[n,ok]/\hd.e=ta N hd.it y:=by
 unfold vV at h
 split at h<;>try (cases h;done)
 rename_i b1 x2 t b2 b3 y
 split at h<;>try (cases h;done)
 rename_i is m it kt vt vg h1
 split at h<;>try (cases h;done)
 rename_i n ok h2
 split at h<;>try (cases h;done)
 rename_i hc
 obtain ⟨e1,e2⟩:=hc
 subst e1;subst e2
 cases h
 unfold NC at h1
 split at h1<;>try (cases h1;done)
 rename_i ia yZ
 split at h1<;>try (cases h1;done)
 rename_i o rr hrev
 split at h1<;>try (cases h1;done)
 rename_i t x hop
 split at h1<;>try (cases h1;done)
 rename_i it' Tv
 split at h1<;>try (cases h1;done)
 rename_i hg
 split at h1<;>try (cases h1;done)
 rename_i M1 M3 SE m' is' hty hx nO
 cases h1
 unfold ND at h2
 split at h2<;>try (cases h2;done)
 rename_i i2 tJ
 split at h2<;>try (cases h2;done)
 rename_i o1 o2 hl
 split at h2<;>try (cases h2;done)
 rename_i i FA
 split at h2<;>try (cases h2;done)
 rename_i n' hd1
 split at h2<;>try (cases h2;done)
 rename_i n2 KT
 split at h2<;>try (cases h2;done)
 rename_i ok' NJ
 split at h2<;>try (cases h2;done)
 rename_i hc2
 obtain ⟨g1,g2,e1,e2,l1,l2,l3,l4⟩:=hc2
 subst e1;subst e2
 cases h2
 have Ff:yZ.toList=rr.reverse++[o]:=by
  have:=congrArg List.reverse hrev
  simpa using this
 exact ⟨ia,yZ,o,rr.reverse,t,x,b3,i2,tJ,o1,o2,_,_,y,rfl,Ff,hop,Tv,hg.1,hg.2,hty,hx,nO,rfl,hl,FA,hd1,g1,KT,NJ,g2,l1,l2,l3,l4,rfl,rfl⟩
end
section
variable {P:Program} {N:Nat} {Y:Ctx} {ι ι':aB} {μ μ':Mu} {H H':aO} {w w':World} {out:Option Nat} {base:Nat}
theorem Tw {b1 i2 b3 ok:Nat} {tJ:Array Oper} {y:Code} {cb:C} (h:l6 P N (.block b1 (.loop (.seq (.region i2 tJ false) (.seq (.cond (.tmp ok) .skip (.exit b1)) (.block b3 y)))))=some cb) :
  ∃cx cc cy,l6 P N y=some cy/\cb = .block b1 (.loop (.seq cx (.seq cc (.block b3 cy)))):=by
 have h1:∀z,vV P N (.cond (.tmp ok) .skip (.exit b1)) z=none:=fun z=>by
  unfold vV
  split
  ·split
   ·rename_i h1;cases h1
   ·rfl
  ·rfl
 have h2:∀z u v,vV P N z (.seq u v)=none:=fun z u v=>rfl
 simp only [l6] at h
 cases hx:ew P N tJ tJ.toList with
 |none=>simp [hx] at h
 |some is =>
  simp only [hx] at h
  cases hy:l6 P N y with
  |none=>simp [hy] at h
  |some cy =>
   simp only [hy,dY,Option.map_some,h1,h2] at h
   cases h
   exact ⟨_,_,cy,rfl,rfl⟩
theorem xk {id:Nat} {K:Ex->St->Prop} {e:Exit} {a:Act} {w:World} (hp:Post P N Y (fun e S=>match e with
  | .normal=>K .normal S
  | .exit id'=>match Nat.beq id' id with
   |true=>K .normal S
   |false=>K (.exit id') S
  | .ret=>K .ret S) e a w):Exit.inBlock id (Post P N Y K) e a w:=by
 obtain ⟨Y1,hY,ι',μ',S',e',h1,h2,h3⟩:=hp
 cases e' with
 |normal=>cases h2;exact ⟨Y1,hY,ι',μ',S',.normal,h1,rfl,h3⟩
 |exit id' =>
  cases h2
  simp only [Exit.inBlock]
  simp only at h3
  split at h3
  ·rename_i Bc
   rw [if_pos (Nat.eq_of_beq_eq_true Bc)]
   exact ⟨Y1,hY,ι',μ',S',.normal,h1,rfl,h3⟩
  ·rename_i Bc
   rw [if_neg (fun e=>by subst e;rw [Nat.beq_refl] at Bc;cases Bc)]
   exact ⟨Y1,hY,ι',μ',S',.exit id',h1,rfl,h3⟩
 |ret=>cases h2;exact ⟨Y1,hY,ι',μ',S',.ret,h1,rfl,h3⟩
theorem OA (cY : gT P N out base) {it b1 b3 : Nat} {y : Code} {cx cc cy bd : C} (KU : l6 P N y = some cy) (hbd : Hw (ta N it y) (.block b1 (.loop (.seq cx (.seq cc (.block b3 cy))))) = some bd) {S0 : St} {a : Act}
  (ho:nH Y out) (hb:Y.base base) (hR:fG P N Y ι μ S0 a w) {r:Nat} (hit:a.tmps.getD it undef = .pointer (some ⟨r,0,none⟩)) {kv vv:Value} (hent:(Instr.entry (.pointer (some ⟨r,0,none⟩))).run P w = .ok (.tuple #[kv,vv]) w)
  {kt vt:Ty} {kg vg:Bool} {x:kt.den×vt.den} (hk:Rel ι μ (dL.jl kg (dL kt x.1)) kv) (hv:Rel ι μ (dL.jl vg (dL vt x.2)) vv) {Q:Ex->St->Prop}
  (h:lW (cS P N out base) bd ⟨Tu (ta N it y) kt kg vt vg x S0.env,S0.H,S0.ms⟩ Q):(Code.block b3 y).wpIn Y.F 0 P (Post P N Y Q) a w:=by
 cases he:ta N it y with
 |none =>
  rw [he] at hbd h
  cases hbd
  exact dI cY (.block b3 y) (c:=.block b3 cy) (by simp [l6,KU]) h Y ι μ a w ho hb hR
 |some s =>
  rw [he] at hbd h
  unfold ta at he
  split at he<;>try (cases he;done)
  rename_i ri ops rest
  split at he<;>try (cases he;done)
  rename_i o os hl
  split at he<;>try (cases he;done)
  rename_i i hop
  split at he<;>try (cases he;done)
  rename_i s' Tv
  split at he<;>try (cases he;done)
  rename_i hc
  obtain ⟨hg,hi,hs,hne⟩:=hc
  cases he
  subst hi
  -- the code
  simp only [l6] at KU
  cases nO:ew P N ops ops.toList with
  |none=>simp [nO] at KU
  |some is0 =>
   simp only [nO] at KU
   cases hcr:l6 P N rest with
   |none=>simp [hcr] at KU
   |some cr =>
    simp only [hcr] at KU
    split at KU
    rotate_left
    ·rename_i NJ _
     split at KU<;>try (cases KU;done)
     cases KU
     simp [Hw] at hbd
    cases KU
    rw [hl] at nO
    unfold ew at nO
    split at nO<;>try (cases nO;done)
    rename_i i0 is hi0 nO
    cases nO
    simp only [Hw] at hbd
    cases hbd
    simp only [lW] at h
    refine wpIn_block (wpIn_mono ?_ fun e a w hp=>xk hp)
    refine wpIn_seq (wpIn_region ?_)
    have hsz:ops.size=os.length+1:=by rw [<-Array.length_toList,hl];rfl
    rw [List.range_eq_range',hsz,List.range'_succ]
    have ho0:ops[0]?=some o:=by rw [<-Array.getElem?_toList,hl];rfl
    have aj:a.eval (.tmp i) = .pointer (some ⟨r,0,none⟩):=hit
    have hN:uH N o.dst=true:=by rw [Tv];simpa [uH] using hs
    refine uK (x := .tuple #[kv, vv]) (w' := w) (fun _ => trivial) rfl ho0 (ig hg _) (by rw [hop]; intro c; simp) (.inl (by
     unfold execOp;rw [hop];simp only [aj,Sem.run_bind,hent];rfl)) ?_
    have wk:fG P N Y ι μ ⟨Tu (some s) kt kg vt vg x S0.env,S0.H,S0.ms⟩ (a.put o.dst (.tuple #[kv,vv])) w:=by
     have := hR.put hN (aB.le_refl _) (Mu.le_refl _) hR.inv (v := .cG [dL.jl kg (dL kt x.1), dL.jl vg (dL vt x.2)]) (x := .tuple #[kv, vv])
      (.cG _ _ rfl (fun i v x Db hx=>by
       match i with
       |0=>simp at Db hx;subst Db;subst hx;exact hk
       |1=>simp at Db hx;subst Db;subst hx;exact hv
       |i+2=>simp at Db))
     rw [Tv] at this ⊢
     exact this
    exact wL (Y:=Y) (out:=out) (base:=base) (k:=1) (Q:=Exit.then (rest.wpIn Y.F 0 P _) _) (fun ι μ S a w hR hK=>dI cY rest hcr hK Y ι μ a w ho hb hR) nO (fun j=>by rw [<-Array.getElem?_toList,hl,Nat.add_comm];simp) wk h
end
section
variable {P:Program} {N:Nat} {Y:Ctx} {ι ι':aB} {μ μ':Mu} {H H':aO} {w w':World} {out:Option Nat} {base:Nat}
theorem gB.at {kt vt : Ty} {kg vg : Bool} : ∀ {es : List (kt.den × vt.den)} {ms : List MapEntry}, gB ι kt kg vt vg es ms → ∀ {i : Nat} {m : MapEntry}, ms[i]? = some m → ∃ e, es[i]? = some e ∧ gG ι kg kt e.1 m.key ∧ gG ι vg vt e.2 m.val
 |[],_,h,i,m,hm=>by simp [gB] at h;subst h;simp at hm
 |e::es,_,⟨m0,r,rfl,h1,h2,h3⟩,i,m,hm=>by
  cases i with
  |zero=>simp at hm;subst hm;exact ⟨e,rfl,h1,h2⟩
  |succ i=>simpa using h3.at (i:=i) (by simpa using hm)
theorem Xi {bl:ai} {kt vt:Ty} {kg vg:Bool} {id:Nat} {es:List (kt.den×vt.den)} (h:jm bl kt kg vt vg id=some es):aq id bl=some (.map kt kg vt vg es):=ez h
theorem Du {E α β:Type} {step:E->α->Option (α ⊕ β)} {e:E} {r:List E} {x:α} {res:α ⊕ β} (h:EZ step (e::r) x=some res) :
  (∃y,step e x=some (.inl y))\/∃b,step e x=some (.inr b)/\res = .inr b:=by
 simp only [EZ] at h
 split at h
 ·cases h
 ·rename_i y e;exact .inl ⟨y,e⟩
 ·rename_i b e;cases h;exact .inr ⟨b,e,rfl⟩
theorem get_mem : ∀ {env : Env} {t : Nat} {v : V}, get t env = v → v ≠ .any → (t, v) ∈ env
 |[],t,v,h,hv=>absurd h.symm hv
 |(s,u)::r,t,v,h,hv=>by
  rw [fF] at h
  split at h
  ·rename_i e;subst e;subst h;exact List.mem_cons_self ..
  ·exact List.mem_cons_of_mem _ (get_mem h hv)
theorem H7 {π : List Nat} {cl : List Nat} {env : Env} {Hh : aO} {mss : List Nat} {S' : St} (h : mB base π ⟨fc cl env, Hh, mss⟩ S') {mn id bm : Nat} (hid : get mn env = .mp id) {kt vt : Ty} {kg vg : Bool} {es : List (kt.den × vt.den)}
  (CD:jm Hh.bl kt kg vt vg id=some es) {L:Loc} (hL:μ id=some L) (Yg:L.b=bm) (yM:Nat) (h2:get mn S'.env = .mp yM) :
  (∃L,(μ.gE π) yM=some L/\L.b=bm)/\∀es',jm S'.H.bl kt kg vt vg yM=some es'->es'=es:=by
 have aj:=h.env _ (get_mem h2 (by simp))
 try simp only at aj
 have hπ:π[yM]?=some id:=by
  rcases qy (cl:=cl) (env:=env) (t:=mn) with e|e<;>rw [e] at aj
  ·cases aj
  ·rw [hid] at aj;cases aj with|mp _ _ hi=>exact hi
 refine ⟨⟨L,by simp [Mu.gE,hπ,hL],Yg⟩,fun es' he'=>?_⟩
 obtain ⟨i,e1,hb⟩:=h.bl _ (eL (ez he'))
 try simp only at e1 hb
 rw [hπ] at e1;cases e1
 have KV:=ez CD
 try simp only at KV
 rw [KV] at hb
 simp only [Option.some.injEq,jE.map.injEq,heq_eq_eq,true_and] at hb
 exact hb.symm
theorem nH.up {w:World} {ι:aB} {r:Nat} (h:nH Y out) (hm:Y.m0.le μ):nH (Y.side w ι μ r) out:=by
 cases out with
 |none=>exact h
 |some o=>obtain ⟨Lo,h1,h2⟩:=h;exact ⟨Lo,hm _ _ h1,h2⟩
theorem Ext.lift {Ya Yb : Ctx} {r : Nat} (hinv : ∀ {ι : aB} {μ : Mu} {H : aO} {w : World}, Inv P Ya ι μ H w → Inv P Yb ι μ H w) (hown : ∀ b, Ya.own b → Yb.own b) (hro : Yb.ro = Ya.ro) (hm0 : Yb.m0.le Ya.m0) (N8 : Yb.hid = Ya.hid)
  (hr:r<Ya.w0.heap.size/\¬Ya.own r) (hrb:Yb.own r) {Y1:Ctx} (h:Ext P Ya Y1) :
  ∃Y2,Ext P Yb Y2/\(∀{ι:aB} {μ:Mu} {H:aO} {w:World},Inv P Y1 ι μ H w->Inv P Y2 ι μ H w)/\(∀b,Y1.own b->Y2.own b)/\Y2.ro=Y1.ro/\Y2.m0.le Y1.m0/\Y2.hid=Y1.hid/\(r<Y1.w0.heap.size/\¬Y1.own r)/\Y2.own r:=by
 induction h with
 |refl=>exact ⟨Yb,.refl Yb,hinv,hown,hro,hm0,N8,hr,hrb⟩
 |step h ro hI hr' own ih =>
  rename_i Y1 ι1 μ1 H1 w1 r'
  obtain ⟨Y2,e1,e2,e3,e4,e5,e6,e7,e8⟩:=ih
  have hlt:=(Array.getElem?_eq_some_iff.1 hr').1
  have hne:r≠r':=fun e=>by subst e;exact e7.2 own
  have hs:=hI.below.size
  refine ⟨Y2.Bb w1 ι1 r',.step e1 (e4.trans ro) (e2 hI) hr' (e3 _ own),fun {ι μ H w} h=>?_,fun b hb=>?_,e4,e5,?_,⟨?_,fun hX=>?_⟩,.inr ⟨e8,hne⟩⟩
  ·have hx : ∀ b, (Y1.Bb w1 ι1 r').x b → (Y2.Bb w1 ι1 r').x b := fun b hb => ⟨e3 _ hb.1, hb.2⟩
   exact ⟨⟨h.below.os,h.below.tape,h.below.output,h.below.size,fun k hk hx'=>h.below.block k hk (fun hh=>hx' (hx _ hh)),h.below.dr,h.below.maps⟩,h.i0,fun b o hb hx'=>h.iB b o hb (fun hh=>hx' (hx _ hh)),h.rd,Mu.le_trans e5 h.m0,h.nx,
    fun id B hB=>(h.live id B hB).owns fun L _ ho=>ho.imp (fun h=>h) (hx _),h.inj,h.lt,h.gl⟩
  ·exact hb.imp (fun h=>h) fun h=>⟨e3 _ h.1,h.2⟩
  ·show r' :: Y2.hid = r' :: Y1.hid
   rw [e6]
  ·exact Nat.lt_of_lt_of_le e7.1 hs
  ·rcases hX with hX | hX
   ·have : w1.heap.size ≤ r := hX
    omega
   ·exact e7.2 hX.1
theorem KD.inj {t:Ty} {β:Type} {es:List (t.den×β)} (h:KD t es) {a b:t.den×β} (ha:a∈es) (hb:b∈es) (hab:fO t a.1 b.1=true):a=b:=by
 have haa:fO t a.1 a.1=true:=by
  have:=di hab
  rw [<-this] at hab;exact hab
 have h1:=kY (d:=a.2) h ha haa
 have h2:=kY (d:=a.2) h hb hab
 exact Prod.ext (di hab) (h1.symm.trans h2)
theorem tM {ι ι' : aB} : ∀ {t : Ty} {ks : List Kd} {x y : t.den} {vs : List Value}, l5 t = some ks → ak ι t x vs → ak ι' t y vs → fO t x y = true
 | .unit,ks,x,y,vs,h,hx,hy=>rfl
 | .bool,ks,x,y,vs,h,hx,hy=>by simp only [ak] at hx hy;subst hx;simpa [fO] using hy
 | .str,ks,x,y,vs,h,hx,hy=>by
  simp only [ak] at hx hy;subst hx
  simp only [List.cons.injEq,Value.string.injEq,and_true] at hy
  subst hy;simp [fO]
 | .int k,ks,x,y,vs,h,hx,hy=>by simp only [ak] at hx hy;subst hx;simpa [fO] using hy
 | .list _,ks,x,y,vs,h,hx,hy=>by cases h
 | .bU _ _ _,ks,x,y,vs,h,hx,hy=>by cases h
 | .prod a b,ks,x,y,vs,h,hx,hy=>by
  simp only [l5] at h
  split at h<;>try (cases h;done)
  rename_i k1 k2 h1 h2
  obtain ⟨us,ws,e1,d1,d2⟩:=hx
  obtain ⟨us',ws',e2,d1',d2'⟩:=hy
  rw [e1] at e2
  obtain ⟨rfl,rfl⟩:=List.append_inj e2 (by rw [d1.length,d1'.length])
  simp only [fO,tM h1 d1 d1',tM h2 d2 d2',Bool.and_self]
theorem OB {k:TypeId} {kt:Ty} {kg:Bool} (h:vU P k=some (kt,kg)):∃ks,l5 kt=some ks:=by
 unfold vU at h
 split at h<;>try (cases h;done)
 ·cases h;exact ⟨_,rfl⟩
 ·cases h;exact ⟨_,rfl⟩
 ·split at h <;> try (cases h; done)
  split at h<;>try (cases h;done)
  rename_i hc
  cases h
  exact ⟨_,hc.1⟩
 ·split at h <;> try (cases h; done)
  split at h<;>try (cases h;done)
  rename_i hc
  cases h
  exact ⟨_,hc⟩
theorem KW {g:Bool} {xs ys:List Value} {v:Value} (h1:iJ g xs=some v) (h2:iJ g ys=some v):xs=ys:=by
 cases g with
 |true =>
  simp only [iJ,Option.some.injEq] at h1 h2
  subst h1
  simp only [Value.agg.injEq] at h2
  have:=congrArg Array.toList h2
  simpa using this.symm
 |false =>
  match xs,ys,h1,h2 with
  |[x],[y],h1,h2 =>
   simp only [iJ,Option.some.injEq] at h1 h2
   rw [h1,h2]
  |[],_,h1,_=>simp [iJ] at h1
  |_::_::_,_,h1,_=>simp [iJ] at h1
  |[_],[],_,h2=>simp [iJ] at h2
  |[_],_::_::_,_,h2=>simp [iJ] at h2
theorem Tx {k:TypeId} {kt:Ty} {kg:Bool} (h:vU P k=some (kt,kg)) {x y:kt.den} {z:Value} (hx:gG ι kg kt x z) (hy:gG ι' kg kt y z):fO kt x y=true:=by
 obtain ⟨ks,hks⟩:=OB h
 obtain ⟨xs,h1,h2⟩:=hx
 obtain ⟨ys,h3,h4⟩:=hy
 have:=KW h2 h4
 subst this
 exact tM hks h1 h3
structure MI {α:Type} (P:Program) (N:Nat) (Y:Ctx) (I:α->St) (mn it:Nat) (kt:Ty) (kg:Bool) (vt:Ty) (vg:Bool) (es kR:List (kt.den×vt.den)) (kz:List Value) (bm r since:Nat) (bs todo:List Nat) (x:α) (a:Act) (w:World) (ι:aB) (μ:Mu) (seen:Array Nat) (c0:Nat) (ms:Array MapEntry) (clock:Nat):Prop where
 rep:fG P N Y ι μ (I x) a w
 it:a.tmps.getD it undef = .pointer (some ⟨r,0,none⟩)
 own:Y.own r
 hr:w.heap[r]?=some (.mapIter (some bm) since seen c0)
 sc:since<=c0
 ck:since<=clock
 hm:w.heap[bm]?=some (.map ms clock)
 Xj:ms.toList.map (·.born)=bs
 hkz:ms.toList.map (·.key)=kz
 hke:∀(i:Nat) e z,kR[i]?=some e->kz[i]?=some z->gG ι kg kt e.1 z
 old:∀b∈bs,b<since
 nd:bs.Nodup
 len:kR.length=bs.length
 td:todo.Nodup
 left:∀i,i∈todo↔∃b,bs[i]?=some b/\b∉seen.toList
 here:∀id,get mn (I x).env = .mp id->(∃L,μ id=some L/\L.b=bm)/\∀es',jm (I x).H.bl kt kg vt vg id=some es'->es'=es
def Dv (pJ : Nat) : Ex → Ex
 | .exit i=>match Nat.beq i pJ with
  |true=>.normal
  |false=>.exit i
 |e=>e
theorem OC {α:Type} (es:List α) (d:α):(List.range es.length).map (fun i=>es.getD i d)=es:=by
 apply List.ext_getElem
 ·simp
 ·intro i h1 h2;simp at h1;simp [List.getD,h1]
theorem Dx (cY : ∀ base, gT P N out base) {α β : Type} {I : α → St} {X : β → Ex × St} {pre : List dD} {mn it : Nat} {cl : List Nat} {e : Option Nat} {kt vt : Ty} {kg vg : Bool} {pJ : Nat} {bd : C}
  {step:kt.den×vt.den->α->Option (α ⊕ β)} {aM:Nat} (hI:∀x s,s∈it::cl->get s (I x).env = .any) (hnx:∀x,(I x).H.next=aM)
  (hstep:∀xp x r,step xp x=some r->∃id es',get mn (I x).env = .mp id/\jm (I x).H.bl kt kg vt vg id=some es' /\
   lW (cS P N out (aM+1)) bd ⟨Tu e kt kg vt vg xp ((it,.ptr aM 0)::(I x).env),⟨aM+1,(I x).H.bl⟩,(I x).ms⟩ fun ex S'=>match r with
    | .inl y=>ex = .normal/\get it S'.env = .ptr aM 0/\get mn S'.env = .mp id/\jm S'.H.bl kt kg vt vg id=some es'/\∃π,mB base π ⟨fc (it::cl) S'.env,S'.H,S'.ms⟩ (I y)
    | .inr b=>ex ≠ .normal/\ex=(X b).1/\∃π,mB base π S' (X b).2)
  {S:St} {K:Ex->St->Prop}
  (hpre:dF (cS P N out base) pre S fun S1=>∃id es x π,get mn S1.env = .mp id/\jm S1.H.bl kt kg vt vg id=some es/\mB base π ⟨fc (it::cl) S1.env,S1.H,S1.ms⟩ (I x) /\
   ∀l:List (kt.den×vt.den),l.Perm es->∃res,EZ step l x=some res/\(match res with | .inl y=>K .normal (I y) | .inr b=>K (Dv pJ (X b).1) (X b).2)) :
  (cS P N out base).gk (.gk pre (.t mn) it cl e kt kg vt vg pJ bd) S K:=by
 intro ca cb fP hsome
 have htr0:=fP
 simp only [l6] at fP
 split at fP<;>try (cases fP;done)
 rename_i xa xb htra htrb
 split at fP
 ·rename_i hn;rw [hn] at hsome;cases hsome
 rename_i hd hmh
 split at fP<;>try (cases fP;done)
 rename_i Nb hbd
 obtain ⟨hpre',hm',qz,hcl',he',xq,YP,ze,YQ,zX⟩:=hd
 simp only [Option.some.injEq,C.gk.injEq] at fP
 obtain ⟨rfl,rfl,rfl,rfl,rfl,rfl,rfl,rfl,rfl,rfl,rfl⟩:=fP
 obtain ⟨ia,yZ,oA,rr,t,xo,b3,i2,tJ,o1,o2,n,ok,y,rfl,hlA,YR,hdA,hgA,hitN,hty,YS,nO,rfl,Ff,FA,hd1,hg1,KT,NJ,hg2,hnN,hokN,hnit,Xk,rj,he⟩:=Fz hmh
 simp only at YR hdA hgA hitN hty YS nO FA hnit Xk rj he hbd
 subst rj
 obtain ⟨cx,cc,cy,KU,rfl⟩:=Tw htrb
 subst he
 intro Y ι μ a w hout hbase hR
 refine wpIn_seq (wpIn_region ?_)
 have hszA:yZ.size=rr.length+1:=by rw [<-Array.length_toList,hlA];simp
 have YT:List.range yZ.size=List.range' 0 rr.length++[rr.length]:=by
  rw [hszA,List.range_succ,List.range_eq_range']
 rw [YT]
 refine tA (Y:=Y) (out:=out) (base:=base) (k:=0) (K:=fun S1=>∃id es x π,get mn S1.env = .mp id/\jm S1.H.bl xq YP ze YQ id=some es/\mB base π ⟨fc (qz::[n,ok]) S1.env,S1.H,S1.ms⟩ (I x) /\
   ∀l:List (xq.den×ze.den),l.Perm es->∃res,EZ step l x=some res/\(match res with | .inl y=>K .normal (I y) | .inr b=>K (Dv zX (X b).1) (X b).2)) ?_ nO (fun j hj=>?_) hR hpre
 rotate_left
 ·rw [<-Array.getElem?_toList,hlA,Nat.zero_add,List.getElem?_append_left (by assumption)]
 clear hR hpre
 intro ι μ S1 a w hR hK1
 obtain ⟨id,es,x,π,hmid,qA,hent,hres⟩:=hK1
 -- the iterator is made
 have hv:=hR.env mn
 rw [hmid] at hv
 generalize hav:a.tmps.getD mn undef=mv at hv
 cases hv with
 |mp _ L hL =>
 have hb:=ez qA
 obtain ⟨L',ms,clock,kR,q1,q2,q3,q4,q5,q6,hp0,hd0⟩:=hR.inv.live _ _ hb
 rw [hL] at q1;cases q1
 obtain ⟨kT,eT,huT,hkT,_⟩:=qp hty
 have eF:a.eval xo = .map (some L.b):=by
  have:xo = .tmp mn:=by
   cases xo<;>simp only [dY] at YS
   ·cases YS;rfl
   ·split at YS<;>cases YS
   ·cases YS
   ·cases YS
  rw [this];exact hav
 have hoA:yZ[rr.length]?=some oA:=by rw [<-Array.getElem?_toList,hlA];simp
 refine uK (x := .pointer (some ⟨w.heap.size, 0, none⟩)) (w' := w.alloc (.mapIter (some L.b) clock #[] clock)) (fun _ => trivial) rfl hoA (ig hgA _) (by rw [YR]; intro c; simp) (.inl (by
  unfold execOp;rw [YR];simp only [eF,Sem.run_bind,run_range_map w t kT eT L.b ms clock huT q3];rfl)) ?_
 simp only [wpOpsIn]
 rw [hdA]
 have Nc:fG P N Y ι μ ⟨fc (qz::[n,ok]) S1.env,S1.H,S1.ms⟩ (a.put (some qz) (.pointer (some ⟨w.heap.size,0,none⟩))) (w.alloc (.mapIter (some L.b) clock #[] clock)):=by
  have h1:fG P N Y ι μ ⟨fc (qz::[n,ok]) S1.env,S1.H,S1.ms⟩ a w:=⟨hR.env.forget _,hR.sz,hR.inv,hR.ms⟩
  have h2:=h1.over (d:=qz) (by simp [fc,get]) (.pointer (some ⟨w.heap.size,0,none⟩))
  exact ⟨h2.env,h2.sz,h2.inv.junk _,h2.ms⟩
 have wk:=hent.rep hbase Nc
 have hlt:L.b<w.heap.size:=(Array.getElem?_eq_some_iff.1 q3).1
 have Tz:MI P N Y I mn qz xq YP ze YQ es kR (ms.toList.map (·.key)) L.b w.heap.size clock (ms.toList.map (·.born)) (List.range kR.length) x (a.put (some qz) (.pointer (some ⟨w.heap.size,0,none⟩))) (w.alloc (.mapIter (some L.b) clock #[] clock)) ι (μ.gE π) #[] clock ms clock:=by
  refine ⟨wk,Bw (by rw [hR.sz];exact hitN),.inl hR.inv.below.size,heap_alloc_new _ _,Nat.le_refl _,Nat.le_refl _,(heap_alloc_old _ _ hlt).trans q3,rfl,rfl,fun i e z he hz=>?_,fun b hb=>?_,q6,?_,List.nodup_range,fun i=>?_,fun yM h2=>?_⟩
  ·rw [List.getElem?_map] at hz
   cases hm:ms.toList[i]? with
   |none=>rw [hm] at hz;cases hz
   |some m =>
    rw [hm] at hz;cases hz
    obtain ⟨e',he',hk,_⟩:=q4.at hm
    rw [he] at he';cases he'
    exact hk
  ·obtain ⟨m, hm, rfl⟩ := List.mem_map.1 hb
   exact q5 m hm
  ·rw [List.length_map,gB.length q4]
  ·have hlen := gB.length q4
   simp only [List.mem_range,List.not_mem_nil,not_false_eq_true,and_true]
   constructor
   ·intro hi
    exact ⟨_,List.getElem?_eq_getElem (show i<(ms.toList.map (·.born)).length by simp at hlen ⊢;omega)⟩
   ·rintro ⟨b, hb⟩
    have:=(List.getElem?_eq_some_iff.1 hb).1
    simp at this hlen;omega
  ·exact H7 hent hmid qA hL rfl yM h2
 have hat0:∀J:List Nat,J.Perm (List.range kR.length)->∃res,EZ step (J.map fun i=>kR.getD i (xq.zero,ze.zero)) x=some res/\(match res with | .inl y=>K .normal (I y) | .inr b=>K (Dv zX (X b).1) (X b).2):=fun J hJ =>
  hres _ (((hJ.map _).trans (by rw [OC])).trans hp0)
 have hdE:KD xq es:=hd0.perm hp0
 clear hres Nc wk qA hmid hent q3 q5 q6 eF hoA hav hb hR hL hlt
 generalize (a.put (some qz) (.pointer (some ⟨w.heap.size,0,none⟩)))=a1 at Tz ⊢
 generalize hw1:w.alloc (.mapIter (some L.b) clock #[] clock)=w1 at Tz ⊢
 generalize w.heap.size=r at Tz
 generalize Xj:ms.toList.map (·.born)=bs at Tz
 generalize hkz:ms.toList.map (·.key)=kz at Tz
 generalize L.b=bm at Tz
 have hlen:kR.length=bs.length:=Tz.len
 clear hw1 Xj hkz
 show Code.wpIn _ _ _ (.block zX _) _ _ _
 refine wpIn_block (wpIn_mono ?_ fun e a w hp=>xk hp)
 refine gO (fun (g:List Nat×α) a w=>(∃Y1,Ext P Y Y1/\∃ι μ seen c0 ms clock',MI P N Y1 I mn qz xq YP ze YQ es kR kz bm r clock bs g.1 g.2 a w ι μ seen c0 ms clock') /\
  ∀J:List Nat,J.Perm g.1->∃res,EZ step (J.map fun i=>kR.getD i (xq.zero,ze.zero)) g.2=some res/\(match res with | .inl y=>K .normal (I y) | .inr b=>K (Dv zX (X b).1) (X b).2)) (fun g=>g.1.length) (x:=(List.range kR.length,x)) ⟨⟨Y,.refl Y,_,_,_,_,_,_,Tz⟩,hat0⟩ ?_
 clear Tz hat0
 rintro ⟨todo,x⟩ a w ⟨⟨Y0,N9,ι,μ,seen,c0,ms,clock',M⟩,zC⟩
 simp only at M zC
 refine wpIn_seq (wpIn_region ?_)
 have hsz2:tJ.size=2:=by rw [<-Array.length_toList,Ff];rfl
 rw [show List.range tJ.size=[0,1] by rw [hsz2];rfl]
 have hO0:tJ[0]?=some o1:=by rw [<-Array.getElem?_toList,Ff];rfl
 have hO1:tJ[1]?=some o2:=by rw [<-Array.getElem?_toList,Ff];rfl
 have YU:=M.rep.sz
 have Xl:a.eval (.tmp qz) = .pointer (some ⟨r,0,none⟩):=M.it
 have hold:∀m∈ms.toList,m.born<clock:=fun m hm=>M.old _ (by rw [<-M.Xj];exact List.mem_map.2 ⟨m,hm,rfl⟩)
 have iH:∀v,get n (I x).env = .any/\get ok (I x).env = .any/\(a.put (some n) v).eval (.tmp n)=v:=fun v=>⟨hI x n (by simp),hI x ok (by simp),Bw (by rw [YU];exact hnN)⟩
 rcases run_next_at (P:=P) w o1.type r bm clock c0 seen ms clock' M.hr M.hm hold M.sc with ⟨h0,hrun⟩|⟨en,hel,w1,hw1,hrun⟩
 ·refine uK (x := .tuple #[.bool false]) (w' := w) (fun _ => trivial) rfl hO0 (ig hg1 _) (by rw [FA]; intro c; simp) (.inl (by
   unfold execOp;rw [FA];simp only [Xl,Sem.run_bind,hrun];rfl)) ?_
  rw [hd1]
  refine uK (x := .bool false) (w' := w) (fun _ => trivial) rfl hO1 (ig hg2 _) (by rw [KT]; intro c; simp) (.inl (by
   unfold execOp;rw [KT];simp only [(iH _).2.2];simp [Instr.extract])) ?_
  rw [NJ]
  simp only [wpOpsIn]
  show Code.wpIn _ _ _ (.seq _ _) _ _ _
  refine wpIn_seq (wpIn_cond_false (Bw (by simpa [Act.put,YU] using hokN)) (wpIn_exit ?_))
  have adr:todo=[]:=by
   cases htd:todo with
   |nil=>rfl
   |cons i _ =>
    exfalso
    obtain ⟨b,kP,iw⟩:=(M.left i).1 (by rw [htd];exact List.mem_cons_self ..)
    rw [<-M.Xj,List.getElem?_map] at kP
    cases hmi:ms.toList[i]? with
    |none=>rw [hmi] at kP;cases kP
    |some m =>
     rw [hmi] at kP;cases kP
     have:m∈leftOf ms seen:=by
      simp only [leftOf,Array.mem_filter]
      exact ⟨by simpa using List.mem_of_getElem? hmi,by simpa using iw⟩
     have hp:=Array.size_pos_of_mem this
     omega
  subst adr
  obtain ⟨res,hr,hK⟩:=zC [] (.refl _)
  simp only [List.map_nil,EZ,Option.some.injEq] at hr
  subst hr
  refine ⟨Y0,N9,ι,μ,I x,.exit zX,?_,rfl,?_⟩
  ·have h1 := (M.rep.over (iH .nilFunc).1 (.tuple #[.bool false])).over (iH .nilFunc).2.1 (.bool false)
   exact h1
  ·simp only [Nat.beq_refl];exact hK
 ·-- an entry
  have YV:w1.heap=w.heap:=by rcases hw1 with rfl|rfl<;>rfl
  have Nc:fG P N Y0 ι μ (I x) a w1:=by
   rcases hw1 with rfl|rfl
   ·exact M.rep
   ·exact ⟨M.rep.env,M.rep.sz,M.rep.inv.drew,M.rep.ms⟩
  have yS:w1.heap[r]?=some (.mapIter (some bm) clock seen c0):=by rw [YV];exact M.hr
  have lI:w1.heap[bm]?=some (.map ms clock'):=by rw [YV];exact M.hm
  have hne:bm≠r:=fun e=>by subst e;rw [yS] at lI;cases lI
  have hrlt:r<w1.heap.size:=(Array.getElem?_eq_some_iff.1 yS).1
  change (Instr.next _ _ _).run P w = .ok _ (w1.putObj r (.mapIter (some bm) clock (seen.push en.born) clock')) at hrun
  generalize hw2:w1.putObj r (.mapIter (some bm) clock (seen.push en.born) clock')=w2 at hrun
  have A3:w2.heap[r]?=some (.mapIter (some bm) clock (seen.push en.born) clock'):=by rw [<-hw2];exact World.putObj_heap_same hrlt
  have hm2:w2.heap[bm]?=some (.map ms clock'):=by rw [<-hw2,World.putObj_heap_other hne];exact lI
  have zY:Inv P Y0 ι μ (I x).H w2:=by rw [<-hw2];exact Nc.inv.side yS M.own _
  have adt:Y0.w0.heap.size<=w2.heap.size:=zY.below.size
  clear hw2 lI yS Nc hw1 YV hrlt
  refine uK (x := .tuple #[.bool true, en.key, en.val]) (w' := w2) (fun _ => trivial) rfl hO0 (ig hg1 _) (by rw [FA]; intro c; simp) (.inl (by
   unfold execOp;rw [FA];simp only [Xl,Sem.run_bind,hrun];rfl)) ?_
  rw [hd1]
  refine uK (x := .bool true) (w' := w2) (fun _ => trivial) rfl hO1 (ig hg2 _) (by rw [KT]; intro c; simp) (.inl (by
   unfold execOp;rw [KT];simp only [(iH _).2.2];simp [Instr.extract])) ?_
  rw [NJ]
  simp only [wpOpsIn]
  show Code.wpIn _ _ _ (.seq _ _) _ _ _
  refine wpIn_seq (wpIn_cond_true (Bw (by simpa [Act.put,YU] using hokN)) (wpIn_skip ?_))
  have hRa:fG P N Y0 ι μ (I x) ((a.put (some n) (.tuple #[.bool true,en.key,en.val])).put (some ok) (.bool true)) w2:=by
   have h1:=(M.rep.over (iH .nilFunc).1 (.tuple #[.bool true,en.key,en.val])).over (iH .nilFunc).2.1 (.bool true)
   exact ⟨h1.env,h1.sz,zY,h1.ms⟩
  have YW:((a.put (some n) (.tuple #[.bool true,en.key,en.val])).put (some ok) (.bool true)).tmps.getD qz undef = .pointer (some ⟨r,0,none⟩):=by
   rw [Oz Xk,Oz hnit];exact M.it
  show Code.wpIn _ _ _ (.block b3 y) _ _ _
  generalize ((a.put (some n) (.tuple #[.bool true,en.key,en.val])).put (some ok) (.bool true))=a2 at hRa YW
  -- which one
  have YX:en∈ms.toList/\en.born∉seen.toList:=by
   have:en∈leftOf ms seen:=by simpa using hel
   simp only [leftOf,Array.mem_filter] at this
   exact ⟨by simpa using this.1,by simpa using this.2⟩
  obtain ⟨i,hi⟩:=List.getElem?_of_mem YX.1
  have hbi:bs[i]?=some en.born:=by rw [<-M.Xj,List.getElem?_map,hi];rfl
  have FB:i∈todo:=(M.left i).2 ⟨_,hbi,YX.2⟩
  have xu:∀J:List Nat,J.Perm (todo.erase i)->∃res,EZ step (kR.getD i (xq.zero,ze.zero)::J.map fun i=>kR.getD i (xq.zero,ze.zero)) x=some res/\(match res with | .inl y=>K .normal (I y) | .inr b=>K (Dv zX (X b).1) (X b).2):=fun J hJ =>
   zC (i::J) ((hJ.cons i).trans (List.perm_cons_erase FB).symm)
  have hs1:∃q,step (kR.getD i (xq.zero,ze.zero)) x=some q:=by
   obtain ⟨res,hr,_⟩:=xu _ (.refl _)
   rcases Du hr with ⟨y,hy⟩|⟨b,hb,_⟩
   ·exact ⟨_,hy⟩
   ·exact ⟨_,hb⟩
  obtain ⟨q,hq⟩:=hs1
  obtain ⟨id,es',hmid,qA,hwp⟩:=hstep _ _ _ hq
  obtain ⟨⟨L,hL,Yg⟩,CD⟩:=M.here id hmid
  have:=CD es' qA
  subst this
  obtain ⟨L',ms2,ck2,es2,z1,z2,z3,z4,z5,z6,z7,z8⟩:=zY.live id _ (ez qA)
  rw [hL] at z1;cases z1
  rw [Yg,hm2] at z3;cases z3
  obtain ⟨e0,he0,hk,hv⟩:=z4.at hi
  have hat:kR.getD i (xq.zero,ze.zero)=e0:=by
   have hil:i<kR.length:=by
    have:=(List.getElem?_eq_some_iff.1 hbi).1
    rw [M.len];exact this
   have h1:kR[i]?=some kR[i]:=List.getElem?_eq_getElem hil
   have h2:=M.hke i _ en.key h1 (by rw [<-M.hkz,List.getElem?_map,hi];rfl)
   have h3:=hdE.inj (hp0.mem_iff.1 (List.getElem_mem hil)) (z7.mem_iff.1 (List.mem_of_getElem? he0)) (Tx hkT h2 hk)
   rw [List.getD_eq_getElem?_getD,h1]
   exact h3
  rw [hat] at hq hwp xu
  have hx0:=hnx x
  let L0:Loc:=⟨r,0,0,0⟩
  have OD:Inv P Y0 ι (μ.set aM L0) ⟨aM+1,(I x).H.bl⟩ w2:=by rw [<-hx0];exact zY.name L0
  have hnone:μ aM=none:=by rw [<-hx0];exact zY.nx _ (Nat.le_refl _)
  have hle:=Mu.iQ (L:=L0) hnone
  have hRs:fG P N (Y0.side w2 ι (μ.set aM L0) r) ι (μ.set aM L0) ⟨(qz,.ptr aM 0)::(I x).env,⟨aM+1,(I x).H.bl⟩,(I x).ms⟩ a2 w2:=by
   refine ⟨fun t=>?_,hRa.sz,OD.into A3,hRa.ms.mono hle⟩
   rw [fF]
   split
   ·rename_i e; subst e
    rw [YW]
    have:=Rel.ptr (ι:=ι) (μ:=μ.set aM L0) aM 0 L0 (by simp [Mu.set])
    exact this
   ·exact (hRa.env t).mono (aB.le_refl _) hle
  have hent:=run_entry_at (P:=P) w2 r bm clock seen ms clock' en A3 hm2 YX.1 (by rw [M.Xj];exact M.nd)
  have adu:nH (Y0.side w2 ι (μ.set aM L0) r) out:=(N9.outE hout).up (Mu.le_trans M.rep.inv.m0 hle)
  have iW:(Y0.side w2 ι (μ.set aM L0) r).base (aM+1):=fun id hid=>OD.nx id hid
  have hF:(Y0.side w2 ι (μ.set aM L0) r).F=Y.F:=N9.F
  rw [<-hF]
  refine wpIn_mono (OA (Y:=Y0.side w2 ι (μ.set aM L0) r) (cY (aM+1)) KU hbd adu iW hRs YW hent (hk.rel) (hv.rel) hwp) fun e3 a3 w3 hp=>?_
  obtain ⟨Y1,Xe,ι3,μ3,S3,ex,Nd,Xf,Th⟩:=hp
  have H8:Inv P (Y0.side w2 ι (μ.set aM L0) r) ι3 μ3 S3.H w3:=Xe.inv Nd.inv
  have TA:(μ.set aM L0).le μ3:=H8.m0
  have adv:=(Array.getElem?_eq_some_iff.1 A3).1
  obtain ⟨Y2,H9,adw,-,-,-,N8,-,adx⟩:=Xe.lift (Yb:=Y0) (r:=r) (fun h=>OD.adm h) (fun b hb=>by
   rcases hb with hb|hb
   ·exact .inl (Nat.le_trans adt hb)
   ·exact hb.1) rfl (Mu.le_trans M.rep.inv.m0 hle) rfl ⟨adv,fun h=>by
    rcases h with h|h
    ·have : w2.heap.size ≤ r := h
     omega
    ·exact h.2 rfl⟩ M.own
  have hYt:=N9.trans H9
  have Ia:Inv P Y2 ι3 μ3 S3.H w3:=adw Nd.inv
  have hms3:jG Y2.hid μ3 S3.ms a3.defers:=by rw [N8];exact Nd.ms
  cases q with
  |inr b =>
   obtain ⟨hne3,hex,π3,Ib⟩:=Th
   obtain ⟨res,hr,hK⟩:=xu _ (.refl _)
   have hres:res = .inr b:=by
    rcases Du hr with ⟨y,hy⟩|⟨b',hb,h⟩
    ·rw [hq] at hy;cases hy
    ·rw [hq] at hb;cases hb;exact h
   subst hres
   have hRb:=Ib.rep (hYt.wF hbase) (⟨Nd.env,Nd.sz,Ia,hms3⟩:fG P N Y2 ι3 μ3 S3 a3 w3)
   subst hex
   simp only at hK
   generalize hxb:(X b).1=xb at hK Xf hne3
   cases xb with
   |normal=>exact absurd rfl hne3
   |exit i' =>
    cases Xf
    refine ⟨Y2,hYt,ι3,_,_,.exit i',hRb,rfl,?_⟩
    simp only [Dv] at hK
    split at hK
    ·rename_i hb;simp only [hb];exact hK
    ·rename_i hb;simp only [hb];exact hK
   |ret=>cases Xf;exact ⟨Y2,hYt,ι3,_,_,.ret,hRb,rfl,hK⟩
  |inl y =>
   obtain ⟨rfl,hit3,hmn3,Bx,π3,Ib⟩:=Th
   cases Xf
   have hRf:fG P N Y2 ι3 μ3 ⟨fc (qz::[n,ok]) S3.env,S3.H,S3.ms⟩ a3 w3:=⟨Nd.env.forget _,Nd.sz,Ia,hms3⟩
   have hRy:=Ib.rep (hYt.wF hbase) hRf
   have hbm3 : w3.heap[bm]? = some (.map ms clock') ∨ ∃ Xm ck3, w3.heap[bm]? = some (.map Xm ck3) := .inr (by
    obtain ⟨L3,Xm,ck3,es3,y1,y2,y3,_⟩:=Ia.live id _ (ez Bx)
    rw [TA _ _ (hle _ _ hL)] at y1;cases y1
    exact ⟨Xm,ck3,by rw [<-Yg];exact y3⟩)
   obtain ⟨L3,Xm,ck3,es3,y1,y2,y3,y4,y5,y6,y7,_⟩:=Ia.live id _ (ez Bx)
   rw [TA _ _ (hle _ _ hL)] at y1;cases y1
   rw [Yg] at y3
   have adC:bm<w2.heap.size:=(Array.getElem?_eq_some_iff.1 hm2).1
   have hgrow:=H8.below.maps bm adC ms clock' hm2
   obtain ⟨ms4,ck4,g1,g2,g3⟩:=hgrow
   rw [y3] at g1;cases g1
   have W7:(Xm.toList.map fun m=>(m.born,m.key))=ms.toList.map fun m=>(m.born,m.key):=by
    refine (g2.eq_of_length ?_).symm
    have h1:=zY.live id _ (ez qA)
    have h2:ms.toList.length=bs.length:=by rw [<-M.Xj,List.length_map]
    rw [List.length_map,List.length_map,gB.length y4,y7.length_eq,<-hp0.length_eq,hlen,h2]
   have HI:Xm.toList.map (·.born)=bs:=by
    have:=congrArg (List.map Prod.fst) W7
    rw [<-M.Xj];simpa [List.map_map,Function.comp_def] using this
   have hkeys:Xm.toList.map (·.key)=kz:=by
    have:=congrArg (List.map Prod.snd) W7
    rw [<-M.hkz];simpa [List.map_map,Function.comp_def] using this
   refine ⟨⟨todo.erase i,y⟩,⟨⟨Y2,hYt,ι3,_,seen.push en.born,clock',Xm,ck3,hRy,?_,adx,?_,M.ck,Nat.le_trans M.ck g3,y3,HI,hkeys,fun i e z he hz=>(M.hke i e z he hz).mono (fun b o x hx=>H8.i0 b o x hx),M.old,M.nd,M.len,M.td.erase i,fun j=>?_,?_⟩,fun J hJ=>?_⟩,?_⟩
   ·have := Nd.env qz
    rw [hit3] at this
    generalize a3.tmps.getD qz undef=tv at this ⊢
    cases this with
    |ptr _ _ L4 h4 =>
     rw [TA aM L0 (by simp [Mu.set])] at h4
     cases h4
     rfl
   ·have := H8.below.block r (Array.getElem?_eq_some_iff.1 A3).1 (fun h => h.2 rfl)
    rw [this];exact A3
   ·rw [List.Nodup.mem_erase_iff M.td, M.left j]
    simp only [Array.toList_push,List.mem_append,List.mem_singleton]
    constructor
    ·rintro ⟨hj, b, hb, hs⟩
     refine ⟨b,hb,fun h=>?_⟩
     rcases h with h|h
     ·exact hs h
     ·subst h
      exact hj ((List.getElem?_inj (List.getElem?_eq_some_iff.1 hb).1 M.nd).1 (hb.trans hbi.symm))
    ·rintro ⟨b, hb, hs⟩
     refine ⟨fun e=>?_,b,hb,fun h=>hs (.inl h)⟩
     subst e
     rw [hbi] at hb;cases hb
     exact hs (.inr rfl)
   ·exact fun yM h2=>H7 Ib hmn3 Bx (TA _ _ (hle _ _ hL)) Yg yM h2
   ·obtain ⟨res, h, hK⟩ := xu J hJ
    simp only [EZ,hq] at h
    exact ⟨res,h,hK⟩
   ·rw [List.length_erase_of_mem FB]
    have:=List.length_pos_of_mem FB
    show todo.length - 1<todo.length
    omega
end
end Go.AM
end
section
namespace Go.AM
structure Kz (R:Type) where
 br:Bool->R->R->R
 am:R->R->R
 nd:Bool->R->R
 no:R
 bd:{A:Type}->Option A->(A->R)->R
 sm:{A B:Type}->A ⊕ B->(A->R)->(B->R)->R
 an:{E:Type}->List E->(List E->R)->R
noncomputable def need {X:Type} (c:Bool) (x:Option X):Option X:=@ite _ (c=true) (Classical.propDecidable _) x none
noncomputable def vq {X:Type} (c:Bool) (x y:Option X):Option X:=@ite _ (c=true) (Classical.propDecidable _) x y
noncomputable def Dy {X:Type} (x y:Option X):Option X:=@ite _ (x=y) (Classical.propDecidable _) x none
noncomputable def cZ {A X:Type} (o:Option A) (f:A->Option X):Option X:=@dite _ (∃a,o=some a) (Classical.propDecidable _) (fun h=>f h.choose) (fun _=>none)
@[reducible] noncomputable def jv (X:Type):Kz (Option X) where
 br c a b:=vq c a b
 am a b:=Dy a b
 nd c a:=need c a
 no:=none
 bd o f:=cZ o f
 sm s f g:=match s with
  | .inl a=>f a
  | .inr b=>g b
 an es f:=iV f es
theorem KX {X:Type} {x y:Option X} {r:X} (h:Dy x y=some r):x=some r/\y=some r:=by
 unfold Dy at h
 split at h
 ·rename_i e;exact ⟨h,e▸h⟩
 ·cases h
@[simp] theorem KY {X:Type} {x:Option X}:Dy x x=x:=by unfold Dy;rw [if_pos rfl]
theorem aA {X:Type} {c:Bool} {x:Option X} (h:c=true):need c x=x:=by unfold need;rw [if_pos h]
@[simp] theorem cR {X:Type} {x:Option X}:need true x=x:=aA rfl
@[simp] theorem YY {X:Type} {x:Option X}:need false x=none:=by unfold need;rw [if_neg (by simp)]
@[simp] theorem cQ {X:Type} {x y:Option X}:vq true x y=x:=by unfold vq;rw [if_pos rfl]
@[simp] theorem aZ {X:Type} {x y:Option X}:vq false x y=y:=by unfold vq;rw [if_neg (by simp)]
theorem brO_if {X:Type} {c:Bool} {x y:Option X}:vq c x y=if c=true then x else y:=by cases c<;>simp
@[simp] theorem bg {A X:Type} {a:A} {f:A->Option X}:cZ (some a) f=f a:=by
 have h:∃b,some a=some b:=⟨a,rfl⟩
 unfold cZ;rw [dif_pos h]
 have:=h.choose_spec
 rw [<-Option.some.inj this]
@[simp] theorem o8 {A X:Type} {f:A->Option X}:cZ none f=none:=by
 unfold cZ;rw [dif_neg];rintro ⟨a,h⟩;cases h
theorem j4 {X:Type} {c:Bool} {x:Option X} {r:X} (h:need c x=some r):c=true/\x=some r:=by
 cases c<;>simp at h ⊢;exact h
theorem dx {A X:Type} {o:Option A} {f:A->Option X} {r:X} (h:cZ o f=some r):∃a,o=some a/\f a=some r:=by
 cases o<;>simp at h ⊢;exact h
theorem rW {X A:Type} {o:Option A} {f:A->Option X} {r:X} (h:(jv X).bd o f=some r):∃a,o=some a/\f a=some r:=dx h
theorem o9 {X:Type} {c:Bool} {x y:Option X} {r:X} (h:vq c x y=some r):(c=true/\x=some r)\/(c=false/\y=some r):=by
 cases c<;>simp at h ⊢<;>exact h
section
variable {R:Type}
def fV (v:V) (k:V->R):R:=match v with
 | .any=>k .any
 | .tf b=>match b with
  |true=>k (.tf true)
  |false=>k (.tf false)
 | .bool b=>k (.bool b)
 | .int ik n=>k (.int ik n)
 | .str s=>k (.str s)
 | .eJ=>k .eJ
 | .cu=>k .cu
 | .cK=>k .cK
 | .eG t xs=>k (.eG t xs)
 | .kO t xs=>k (.kO t xs)
 | .bA=>k .bA
 | .sl id t lo n=>k (.sl id t lo n)
 | .ptr id off=>k (.ptr id off)
 | .av cs=>k (.av cs)
 | .ep id t i p=>k (.ep id t i p)
 | .ip t x=>k (.ip t x)
 | .fn f a b=>k (.fn f a b)
 | .yl id=>k (.yl id)
 | .agg cs=>k (.agg cs)
 | .cG vs=>k (.cG vs)
 | .bU t v=>k (.bU t v)
 | .cb c=>k (.cb c)
 | .mp id=>k (.mp id)
 | .dZ=>k .dZ
 | .pa id t n=>k (.pa id t n)
 | .jP t xs=>k (.jP t xs)
 | .sp id o l=>k (.sp id o l)
theorem ij (v:V) (k:V->R):fV v k=k v:=by
 cases v<;>try rfl
 rename_i b;cases b<;>rfl
def fN (n:Nat) (k:Nat->R):R:=match n with
 |0=>k 0
 |n+1=>k (n+1)
theorem eY (n:Nat) (k:Nat->R):fN n k=k n:=by cases n<;>rfl
def tN (d:Option Nat) (v:V) (env:Env) (k:Env->R):R:=match d with
 |some t=>k ((t,v)::env)
 |none=>k env
theorem eI (d:Option Nat) (v:V) (env:Env) (k:Env->R):tN d v env k=k (put d v env):=by cases d<;>rfl
def oq (id : Nat) : ai → (ai → R) → R
 |[],k=>k []
 |(s,b)::r,k=>match Nat.beq s id with
  |true=>oq id r k
  |false=>oq id r fun r'=>k ((s,b)::r')
theorem gJ (id : Nat) : ∀ (bl : ai) (k : ai → R), oq id bl k = k (cB id bl)
 |[],k=>rfl
 |(s,b)::r,k=>by
  simp only [oq,cB]
  split<;>rename_i h<;>simp only [h]<;>exact gJ id r _
def gw : dU → ai → (ai → R) → R
 |[],bl,k=>k bl
 |(id,none)::r,bl,k=>oq id bl fun bl=>gw r bl k
 |(id,some b)::r,bl,k=>oq id bl fun bl=>gw r ((id,b)::bl) k
theorem cM : ∀ (u : dU) (bl : ai) (k : ai → R), gw u bl k = k (bV u bl)
 |[],_,_=>rfl
 |(id,none)::r,bl,k=>by simp only [gw,gJ,bV];exact cM r _ k
 |(id,some b)::r,bl,k=>by simp only [gw,gJ,bV];exact cM r _ k
def ot (kz : Kz R) : List Bool → R → R
 |[],k=>k
 |b::r,k=>kz.nd b (ot kz r k)
structure Cx where
 pc:{R:Type}->Kz R->Nat->List V->(V->R)->R
 ca:{R:Type}->Kz R->Nat->List V->Nat->ai->(V->Nat->ai->R)->R
 rd:{R:Type}->Kz R->Nat->List V->Nat->ai->(V->Nat->ai->R)->R
 op:Nat:=0
 gc:{R:Type}->Kz R->Nat->List V->Nat->ai->R->(V->List Nat->dU->R)->R:=fun _ _ _ _ _ d _=>d
def GOk (P:Program) (f:Nat) (vs:List V) (n:Nat) (bl:ai) (v:V) (l8:List Nat) (u:dU):Prop:=∀bO,(∀id∈l8,aq id bO=aq id bl)->NZ P f vs bO n v u
structure Cx.Ok (P:Program) (cx:Cx):Prop where
 Ic:∀{X:Type} {f:Nat} {vs:List V} {K:V->Option X} {r:X},cx.pc (jv X) f vs K=some r->∃v,dy P f vs v/\K v=some r
 E0:∀{X:Type} {f:Nat} {vs:List V} {nx:Nat} {bl:ai} {K:V->Nat->ai->Option X} {r:X},cx.ca (jv X) f vs nx bl K=some r ->
  ∀{Q:V->aO->Prop},(∀v nx bl,K v nx bl=some r->Q v ⟨nx,bl⟩)->dB P f vs ⟨nx,bl⟩ Q
 OE:∀{X:Type} {id:Nat} {vs:List V} {nx:Nat} {bl:ai} {K:V->Nat->ai->Option X} {r:X},cx.rd (jv X) id vs nx bl K=some r ->
  ∀{Q:V->aO->Prop},(∀v nx bl,K v nx bl=some r->Q v ⟨nx,bl⟩)->around P id vs ⟨nx,bl⟩ Q
 Nf:∀{X:Type} {f:Nat} {vs:List V} {n:Nat} {bl:ai} {d:Option X} {K:V->List Nat->dU->Option X} {r:X},cx.gc (jv X) f vs n bl d K=some r->d=some r\/∃v l8 u,GOk P f vs n bl v l8 u/\K v l8 u=some r
def Cx.j8 (cx:Cx) (n:Nat):Cx:={ cx with op:=n }
theorem Cx.OG {P:Program} {cx:Cx} (h:cx.Ok P) (n:Nat):(cx.j8 n).Ok P:=⟨h.Ic,h.E0,h.OE,h.Nf⟩
def tO (kz:Kz R) (g:Option (Nat×Bool)) (env:Env) (skip run:Env->R):R:=match g with
 |none=>run env
 |some (s,b)=>match get s env with
  | .tf c=>match c,b with
   |true,true=>run env
   |false,false=>run env
   |true,false=>skip env
   |false,true=>skip env
  | .bool c => kz.br c
   (match b with
    |true=>run ((s,.tf true)::env)
    |false=>skip ((s,.tf true)::env))
   (match b with
    |false=>run ((s,.tf false)::env)
    |true=>skip ((s,.tf false)::env))
  | .cG _=>skip env
  |_=>kz.no
def KZ (kz:Kz R) (op:Nat) (ar:Ar) (bl:ai) (k:ai->R):R:=match op with
 |0=>k bl
 |n+1=>match (match n with
   |0=>Nv bl
   |1=>AQ bl
   |_+2=>Hp bl) with
  |[]=>k bl
  |ids=>match Kq ar ids bl with
   |some u=>gw u bl k
   |none=>kz.no
def dmOp : Nat → Nat
 |0=>0
 |_+1=>1
def kI (kz : Kz R) (cx : Cx) (ar : Ar) : List dD → Env → Nat → ai → (Env → Nat → ai → R) → R
 |[],env,nx,bl,K=>K env nx bl
 | .op d g i::r,env,nx,bl,K=>tO kz g env (fun env=>tN d (.cG []) env fun env=>kI kz cx ar r env nx bl K) fun env =>
   match cx.op with
   |0=>(match Tq ar i env bl nx with
    |some (ob,v,u)=>ot kz ob (fV v fun v=>tN d v env fun env=>match i.lays with
     |true=>fN (nx+1) fun nx=>gw u bl fun bl=>kI kz cx ar r env nx bl K
     |false=>gw u bl fun bl=>kI kz cx ar r env nx bl K)
    |none=>kz.no)
   |_+1=>match vk ar i env bl nx with
    |some (ob,v,u)=>ot kz ob (fV v fun v=>tN d v env fun env=>match i.lays with
     |true=>fN (nx+1) fun nx=>gw u bl fun bl=>kI kz cx ar r env nx bl K
     |false=>gw u bl fun bl=>kI kz cx ar r env nx bl K)
    |none=>match Tq ar i env bl nx with
     |some (ob,v,u)=>ot kz ob (fV v fun v=>tN d v env fun env=>match i.lays with
      |true=>fN (nx+1) fun nx=>gw u bl fun bl=>kI kz cx ar r env nx bl K
      |false=>gw u bl fun bl=>kI kz cx ar r env nx bl K)
     |none=>KZ kz 1 ar bl fun bl=>match Tq ar i env bl nx with
      |some (ob,v,u)=>ot kz ob (fV v fun v=>tN d v env fun env=>match i.lays with
       |true=>fN (nx+1) fun nx=>gw u bl fun bl=>kI kz cx ar r env nx bl K
       |false=>gw u bl fun bl=>kI kz cx ar r env nx bl K)
      |none=>kz.no
 | .call d g f a tys::r,env,nx,bl,K=>tO kz g env (fun env=>tN d (.cG []) env fun env=>kI kz cx ar r env nx bl K) fun env=>KZ kz (dmOp cx.op) ar bl fun bl =>
   match f.ev env with
   | .fn f fs cs=>cx.ca kz f (fs++cw tys (a.map (·.ev env))++cs) nx bl fun v nx bl=>fV v fun v=>tN d v env fun env=>kI kz cx ar r env nx bl K
   | .yl id=>cx.rd kz id (cw tys (a.map (·.ev env))) nx bl fun v nx bl=>fV v fun v=>tN d v env fun env=>kI kz cx ar r env nx bl K
   |_=>kz.no
def rX (kz:Kz R) (gs:List Nat) (d:Option Nat) (v:V) (env:Env) (K:Env->R):R:=match d with
 |none=>K env
 |some t=>match tg t gs with
  |false=>K ((t,v)::env)
  |true=>match v with
   | .bool c=>kz.br c (K ((t,.tf true)::env)) (K ((t,.tf false)::env))
   |v=>K ((t,v)::env)
def FC (kz : Kz R) (cx : Cx) (ar : Ar) (gs : List Nat) (b : Nat) : List dD → Nat → Env → ai → List DR → (Env → ai → List DR → R) → R
 |[],_,env,bl,bP,K=>K env bl bP
 | .op d g i::r,k,env,bl,bP,K=>match CB g env with
  |some true=>match (match cx.op with
    |0=>none
    |_+1=>vk ar i env bl (b+k)) with
   |some (ob,v,u)=>ot kz ob (fV v fun v=>rX kz gs d v env fun env'=>gw u bl fun bl=>FC kz cx ar gs b r (k+1) env' bl (qi k (mU i env) (u.map (·.1)) bP) K)
   |none=>match Tq ar i env bl (b+k) with
    |some (ob,v,u)=>ot kz ob (fV v fun v=>rX kz gs d v env fun env'=>gw u bl fun bl=>FC kz cx ar gs b r (k+1) env' bl (qi k (mU i env) (u.map (·.1)) bP) K)
    |none=>kz.no
  |some false=>tN d (.cG []) env fun env=>FC kz cx ar gs b r (k+1) env bl bP K
  |none=>kz.no
 | .call d g f a tys::r,k,env,bl,bP,K=>match CB g env with
  |some true=>match f.ev env with
   | .fn f fs cs=>match fs++cw tys (a.map (·.ev env))++cs with
    |vs=>cx.gc kz f vs (b+k) bl (match cL (fin ar bl 8) vs with
     |some vs'=>cx.pc kz f vs' fun x=>fV x fun x=>match A2 x||vs.all (cJ 8) with
      |true=>rX kz gs d x env fun env'=>FC kz cx ar gs b r (k+1) env' bl (qi k (jn bl vs) [] bP) K
      |false=>match vX (jn bl vs) bl with
       |some u=>rX kz gs d x env fun env'=>gw u bl fun bO=>FC kz cx ar gs b r (k+1) env' bO (qi k (jn bl vs) (u.map (·.1)) bP) K
       |none=>kz.no
     |none=>kz.no) fun x l8 u=>rX kz gs d x env fun env'=>gw u bl fun bO=>FC kz cx ar gs b r (k+1) env' bO (qi k l8 (u.map (·.1)) bP) K
   |_=>kz.no
  |some false=>tN d (.cG []) env fun env=>FC kz cx ar gs b r (k+1) env bl bP K
  |none=>kz.no
end
abbrev Kc (R:Type):=Ex->Env->Nat->ai->List Nat->R
structure bK (P:Program) (N:Nat) (out:Option Nat) (base:Nat):Type 1 where
 c:C
 run:{R:Type}->Kz R->Env->Nat->ai->List Nat->Kc R->R
 ok:∀{X:Type} {env:Env} {nx:Nat} {bl:ai} {ms:List Nat} {K:Kc (Option X)} {r:X},run (jv X) env nx bl ms K=some r ->
  ∀{Q:Ex->St->Prop},(∀e env nx bl ms,K e env nx bl ms=some r->Q e ⟨env,⟨nx,bl⟩,ms⟩)->(cS P N out base).loop c ⟨env,⟨nx,bl⟩,ms⟩ Q
structure fJ (P:Program) (N:Nat) (out:Option Nat) (base:Nat):Type 1 where
 f:O
 ps:List Nat
 a:C
 b:C
 run:{R:Type}->Kz R->Env->Nat->ai->List Nat->Kc R->R
 ok:∀{X:Type} {env:Env} {nx:Nat} {bl:ai} {ms:List Nat} {K:Kc (Option X)} {r:X},run (jv X) env nx bl ms K=some r ->
  ∀{Q:Ex->St->Prop},(∀e env nx bl ms,K e env nx bl ms=some r->Q e ⟨env,⟨nx,bl⟩,ms⟩)->(cS P N out base).c9 f ps a b ⟨env,⟨nx,bl⟩,ms⟩ Q
structure K0 (P:Program) (N:Nat) (out:Option Nat) (base:Nat):Type 1 where
 pre:List dD
 m:O
 it:Nat
 cl:List Nat
 e:Option Nat
 kt:Ty
 kg:Bool
 vt:Ty
 vg:Bool
 pJ:Nat
 b:C
 run:{R:Type}->Kz R->Env->Nat->ai->List Nat->Kc R->R
 ok:∀{X:Type} {env:Env} {nx:Nat} {bl:ai} {ms:List Nat} {K:Kc (Option X)} {r:X},run (jv X) env nx bl ms K=some r ->
  ∀{Q:Ex->St->Prop},(∀e env nx bl ms,K e env nx bl ms=some r->Q e ⟨env,⟨nx,bl⟩,ms⟩)->(cS P N out base).gk (.gk pre m it cl e kt kg vt vg pJ b) ⟨env,⟨nx,bl⟩,ms⟩ Q
structure xw (P:Program) (N:Nat) (out:Option Nat) (base:Nat) (f:O) (ps:List Nat) (a b:C):Type 1 where
 run:{R:Type}->Kz R->Env->Nat->ai->List Nat->Kc R->R
 ok:∀{X:Type} {env:Env} {nx:Nat} {bl:ai} {ms:List Nat} {K:Kc (Option X)} {r:X},run (jv X) env nx bl ms K=some r ->
  ∀{Q:Ex->St->Prop},(∀e env nx bl ms,K e env nx bl ms=some r->Q e ⟨env,⟨nx,bl⟩,ms⟩)->(cS P N out base).c9 f ps a b ⟨env,⟨nx,bl⟩,ms⟩ Q
def xw.s {P:Program} {N:Nat} {out:Option Nat} {base:Nat} {f:O} {ps:List Nat} {a b:C} (T:xw P N out base f ps a b):fJ P N out base:=⟨f,ps,a,b,T.run,T.ok⟩
def OH : Nat → List Nat → Bool
 |0,[]=>true
 |n+1,_::r=>OH n r
 |_,_=>false
def altR {P:Program} {N:Nat} {out:Option Nat} {base:Nat} {f:O} {ps:List Nat} {a b:C} (k:Nat) (A B:xw P N out base f ps a b):xw P N out base f ps a b where
 run kz env nx bl ms K:=match OH k ms with
  |true=>A.run kz env nx bl ms K
  |false=>B.run kz env nx bl ms K
 ok:=by
  intro X env nx bl ms K r h Q hQ
  cases hl:OH k ms
  ·simp only [hl] at h;exact B.ok h hQ
  ·simp only [hl] at h;exact A.ok h hQ
inductive D (P:Program) (N:Nat) (out:Option Nat) (base:Nat):Type 1 where
 |skip
 |cF (items:List dD)
 |draw (cU:List (List Nat)) (items:List dD)
 |seq (a b:D P N out base)
 |cond (c:O) (a b:D P N out base)
 |block (id:Nat) (c:D P N out base)
 |loop (l:bK P N out base)
 |exit (id:Nat)
 |ret
 |c9 (l:fJ P N out base)
 |gk (l:K0 P N out base)
section
variable {P:Program} {N:Nat} {out:Option Nat} {base:Nat} {R:Type}
def D.er : D P N out base → C
 | .skip=>.skip
 | .cF is=>.cF is
 | .draw ps is=>.draw ps is
 | .seq a b=>.seq a.er b.er
 | .cond c a b=>.cond c a.er b.er
 | .block id c=>.block id c.er
 | .loop l=>.loop l.c
 | .exit id=>.exit id
 | .ret=>.ret
 | .c9 l=>.c9 l.f l.ps l.a l.b
 | .gk l=>.gk l.pre l.m l.it l.cl l.e l.kt l.kg l.vt l.vg l.pJ l.b
def Ng (c:O) (b:Bool) (env:Env):Env:=match c with
 | .t n=>(n,.tf b)::env
 | .c _=>env
 | .m _ _=>env
def kE (kz : Kz R) (cx : Cx) (ar : Ar) : D P N out base → Env → Nat → ai → List Nat → Kc R → R
 | .skip,env,nx,bl,ms,K=>K .normal env nx bl ms
 | .cF is,env,nx,bl,ms,K=>kI kz cx ar is env nx bl fun env nx bl=>K .normal env nx bl ms
 | .draw ps is,env,nx,bl,ms,K=>FC kz cx ar (qj is) nx is 0 env bl [] fun env bl bP=>match vW ps bP with
  |true=>fN (nx+is.length) fun nx=>K .normal env nx bl ms
  |false=>kz.no
 | .seq a b,env,nx,bl,ms,K=>kE kz cx ar a env nx bl ms fun e env nx bl ms=>match e with
  | .normal=>kE kz cx ar b env nx bl ms K
  | .exit id=>K (.exit id) env nx bl ms
  | .ret=>K .ret env nx bl ms
 | .cond c a b,env,nx,bl,ms,K=>match c.ev env with
  | .tf true=>kE kz cx ar a env nx bl ms K
  | .tf false=>kE kz cx ar b env nx bl ms K
  | .bool x=>kz.br x (kE kz cx ar a (Ng c true env) nx bl ms K) (kE kz cx ar b (Ng c false env) nx bl ms K)
  | .cb x=>kz.br x (kz.am (kE kz cx ar a (Ng c true env) nx bl ms K) (kE kz cx ar b (Ng c false env) nx bl ms K)) (kE kz cx ar b (Ng c false env) nx bl ms K)
  |_=>kz.no
 | .block id c,env,nx,bl,ms,K=>kE kz cx ar c env nx bl ms fun e env nx bl ms=>match e with
  | .normal=>K .normal env nx bl ms
  | .exit id'=>match Nat.beq id' id with
   |true=>K .normal env nx bl ms
   |false=>K (.exit id') env nx bl ms
  | .ret=>K .ret env nx bl ms
 | .loop l,env,nx,bl,ms,K=>KZ kz cx.op ar bl fun bl=>l.run kz env nx bl ms K
 | .exit id,env,nx,bl,ms,K=>K (.exit id) env nx bl ms
 | .ret,env,nx,bl,ms,K=>K .ret env nx bl ms
 | .c9 l,env,nx,bl,ms,K=>KZ kz cx.op ar bl fun bl=>l.run kz env nx bl ms K
 | .gk l,env,nx,bl,ms,K=>KZ kz cx.op ar bl fun bl=>l.run kz env nx bl ms K
variable {X:Type} {cx:Cx}
theorem nk {ob:List Bool} {x:Option X} {r:X} (h:ot (jv X) ob x=some r):qf ob/\x=some r:=by
 induction ob with
 |nil=>exact ⟨trivial,h⟩
 |cons b l ih =>
  obtain ⟨h1,h2⟩:=j4 h
  obtain ⟨h3,h4⟩:=ih h2
  cases l with
  |nil=>exact ⟨h1,h4⟩
  |cons c l=>exact ⟨⟨h1,h3⟩,h4⟩
theorem zZ {g : Option (Nat × Bool)} {env : Env} {nx : Nat} {bl : ai} {ms : List Nat} {skip run : Env → Option X} {r : X} (h : tO (jv X) g env skip run = some r) {d : Option Nat} {K run' : St → Prop}
  (hs:∀env,skip env=some r->K ⟨put d (.cG []) env,⟨nx,bl⟩,ms⟩) (hr:∀env,run env=some r->run' ⟨env,⟨nx,bl⟩,ms⟩):jg g d ⟨env,⟨nx,bl⟩,ms⟩ K run':=by
 unfold tO at h
 unfold jg
 split at h
 ·exact hr _ h
 ·rename_i s b
  simp only
  split at h
  ·rename_i c hc
   rw [hc]
   cases c<;>cases b<;>simp only at h ⊢
   ·exact hr _ h
   ·exact hs _ h
   ·exact hs _ h
   ·exact hr _ h
  ·rename_i c hc
   rw [hc]
   rcases o9 h with ⟨e,h⟩|⟨e,h⟩
   ·refine ⟨fun _ => ?_, fun e' => by rw [e] at e'; cases e'⟩
    cases b<;>simp only at h ⊢
    ·exact hs _ h
    ·exact hr _ h
   ·refine ⟨fun e' => (by rw [e] at e'; cases e'), fun _ => ?_⟩
    cases b<;>simp only at h ⊢
    ·exact hr _ h
    ·exact hs _ h
  ·rename_i hc
   rw [hc]
   exact hs _ h
  ·cases h
theorem OI {op:Nat} {bl:ai} {k:ai->Option X} {r:X} (h:KZ (jv X) op bW bl k=some r):k bl=some r\/∃ids u,Kq (cS P N out base) ids bl=some u/\k (bV u bl)=some r:=by
 unfold KZ at h
 split at h
 ·exact .inl h
 ·split at h
  ·exact .inl h
  ·split at h <;> try (cases h; done)
   rename_i u hu
   rw [cM] at h
   exact .inr ⟨_,u,by unfold cS;rw [Fx];exact hu,h⟩
theorem Bz {op:Nat} {env:Env} {nx:Nat} {bl:ai} {ms:List Nat} {k:ai->Option X} {r:X} (h:KZ (jv X) op bW bl k=some r) {K:St->Prop} (hK:∀bl,k bl=some r->K ⟨env,⟨nx,bl⟩,ms⟩):Kr (cS P N out base) ⟨env,⟨nx,bl⟩,ms⟩ K:=by
 rcases OI (P:=P) (N:=N) (out:=out) (base:=base) h with h|⟨ids,u,hu,h⟩
 ·exact .inl (hK _ h)
 ·exact .inr ⟨ids,u,hu,hK _ h⟩
theorem ou (dh:cx.Ok P):∀{is:List dD} {env:Env} {nx:Nat} {bl:ai} {ms:List Nat} {K:Env->Nat->ai->Option X} {r:X} {Q:St->Prop},kI (jv X) cx bW is env nx bl K=some r ->
  (∀env nx bl,K env nx bl=some r->Q ⟨env,⟨nx,bl⟩,ms⟩)->dF (cS P N out base) is ⟨env,⟨nx,bl⟩,ms⟩ Q
 |[],env,nx,bl,ms,K,r,Q,h,hK=>hK _ _ _ h
 | .op d g i::is,env,nx,bl,ms,K,r,Q,h,hK=>by
  simp only [kI] at h
  simp only [dF]
  have body:∀{env:Env} {bl:ai} {ob:List Bool} {v:V} {u:dU},Tq bW i env bl nx=some (ob,v,u) ->
    ot (jv X) ob (fV v fun v=>tN d v env fun env=>match i.lays with
     |true=>fN (nx+1) fun nx=>gw u bl fun bl=>kI (jv X) cx bW is env nx bl K
     |false=>gw u bl fun bl=>kI (jv X) cx bW is env nx bl K)=some r ->
    de (cS P N out base) i env bl nx=some (ob,v,u)/\qf ob/\dF (cS P N out base) is ⟨put d v env,⟨CA i.lays nx,bV u bl⟩,ms⟩ Q:=by
   intro env bl ob v u aj h
   obtain ⟨cX,h⟩:=nk h
   rw [ij,eI] at h
   rw [tF] at aj
   refine ⟨by unfold cS;rw [tE];exact aj,cX,?_⟩
   split at h
   ·rename_i hl
    rw [eY,cM] at h
    simp only [hl,CA]
    exact ou dh h hK
   ·rename_i hl
    rw [cM] at h
    simp only [hl,CA]
    exact ou dh h hK
  refine zZ h (fun env h=>?_) (fun env h=>?_)
  ·rw [eI] at h;exact ou dh h hK
  ·split at h
   ·split at h
    ·rename_i ob v u aj
     obtain ⟨h1,h2,h3⟩:=body aj h
     exact nj h1 h2 h3
    ·cases h
   ·split at h
    ·rename_i ob v u aj
     obtain ⟨cX,h⟩:=nk h
     rw [ij,eI] at h
     refine Ou (by unfold cS;rw [Bp];exact aj) cX ?_
     split at h
     ·rename_i hl
      rw [eY,cM] at h
      simp only [hl,CA]
      exact ou dh h hK
     ·rename_i hl
      rw [cM] at h
      simp only [hl,CA]
      exact ou dh h hK
    ·split at h
     ·rename_i ob v u aj
      obtain ⟨h1,h2,h3⟩:=body aj h
      exact nj h1 h2 h3
     ·rcases OI (P := P) (N := N) (out := out) (base := base) h with h | ⟨ids, u', hu, h⟩
      ·split at h
       ·rename_i ob v u aj
        obtain ⟨h1,h2,h3⟩:=body aj h
        exact nj h1 h2 h3
       ·cases h
      ·split at h
       ·rename_i ob v u aj
        obtain ⟨h1,h2,h3⟩:=body aj h
        exact Ov hu h1 h2 h3
       ·cases h
 | .call d g f a tys::is,env,nx,bl,ms,K,r,Q,h,hK=>by
  simp only [kI] at h
  simp only [dF]
  refine zZ h (fun env h=>?_) (fun env h=>?_)
  ·rw [eI] at h;exact ou dh h hK
  ·simp only [AV]
   refine Bz h fun bl h=>?_
   simp only [mS]
   split at h
   ·rename_i f' fs cs hf
    rw [hf]
    refine dh.E0 h fun v nx bl h=>?_
    rw [ij,eI] at h
    exact ou dh h hK
   ·rename_i id hf
    rw [hf]
    refine dh.OE h fun v nx bl h=>?_
    rw [ij,eI] at h
    exact ou dh h hK
   ·cases h
theorem ov {gs:List Nat} {d:Option Nat} {v:V} {env:Env} {K:Env->Option X} {r:X} (h:rX (jv X) gs d v env K=some r) {K':Env->Prop} (hK:∀env,K env=some r->K' env):th gs d v env K':=by
 unfold rX at h
 unfold th
 cases d with
 |none=>exact hK _ h
 |some t =>
  simp only at h ⊢
  split at h
  ·rename_i hm;rw [hm];exact hK _ h
  ·rename_i hm
   rw [hm]
   simp only
   split at h
   ·rename_i c
    simp only
    rcases o9 h with ⟨e,h⟩|⟨e,h⟩
    ·exact ⟨fun _=>hK _ h,fun e'=>by rw [e] at e';cases e'⟩
    ·exact ⟨fun e'=>(by rw [e] at e';cases e'),fun _=>hK _ h⟩
   ·rename_i hv
    have:=hK _ h
    cases v<;>first|exact this|exact (hv _ rfl).elim
theorem ow (dh:cx.Ok P) {gs:List Nat} {b:Nat}:∀{is:List dD} {k:Nat} {env:Env} {bl:ai} {bP:List DR} {K:Env->ai->List DR->Option X} {r:X} {Q:Env->ai->List DR->Prop},
  FC (jv X) cx bW gs b is k env bl bP K=some r->(∀env bl bP,K env bl bP=some r->Q env bl bP)->lH (cS P N out base) gs b is k env bl bP Q
 |[],k,env,bl,bP,K,r,Q,h,hK=>hK _ _ _ h
 | .op d g i::is,k,env,bl,bP,K,r,Q,h,hK=>by
  simp only [FC] at h
  simp only [lH]
  split at h
  ·rename_i hg
   rw [hg]
   split at h
   ·rename_i ob v u aj
    obtain ⟨cX,h⟩:=nk h
    rw [ij] at h
    have Bt:vk (cS P N out base) i env bl (b+k)=some (ob,v,u):=by
     unfold cS;rw [Bp]
     split at aj
     ·cases aj
     ·exact aj
    refine .inr (l7 Bt cX (ov h fun env h=>?_))
    rw [cM] at h
    exact ow dh h hK
   ·split at h
    ·rename_i ob v u aj
     obtain ⟨cX,h⟩:=nk h
     rw [ij] at h
     rw [tF] at aj
     have Bt:de (cS P N out base) i env bl (b+k)=some (ob,v,u):=by unfold cS;rw [tE];exact aj
     refine .inl (l7 Bt cX (ov h fun env h=>?_))
     rw [cM] at h
     exact ow dh h hK
    ·cases h
  ·rename_i hg
   rw [hg]
   rw [eI] at h
   exact ow dh h hK
  ·cases h
 | .call d g f a tys::is,k,env,bl,bP,K,r,Q,h,hK=>by
  simp only [FC] at h
  simp only [lH]
  split at h
  ·rename_i hg
   rw [hg]
   split at h
   ·rename_i f' fs cs hf
    rw [hf]
    rcases dh.Nf h with h|⟨v,l8,u,hp,h⟩
    ·left
     split at h
     ·rename_i vs' hm
      obtain ⟨v,hp,h⟩:=dh.Ic h
      rw [ij] at h
      have e:cL (fin (cS P N out base) bl 8)=cL (fin bW bl 8):=funext fun vs=>iT (fun v=>by unfold cS;exact od) vs
      simp only [e,hm]
      split at h
      ·rename_i hsc
       exact ⟨v,[],hp,by rw [hsc];rfl,ov h fun env h=>ow dh h hK⟩
      ·rename_i hsc
       split at h
       ·rename_i u hu
        exact ⟨v,u,hp,by rw [hsc];exact hu,ov h fun env h=>ow dh (by rw [cM] at h;exact h) hK⟩
       ·cases h
     ·cases h
    ·exact .inr ⟨l8,v,u,hp,ov h fun env h=>ow dh (by rw [cM] at h;exact h) hK⟩
   ·cases h
  ·rename_i hg
   rw [hg]
   rw [eI] at h
   exact ow dh h hK
  ·cases h
theorem lf (dh:cx.Ok P):∀{d:D P N out base} {env:Env} {nx:Nat} {bl:ai} {ms:List Nat} {K:Kc (Option X)} {r:X} {Q:Ex->St->Prop},kE (jv X) cx bW d env nx bl ms K=some r ->
  (∀e env nx bl ms,K e env nx bl ms=some r->Q e ⟨env,⟨nx,bl⟩,ms⟩)->lW (cS P N out base) d.er ⟨env,⟨nx,bl⟩,ms⟩ Q:=by
 intro d
 induction d with
 |skip=>intro env nx bl ms K r Q h hK;exact hK _ _ _ _ _ h
 |cF is=>intro env nx bl ms K r Q h hK;exact ou dh h fun env nx bl h=>hK _ _ _ _ _ h
 |draw ps is =>
  intro env nx bl ms K r Q h hK
  refine ow dh h fun env bl bP h=>?_
  split at h
  ·rename_i hd
   rw [eY] at h
   exact ⟨hd,hK _ _ _ _ _ h⟩
  ·cases h
 |seq a b rV rm =>
  intro env nx bl ms K r Q h hK
  refine rV h fun e env nx bl ms h=>?_
  cases e with
  |normal=>exact rm h hK
  |exit id=>exact hK _ _ _ _ _ h
  |ret=>exact hK _ _ _ _ _ h
 |cond c a b rV rm =>
  intro env nx bl ms K r Q h hK
  simp only [kE] at h
  simp only [D.er,lW]
  have hrw:∀x env,M5 c x ⟨env,⟨nx,bl⟩,ms⟩=⟨Ng c x env,⟨nx,bl⟩,ms⟩:=fun x env=>by cases c<;>rfl
  split at h
  ·rename_i hc;rw [hc];exact rV h hK
  ·rename_i hc;rw [hc];exact rm h hK
  ·rename_i x hc
   rw [hc]
   rcases o9 h with ⟨e,h⟩|⟨e,h⟩
   ·refine ⟨fun _ => ?_, fun e' => by rw [e] at e'; cases e'⟩
    rw [hrw];exact rV h hK
   ·refine ⟨fun e' => (by rw [e] at e'; cases e'), fun _ => ?_⟩
    rw [hrw];exact rm h hK
  ·rename_i x hc
   rw [hc]
   rcases o9 h with ⟨e,h⟩|⟨e,h⟩
   ·obtain ⟨h1, h2⟩ := KX h
    exact ⟨fun _=>by rw [hrw];exact rV h1 hK,by rw [hrw];exact rm h2 hK⟩
   ·exact ⟨fun e'=>(by rw [e] at e';cases e'),by rw [hrw];exact rm h hK⟩
  ·cases h
 |block id c ih =>
  intro env nx bl ms K r Q h hK
  refine ih h fun e env nx bl ms h=>?_
  cases e with
  |normal=>exact hK _ _ _ _ _ h
  |exit id' =>
   simp only at h ⊢
   split at h
   ·rename_i e;rw [e];exact hK _ _ _ _ _ h
   ·rename_i e;rw [e];exact hK _ _ _ _ _ h
  |ret=>exact hK _ _ _ _ _ h
 |loop l=>intro env nx bl ms K r Q h hK;exact Bz h fun bl h=>l.ok h hK
 |exit id=>intro env nx bl ms K r Q h hK;exact hK _ _ _ _ _ h
 |ret=>intro env nx bl ms K r Q h hK;exact hK _ _ _ _ _ h
 |c9 l=>intro env nx bl ms K r Q h hK;exact Bz h fun bl h=>l.ok h hK
 |gk l=>intro env nx bl ms K r Q h hK;exact Bz h fun bl h=>l.ok h hK
end
end Go.AM
end
section
namespace Go.AM
inductive CP where
 |any
 |tf (b:Bool)
 |eJ
 |cu
 |cK
 |bA
 |hole (t:Ty)
 |cg (b:Nat) (t:Ty)
 |Aa (b:Nat) (t:Ty)
 |ptr (b off:Nat)
 |yl (b:Nat)
 |av (t:Ty)
 |fn0 (f:Nat)
 |aJ (l:CP)
 |zf (l:CP)
 |fn (f:Nat) (a b:CP)
 |fK (t:Nat) (g:Bool) (l:CP)
 |mp (b:Nat)
 |dZ
 |pa (b:Nat) (t:Ty) (n:Nat)
 |jP (t:Ty)
 |kO (t:Ty)
 |nil
 |cons (c l:CP)
inductive SP where
 |c (c:CP)
 |agg (cs:List CP)
 |cG (cs:List CP)
 |fn (f:Nat) (a b:List CP)
 |alt (a b:List CP)
def CP.T : CP → Type → Type
 | .hole t,A=>t.den×A
 | .cg _ _,A=>Nat×A
 | .Aa _ _,A=>Nat×Nat×A
 | .av t,A=>t.den×A
 | .jP t,A=>List t.den×A
 | .kO t,A=>List t.den×A
 | .fK _ _ l,A=>l.T A
 | .mp _,A=>A
 | .dZ,A=>A
 | .pa _ _ _,A=>A
 | .aJ l,A=>l.T A
 | .zf l,A=>l.T A
 | .fn _ a b,A=>a.T (b.T A)
 | .cons c l,A=>c.T (l.T A)
 | .any,A=>A
 | .tf _,A=>A
 | .eJ,A=>A
 | .cu,A=>A
 | .cK,A=>A
 | .bA,A=>A
 | .ptr _ _,A=>A
 | .yl _,A=>A
 | .fn0 _,A=>A
 | .nil,A=>A
def tyV : (t : Ty) → t.den → V
 | .unit,_=>.agg []
 | .bool,b=>.bool b
 | .str,s=>.str s
 | .int k,n=>.int k n
 | .list t,xs=>.eG t xs
 | .prod a b,x=>.agg (dL (.prod a b) x)
 | .bU d g t,x=>.bU d (dL.jl g (dL t x))
def CP.r : (c : CP) → {A : Type} → c.T A → A
 | .any,_,x=>x
 | .tf _,_,x=>x
 | .eJ,_,x=>x
 | .cu,_,x=>x
 | .cK,_,x=>x
 | .bA,_,x=>x
 | .hole _,_,x=>x.2
 | .cg _ _,_,x=>x.2
 | .Aa _ _,_,x=>x.2.2
 | .ptr _ _,_,x=>x
 | .yl _,_,x=>x
 | .av _,_,x=>x.2
 | .jP _,_,x=>x.2
 | .kO _,_,x=>x.2
 | .fK _ _ l,_,x=>l.r x
 | .mp _,_,x=>x
 | .dZ,_,x=>x
 | .pa _ _ _,_,x=>x
 | .fn0 _,_,x=>x
 | .aJ l,_,x=>l.r x
 | .zf l,_,x=>l.r x
 | .fn _ a b,_,x=>b.r (a.r x)
 | .nil,_,x=>x
 | .cons c l,_,x=>l.r (c.r x)
def CP.vs : (c : CP) → {A : Type} → c.T A → List V
 | .any,_,_=>[.any]
 | .tf b,_,_=>[.tf b]
 | .eJ,_,_=>[.eJ]
 | .cu,_,_=>[.cu]
 | .cK,_,_=>[.cK]
 | .bA,_,_=>[.bA]
 | .hole t,_,x=>[tyV t x.1]
 | .cg b t,_,x=>[.sl b t 0 x.1]
 | .Aa b t,_,x=>[.sl b t x.1 x.2.1]
 | .ptr b off,_,_=>[.ptr b off]
 | .yl b,_,_=>[.yl b]
 | .av t,_,x=>[.av (dL t x.1)]
 | .fn0 f,_,_=>[.fn f [] []]
 | .aJ l,_,x=>[.av (l.vs x)]
 | .zf l,_,x=>[.agg (l.vs x)]
 | .fK t g l,_,x=>[.bU t (dL.jl g (l.vs x))]
 | .mp b,_,_=>[.mp b]
 | .dZ,_,_=>[.dZ]
 | .pa b t n,_,_=>[.pa b t n]
 | .jP t,_,x=>[.jP t x.1]
 | .kO t,_,x=>[.kO t x.1]
 | .fn f a b,_,x=>[.fn f (a.vs x) (b.vs (a.r x))]
 | .nil,_,_=>[]
 | .cons c l,_,x=>c.vs x++l.vs (c.r x)
def hd1 : List V → V
 |v::_=>v
 |[]=>.any
def CP.v {A:Type} (c:CP) (x:c.T A):V:=hd1 (c.vs x)
def mC : List CP → Type → Type
 |[],A=>A
 |c::r,A=>c.T (mC r A)
def qB {A : Type} : (cs : List CP) → mC cs A → List V
 |[],_=>[]
 |c::r,x=>c.v x::qB r (c.r x)
def rY {A : Type} : (cs : List CP) → mC cs A → A
 |[],x=>x
 |c::r,x=>rY r (c.r x)
def SP.T : SP → Type → Type
 | .c q,A=>q.T A
 | .agg cs,A=>mC cs A
 | .cG cs,A=>mC cs A
 | .fn _ a b,A=>mC a (mC b A)
 | .alt a b,A=>mC a A ⊕ mC b A
def SP.v {A : Type} : (p : SP) → p.T A → V
 | .c q,x=>q.v x
 | .agg cs,x=>.agg (qB cs x)
 | .cG cs,x=>.cG (qB cs x)
 | .fn f a b,x=>.fn f (qB a x) (qB b (rY a x))
 | .alt a b,x=>match x with
  | .inl y=>.cG (qB a y)
  | .inr y=>.cG (qB b y)
def SP.r {A : Type} : (p : SP) → p.T A → A
 | .c q,x=>q.r x
 | .agg cs,x=>rY cs x
 | .cG cs,x=>rY cs x
 | .fn _ a b,x=>rY b (rY a x)
 | .alt a b,x=>match x with
  | .inl y=>rY a y
  | .inr y=>rY b y
def zg : List (Nat × SP) → Type → Type
 |[],A=>A
 |(_,p)::r,A=>p.T (zg r A)
def u5 {A : Type} : (ps : List (Nat × SP)) → zg ps A → Env
 |[],_=>[]
 |(s,p)::r,x=>(s,p.v x)::u5 r (p.r x)
def OJ {A : Type} : (ps : List (Nat × SP)) → zg ps A → A
 |[],x=>x
 |(_,p)::r,x=>OJ r (p.r x)
inductive BP where
 |arr (t:Ty) (fz:Bool)
 |cells (cs:List CP) (fz:Bool)
 |loop (st:qd) (j:Option Ex) (d:Nat) (env:List (Nat×SP)) (ps:List Nat) (as bd:C) (N:Nat)
 |fC
 |map (kt:Ty) (kg:Bool) (vt:Ty) (vg:Bool)
 |j8 (t:Ty) (i:Nat) (p:List Bool) (c:CP)
def BP.T : BP → Type → Type
 | .arr t _,A=>List t.den×A
 | .cells cs _,A=>mC cs A
 | .loop _ _ _ env _ _ _ _,A=>zg env A
 | .fC,A=>A
 | .map kt _ vt _,A=>List (kt.den×vt.den)×A
 | .j8 t _ _ c,A=>List t.den×c.T A
def BP.v {A : Type} : (p : BP) → p.T A → jE
 | .arr t fz,x=>.arr t x.1 fz
 | .cells cs fz,x=>.cells (qB cs x) fz
 | .loop st j d env ps as bd N,x=>.loop st j d (u5 env x) ps as bd N
 | .fC,_=>.fC
 | .map kt kg vt vg,x=>.map kt kg vt vg x.1
 | .j8 t i p c,x=>.j8 t x.1 i p (c.v x.2)
def BP.r {A : Type} : (p : BP) → p.T A → A
 | .arr _ _,x=>x.2
 | .cells cs _,x=>rY cs x
 | .loop _ _ _ env _ _ _ _,x=>OJ env x
 | .fC,x=>x
 | .map _ _ _ _,x=>x.2
 | .j8 _ _ _ c,x=>c.r x.2
def Sm : List (Nat × BP) → Type → Type
 |[],A=>A
 |(_,p)::r,A=>p.T (Sm r A)
def K1 {A : Type} : (ps : List (Nat × BP)) → Sm ps A → ai
 |[],_=>[]
 |(s,p)::r,x=>(s,p.v x)::K1 r (p.r x)
inductive Lc where
 |slot (s:Nat)
 |part (s k:Nat)
 |cell (b k:Nat)
 |old (i:Nat)
 |mark (j:Nat)
structure aG where
 env:List (Nat×SP)
 bl:List (Nat×BP)
 eM:List Lc
 ms:List Nat
def aG.T (p:aG):Type:=zg p.env (Sm p.bl Unit)
def aG.E (p:aG) (x:p.T):Env:=u5 p.env x
def aG.B (p:aG) (x:p.T):ai:=K1 p.bl (OJ p.env x)
def aG.st (base:Nat) (p:aG) (x:p.T):St:=⟨p.E x,⟨base+p.eM.length,p.B x⟩,p.ms⟩
def u6 : List Nat → Nat → Option Nat
 |[],_=>none
 |i::_,0=>some i
 |_::r,n+1=>u6 r n
def lK : Bool → Bool → Bool
 |true,true=>true
 |false,false=>true
 |_,_=>false
def mD : (t t' : Ty) → Bool
 | .unit,.unit=>true
 | .bool,.bool=>true
 | .str,.str=>true
 | .int k,.int k'=>decide (k=k')
 | .list t,.list t'=>mD t t'
 | .prod a b,.prod a' b'=>match mD a a' with
  |true=>mD b b'
  |false=>false
 | .bU d g a,.bU d' g' a'=>match Nat.beq d d' with
  |true=>match lK g g' with
   |true=>mD a a'
   |false=>false
  |false=>false
 |_,_=>false
def zi (π:List Nat) (b i:Nat):Bool:=match u6 π b with
 |some j=>Nat.beq j i
 |none=>false
def BA : (t : Ty) → V → Option t.den
 | .bool,.bool b=>some b
 | .bool,.tf b=>some b
 | .str,.str s=>some s
 | .int k,.int k' n=>match decide (k=k') with
  |true=>some n
  |false=>none
 | .list t,.eG t' xs=>jK t' t xs
 | .list _,.bA=>some []
 | .prod a b,.agg cs=>match bQ bW [] (.prod a b) cs with
  |some (x,_,[])=>some x
  |_=>none
 | .bU d g a,v=>match bQ bW [] (.bU d g a) [v] with
  |some (x,_,[])=>some x
  |_=>none
 |_,_=>none
def CP.rd1 {A:Type} (π:List Nat) (c:CP) (v:V):Option (A->c.T A) :=
 match c with
 | .any=>some fun a=>a
 | .tf b=>match v with
  | .tf b'=>match lK b b' with
   |true=>some fun a=>a
   |false=>none
  |_=>none
 | .eJ=>match v with
  | .eJ=>some fun a=>a
  |_=>none
 | .cu=>match v with
  | .cu=>some fun a=>a
  |_=>none
 | .cK=>match v with
  | .cK=>some fun a=>a
  |_=>none
 | .bA=>match v with
  | .bA=>some fun a=>a
  |_=>none
 | .hole t=>match BA t v with
  |some x=>some fun a=>(x,a)
  |none=>none
 | .cg b t=>match v with
  | .sl i t' lo n=>match zi π b i with
   |true=>match mD t' t with
    |true=>match Nat.beq lo 0 with
     |true=>some fun a=>(n,a)
     |false=>none
    |false=>none
   |false=>none
  | .bA=>some fun a=>((0:Nat),a)
  |_=>none
 | .Aa b t=>match v with
  | .sl i t' lo n=>match zi π b i with
   |true=>match mD t' t with
    |true=>some fun a=>(lo,n,a)
    |false=>none
   |false=>none
  | .bA=>some fun a=>((0:Nat),(0:Nat),a)
  |_=>none
 | .ptr b off=>match v with
  | .ptr i o=>match zi π b i with
   |true=>match Nat.beq o off with
    |true=>some fun a=>a
    |false=>none
   |false=>none
  |_=>none
 | .yl b=>match v with
  | .yl i=>match zi π b i with
   |true=>some fun a=>a
   |false=>none
  |_=>none
 | .av t=>match v with
  | .av cs=>match bQ bW [] t cs with
   |some (x,_,[])=>some fun a=>(x,a)
   |_=>none
  |_=>none
 | .mp b=>match v with
  | .mp i=>match zi π b i with
   |true=>some fun a=>a
   |false=>none
  |_=>none
 | .dZ=>match v with
  | .dZ=>some fun a=>a
  |_=>none
 | .pa b t n=>match v with
  | .pa i t' n'=>match zi π b i with
   |true=>match mD t' t with
    |true=>match Nat.beq n' n with
     |true=>some fun a=>a
     |false=>none
    |false=>none
   |false=>none
  |_=>none
 | .jP t=>match v with
  | .jP t' xs=>match jK t' t xs with
   |some ys=>some fun a=>(ys,a)
   |none=>none
  |_=>none
 | .kO t=>match v with
  | .kO t' xs=>match jK t' t xs with
   |some ys=>some fun a=>(ys,a)
   |none=>none
  |_=>none
 | .fn0 f=>match v with
  | .fn f' [] []=>match Nat.beq f' f with
   |true=>some fun a=>a
   |false=>none
  |_=>none
 |_=>none
def CP.l8 (π : List Nat) : (c : CP) → {A : Type} → List V → Option ((A → c.T A) × List V)
 | .nil,_,vs=>some (fun a=>a,vs)
 | .cons c l,A,vs=>match c.l8 π (A:=l.T A) vs with
  |some (f,vs')=>match l.l8 π (A:=A) vs' with
   |some (g,vs'')=>some (fun a=>f (g a),vs'')
   |none=>none
  |none=>none
 | .aJ l,A,vs=>match vs with
  | .av cs::r=>match l.l8 π (A:=A) cs with
   |some (f,[])=>some (f,r)
   |_=>none
  |_=>none
 | .zf l,A,vs=>match vs with
  | .agg cs::r=>match l.l8 π (A:=A) cs with
   |some (f,[])=>some (f,r)
   |_=>none
  |_=>none
 | .fK t g l,A,vs=>match vs with
  | .bU t' v::r=>match Nat.beq t' t with
   |true=>match AO g v with
    |some cs=>match l.l8 π (A:=A) cs with
     |some (f,[])=>some (f,r)
     |_=>none
    |none=>none
   |false=>none
  |_=>none
 | .fn f a b,A,vs=>match vs with
  | .fn f' va vb::r=>match Nat.beq f' f with
   |true=>match a.l8 π (A:=b.T A) va with
    |some (g,[])=>match b.l8 π (A:=A) vb with
     |some (h,[])=>some (fun x=>g (h x),r)
     |_=>none
    |_=>none
   |false=>none
  |_=>none
 |c,_,vs=>match vs with
  |v::r=>match c.rd1 π v with
   |some f=>some (f,r)
   |none=>none
  |[]=>none
def CP.rd {A:Type} (π:List Nat) (c:CP) (v:V):Option (A->c.T A):=match c.l8 π (A:=A) [v] with
 |some (f,[])=>some f
 |_=>none
def gx {A : Type} (π : List Nat) : (cs : List CP) → List V → Option (A → mC cs A)
 |[],[]=>some fun a=>a
 |c::r,v::vs=>match CP.rd (A:=mC r A) π c v with
  |some f=>match gx (A:=A) π r vs with
   |some g=>some fun a=>f (g a)
   |none=>none
  |none=>none
 |_,_=>none
def SP.rd {A:Type} (π:List Nat) (p:SP) (v:V):Option (A->p.T A) :=
 match p with
 | .c q=>q.rd π v
 | .agg cs=>match v with
  | .agg vs=>gx π cs vs
  |_=>none
 | .cG cs=>match v with
  | .cG vs=>gx π cs vs
  |_=>none
 | .fn f a b=>match v with
  | .fn f' va vb=>match Nat.beq f' f with
   |true=>match gx (A:=mC b A) π a va with
    |some g=>match gx (A:=A) π b vb with
     |some h=>some fun x=>g (h x)
     |none=>none
    |none=>none
   |false=>none
  |_=>none
 | .alt a b=>match v with
  | .cG vs=>match gx (A:=A) π a vs with
   |some f=>some fun x=>.inl (f x)
   |none=>match gx (A:=A) π b vs with
    |some f=>some fun x=>.inr (f x)
    |none=>none
  |_=>none
def SP.kv {R : Type} (kz : Kz R) : (p : SP) → p.T Unit → (V → R) → R
 | .alt a b,y,K=>kz.sm (A:=mC a Unit) (B:=mC b Unit) y (fun x=>K (.cG (qB a x))) (fun x=>K (.cG (qB b x)))
 | .c q,y,K=>K (SP.v (.c q) y)
 | .agg cs,y,K=>K (SP.v (.agg cs) y)
 | .cG cs,y,K=>K (SP.v (.cG cs) y)
 | .fn f a b,y,K=>K (SP.v (.fn f a b) y)
theorem SP.adE {X : Type} : ∀ (p : SP) (y : p.T Unit) (K : V → Option X), p.kv (jv X) y K = K (p.v y)
 | .alt _ _,.inl _,_=>rfl
 | .alt _ _,.inr _,_=>rfl
 | .c _,_,_=>rfl
 | .agg _,_,_=>rfl
 | .cG _,_,_=>rfl
 | .fn _ _ _,_,_=>rfl
def Ab {A : Type} (π : List Nat) (env : Env) : (ps : List (Nat × SP)) → Option (A → zg ps A)
 |[]=>some fun a=>a
 |(s,p)::r=>match SP.rd (A:=zg r A) π p (get s env) with
  |some f=>match Ab (A:=A) π env r with
   |some g=>some fun a=>f (g a)
   |none=>none
  |none=>none
mutual
def TB : V → V → Bool
 | .any,.any=>true
 | .tf a,.tf b=>lK a b
 | .bool a,.bool b=>lK a b
 | .int k n,.int k' m=>match decide (k=k') with
  |true=>decide (n=m)
  |false=>false
 | .eJ,.eJ=>true
 | .cu,.cu=>true
 | .cK,.cK=>true
 | .dZ,.dZ=>true
 | .bA,.bA=>true
 | .str s,.str s'=>decide (s=s')
 | .fn f a b,.fn f' a' b'=>match Nat.beq f f' with
  |true=>match pV a a' with
   |true=>pV b b'
   |false=>false
  |false=>false
 | .agg a,.agg b=>pV a b
 |_,_=>false
def pV : List V → List V → Bool
 |[],[]=>true
 |a::r,b::s=>match TB a b with
  |true=>pV r s
  |false=>false
 |_,_=>false
end
mutual
theorem Ie : ∀ {a b : V}, TB a b = true → a = b
 |a,b,h=>by
  cases a<;>cases b<;>simp only [TB,Bool.false_eq_true] at h<;>try rfl
  case tf.tf x y=>cases x<;>cases y<;>simp_all [lK]
  case bool.bool x y=>cases x<;>cases y<;>simp_all [lK]
  case int.int=>split at h<;>simp_all
  case str.str=>simp_all
  case fn.fn =>
   split at h<;>try (cases h;done)
   rename_i h1
   split at h<;>try (cases h;done)
   rename_i h2
   rw [Nat.eq_of_beq_eq_true h1,mE h2,mE h]
  case agg.agg=>rw [mE h]
theorem mE : ∀ {a b : List V}, pV a b = true → a = b
 |[],[],_=>rfl
 |a::r,b::s,h=>by
  simp only [pV] at h
  split at h<;>try (cases h;done)
  rename_i h1
  rw [Ie h1,mE h]
 |[],_::_,h=>by simp [pV] at h
 |_::_,[],h=>by simp [pV] at h
end
end Go.AM
end
section
namespace Go.AM
def an (a b:Bool):Bool:=match a with
 |true=>b
 |false=>false
theorem aX {a b:Bool}:an a b=true↔a=true/\b=true:=by cases a<;>simp [an]
theorem fe {a b:Bool} (h:lK a b=true):a=b:=by cases a<;>cases b<;>simp_all [lK]
theorem lg:∀{t t':Ty},mD t t'=true->t=t':=by
 intro t
 induction t with
 |unit=>intro t' h;cases t'<;>simp [mD] at h ⊢
 |bool=>intro t' h;cases t'<;>simp [mD] at h ⊢
 |str=>intro t' h;cases t'<;>simp [mD] at h ⊢
 |int k=>intro t' h;cases t'<;>simp [mD] at h ⊢;exact h
 |list t ih=>intro t' h;cases t'<;>simp [mD] at h ⊢;exact ih h
 |prod a b rV rm =>
  intro t' h
  cases t'<;>simp only [mD,Bool.false_eq_true] at h
  split at h<;>try (cases h;done)
  rename_i h1
  rw [rV h1,rm h]
 |bU d g a ih =>
  intro t' h
  cases t'<;>simp only [mD,Bool.false_eq_true] at h
  split at h<;>try (cases h;done)
  rename_i h1
  split at h<;>try (cases h;done)
  rename_i h2
  rw [Nat.eq_of_beq_eq_true h1,fe h2,ih h]
def OK (a b:IntKind):Bool:=decide (a=b)
theorem OL {a b:IntKind} (h:OK a b=true):a=b:=by simpa [OK] using h
def OM (a b:fD):Bool:=decide (a=b)
theorem ON {a b:fD} (h:OM a b=true):a=b:=by simpa [OM] using h
def OO : Kd → Kd → Bool
 | .b,.b=>true
 | .i,.i=>true
 | .s,.s=>true
 |_,_=>false
theorem OP {x y:Kd} (h:OO x y=true):x=y:=by cases x<;>cases y<;>simp_all [OO]
def kF {α : Type} (f : α → α → Bool) : List α → List α → Bool
 |[],[]=>true
 |a::r,b::s=>match f a b with
  |true=>kF f r s
  |false=>false
 |_,_=>false
theorem fZ {α : Type} {f : α → α → Bool} (hf : ∀ {a b}, f a b = true → a = b) : ∀ {a b : List α}, kF f a b = true → a = b
 |[],[],_=>rfl
 |a::r,b::s,h=>by
  simp only [kF] at h
  split at h<;>try (cases h;done)
  rename_i h1
  rw [hf h1,fZ hf h]
 |[],_::_,h=>by simp [kF] at h
 |_::_,[],h=>by simp [kF] at h
def Xn:=kF OO
theorem OQ {a b:List Kd} (h:Xn a b=true):a=b:=fZ OP h
def OR:=kF lK
theorem Dz {a b:List Bool} (h:OR a b=true):a=b:=fZ fe h
def DA:=kF Nat.beq
theorem rZ {a b:List Nat} (h:DA a b=true):a=b:=fZ Nat.eq_of_beq_eq_true h
def OS:=kF DA
theorem K2 {a b:List (List Nat)} (h:OS a b=true):a=b:=fZ rZ h
def eV : O → O → Bool
 | .t n,.t m=>Nat.beq n m
 | .c v,.c u=>TB v u
 | .m n l,.m m k=>an (Nat.beq n m) (decide (l=k))
 |_,_=>false
theorem bH {a b:O} (h:eV a b=true):a=b:=by
 cases a<;>cases b<;>simp only [eV,Bool.false_eq_true] at h
 ·rw [Nat.eq_of_beq_eq_true h]
 ·rw [Ie h]
 ·rw [aX] at h;rw [Nat.eq_of_beq_eq_true h.1,of_decide_eq_true h.2]
def xy:=kF eV
theorem mF {a b:List O} (h:xy a b=true):a=b:=fZ bH h
def DB : Option O → Option O → Bool
 |none,none=>true
 |some a,some b=>eV a b
 |_,_=>false
theorem xz {a b:Option O} (h:DB a b=true):a=b:=by
 cases a<;>cases b<;>simp only [DB,Bool.false_eq_true] at h
 ·rfl
 ·rw [bH h]
def YZ : Nat × Nat × O → Nat × Nat × O → Bool
 |(a,b,x),(a',b',x')=>an (Nat.beq a a') (an (Nat.beq b b') (eV x x'))
theorem TC {p q:Nat×Nat×O} (h:YZ p q=true):p=q:=by
 obtain ⟨a,b,c⟩:=p
 obtain ⟨a',b',c'⟩:=q
 simp only [YZ,aX] at h
 rw [Nat.eq_of_beq_eq_true h.1,Nat.eq_of_beq_eq_true h.2.1,bH h.2.2]
def Xo:=kF YZ
theorem OT {a b:List (Nat×Nat×O)} (h:Xo a b=true):a=b:=fZ TC h
def gV : I → I → Bool
 | .mv x0,.mv y0=>eV x0 y0
 | .pick x0 x1 x2,.pick y0 y1 y2=>an (eV x0 y0) (an (eV x1 y1) (eV x2 y2))
 | .alloc x0,.alloc y0=>pV x0 y0
 | .box x0,.box y0=>eV x0 y0
 | .build x0 x1,.build y0 y1=>an (pV x0 y0) (Xo x1 y1)
 | .bI x0 x1,.bI y0 y1=>an (mD x0 y0) (xy x1 y1)
 | .load x0 x1 x2,.load y0 y1 y2=>an (lK x0 y0) (an (Nat.beq x1 y1) (eV x2 y2))
 | .store x0 x1 x2,.store y0 y1 y2=>an (Nat.beq x0 y0) (an (eV x1 y1) (eV x2 y2))
 | .bin x0 x1 x2,.bin y0 y1 y2=>an (OM x0 y0) (an (eV x1 y1) (eV x2 y2))
 | .SB x0 x1 x2,.SB y0 y1 y2=>an (lK x0 y0) (an (eV x1 y1) (eV x2 y2))
 | .eqs x0 x1 x2 x3,.eqs y0 y1 y2 y3=>an (lK x0 y0) (an (Xn x1 y1) (an (eV x2 y2) (eV x3 y3)))
 | .neg x0,.neg y0=>eV x0 y0
 | .not x0,.not y0=>eV x0 y0
 | .conv x0 x1,.conv y0 y1=>an (OK x0 y0) (eV x1 y1)
 | .qc x0 x1 x2,.qc y0 y1 y2=>an (Nat.beq x0 y0) (an (OR x1 y1) (eV x2 y2))
 | .field x0 x1 x2 x3,.field y0 y1 y2 y3=>an (lK x0 y0) (an (Nat.beq x1 y1) (an (Nat.beq x2 y2) (eV x3 y3)))
 | .idx x0 x1 x2,.idx y0 y1 y2=>an (Nat.beq x0 y0) (an (eV x1 y1) (eV x2 y2))
 | .yO x0 x1 x2 x3,.yO y0 y1 y2 y3=>an (Nat.beq x0 y0) (an (Nat.beq x1 y1) (an (eV x2 y2) (eV x3 y3)))
 | .ext x0 x1,.ext y0 y1=>an (Nat.beq x0 y0) (eV x1 y1)
 | .len x0,.len y0=>eV x0 y0
 | .lens x0,.lens y0=>eV x0 y0
 | .yP x0,.yP y0=>Nat.beq x0 y0
 | .append x0 x1 x2,.append y0 y1 y2=>an (Nat.beq x0 y0) (an (eV x1 y1) (eV x2 y2))
 | .je x0 x1,.je y0 y1=>an (mD x0 y0) (eV x1 y1)
 | .AL x0 x1 x2,.AL y0 y1 y2=>an (Nat.beq x0 y0) (an (xy x1 y1) (xy x2 y2))
 | .slice x0 x1 x2 x3 x4,.slice y0 y1 y2 y3 y4=>an (Nat.beq x0 y0) (an (eV x1 y1) (an (DB x2 y2) (an (DB x3 y3) (DB x4 y4))))
 | .lF x0 x1 x2,.lF y0 y1 y2=>an (lK x0 y0) (an (eV x1 y1) (xy x2 y2))
 | .ex x0 x1,.ex y0 y1=>an (decide (x0=y0)) (xy x1 y1)
 |_,_=>false
theorem TD {a b:I} (h:gV a b=true):a=b:=by
 cases a<;>cases b<;>first|(simp only [gV,Bool.false_eq_true] at h;done)|skip
 case mv.mv=>simp only [gV,aX] at h;rw [bH h]
 case pick.pick=>simp only [gV,aX] at h;rw [bH h.1,bH h.2.1,bH h.2.2]
 case alloc.alloc=>simp only [gV,aX] at h;rw [mE h]
 case box.box=>simp only [gV,aX] at h;rw [bH h]
 case build.build=>simp only [gV,aX] at h;rw [mE h.1,OT h.2]
 case bI.bI=>simp only [gV,aX] at h;rw [lg h.1,mF h.2]
 case load.load=>simp only [gV,aX] at h;rw [fe h.1,Nat.eq_of_beq_eq_true h.2.1,bH h.2.2]
 case store.store=>simp only [gV,aX] at h;rw [Nat.eq_of_beq_eq_true h.1,bH h.2.1,bH h.2.2]
 case bin.bin=>simp only [gV,aX] at h;rw [ON h.1,bH h.2.1,bH h.2.2]
 case SB.SB=>simp only [gV,aX] at h;rw [fe h.1,bH h.2.1,bH h.2.2]
 case eqs.eqs=>simp only [gV,aX] at h;rw [fe h.1,OQ h.2.1,bH h.2.2.1,bH h.2.2.2]
 case neg.neg=>simp only [gV,aX] at h;rw [bH h]
 case not.not=>simp only [gV,aX] at h;rw [bH h]
 case conv.conv=>simp only [gV,aX] at h;rw [OL h.1,bH h.2]
 case qc.qc=>simp only [gV,aX] at h;rw [Nat.eq_of_beq_eq_true h.1,Dz h.2.1,bH h.2.2]
 case field.field=>simp only [gV,aX] at h;rw [fe h.1,Nat.eq_of_beq_eq_true h.2.1,Nat.eq_of_beq_eq_true h.2.2.1,bH h.2.2.2]
 case idx.idx=>simp only [gV,aX] at h;rw [Nat.eq_of_beq_eq_true h.1,bH h.2.1,bH h.2.2]
 case yO.yO=>simp only [gV,aX] at h;rw [Nat.eq_of_beq_eq_true h.1,Nat.eq_of_beq_eq_true h.2.1,bH h.2.2.1,bH h.2.2.2]
 case ext.ext=>simp only [gV,aX] at h;rw [Nat.eq_of_beq_eq_true h.1,bH h.2]
 case len.len=>simp only [gV,aX] at h;rw [bH h]
 case lens.lens=>simp only [gV,aX] at h;rw [bH h]
 case yP.yP=>simp only [gV,aX] at h;rw [Nat.eq_of_beq_eq_true h]
 case append.append=>simp only [gV,aX] at h;rw [Nat.eq_of_beq_eq_true h.1,bH h.2.1,bH h.2.2]
 case je.je=>simp only [gV,aX] at h;rw [lg h.1,bH h.2]
 case AL.AL=>simp only [gV,aX] at h;rw [Nat.eq_of_beq_eq_true h.1,mF h.2.1,mF h.2.2]
 case slice.slice=>simp only [gV,aX] at h;rw [Nat.eq_of_beq_eq_true h.1,bH h.2.1,xz h.2.2.1,xz h.2.2.2.1,xz h.2.2.2.2]
 case lF.lF=>simp only [gV,aX] at h;rw [fe h.1,bH h.2.1,mF h.2.2]
 case ex.ex=>simp only [gV,aX] at h;rw [of_decide_eq_true h.1,mF h.2]
def TE : Option (Nat × Bool) → Option (Nat × Bool) → Bool
 |none,none=>true
 |some (s,b),some (s',b')=>an (Nat.beq s s') (lK b b')
 |_,_=>false
theorem Ig {p q:Option (Nat×Bool)} (h:TE p q=true):p=q:=by
 rcases p with _|⟨a,b⟩<;>rcases q with _|⟨a',b'⟩<;>simp only [TE,Bool.false_eq_true,aX] at h
 ·rfl
 ·rw [Nat.eq_of_beq_eq_true h.1,fe h.2]
def OU : Option Nat → Option Nat → Bool
 |none,none=>true
 |some a,some b=>Nat.beq a b
 |_,_=>false
theorem BB {a b:Option Nat} (h:OU a b=true):a=b:=by
 cases a<;>cases b<;>simp only [OU,Bool.false_eq_true] at h
 ·rfl
 ·rw [Nat.eq_of_beq_eq_true h]
def OV : Option Ty → Option Ty → Bool
 |none,none=>true
 |some a,some b=>mD a b
 |_,_=>false
theorem OW {a b:Option Ty} (h:OV a b=true):a=b:=by
 cases a<;>cases b<;>simp only [OV,Bool.false_eq_true] at h
 ·rfl
 ·rw [lg h]
def xA : dD → dD → Bool
 | .op d g i,.op d' g' i'=>an (OU d d') (an (TE g g') (gV i i'))
 | .call d g f a t,.call d' g' f' a' t'=>an (OU d d') (an (TE g g') (an (eV f f') (an (xy a a') (kF OV t t'))))
 |_,_=>false
theorem tQ {a b:dD} (h:xA a b=true):a=b:=by
 cases a<;>cases b<;>simp only [xA,Bool.false_eq_true,aX] at h
 ·rw [BB h.1,Ig h.2.1,TD h.2.2]
 ·rw [BB h.1,Ig h.2.1,bH h.2.2.1,mF h.2.2.2.1,fZ OW h.2.2.2.2]
def jH : C → C → Bool
 | .skip,.skip=>true
 | .cF is,.cF is'=>kF xA is is'
 | .draw ps is,.draw ps' is'=>an (OS ps ps') (kF xA is is')
 | .seq a b,.seq a' b'=>an (jH a a') (jH b b')
 | .cond c a b,.cond c' a' b'=>an (eV c c') (an (jH a a') (jH b b'))
 | .block id c,.block id' c'=>an (Nat.beq id id') (jH c c')
 | .loop c,.loop c'=>jH c c'
 | .exit id,.exit id'=>Nat.beq id id'
 | .ret,.ret=>true
 | .c9 f ps a b,.c9 f' ps' a' b'=>an (eV f f') (an (DA ps ps') (an (jH a a') (jH b b')))
 | .gk p m i cl e kt kg vt vg d b,.gk p' m' i' cl' e' M1 WR M3 SE d' b'=>an (kF xA p p') (an (eV m m') (an (Nat.beq i i') (an (DA cl cl') (an (OU e e') (an (mD kt M1) (an (lK kg WR) (an (mD vt M3) (an (lK vg SE) (an (Nat.beq d d') (jH b b'))))))))))
 |_,_=>false
theorem vr:∀{a b:C},jH a b=true->a=b:=by
 intro a
 induction a with
 |skip=>intro b h;cases b<;>simp [jH] at h ⊢
 |ret=>intro b h;cases b<;>simp [jH] at h ⊢
 |exit id=>intro b h;cases b<;>simp only [jH,Bool.false_eq_true] at h;rw [Nat.eq_of_beq_eq_true h]
 |cF is=>intro b h;cases b<;>simp only [jH,Bool.false_eq_true] at h;rw [fZ tQ h]
 |draw ps is=>intro b h;cases b<;>simp only [jH,Bool.false_eq_true,aX] at h;rw [K2 h.1,fZ tQ h.2]
 |seq a b rV rm=>intro b h;cases b<;>simp only [jH,Bool.false_eq_true,aX] at h;rw [rV h.1,rm h.2]
 |cond c a b rV rm=>intro b h;cases b<;>simp only [jH,Bool.false_eq_true,aX] at h;rw [bH h.1,rV h.2.1,rm h.2.2]
 |block id c ih=>intro b h;cases b<;>simp only [jH,Bool.false_eq_true,aX] at h;rw [Nat.eq_of_beq_eq_true h.1,ih h.2]
 |loop c ih=>intro b h;cases b<;>simp only [jH,Bool.false_eq_true] at h;rw [ih h]
 |gk p m i cl e kt kg vt vg d b ih =>
  intro b h
  cases b<;>simp only [jH,Bool.false_eq_true,aX] at h
  obtain ⟨h1,h2,h3,h4,h5,h6,h7,h8,h9,h11,h10⟩:=h
  rw [fZ tQ h1,bH h2,Nat.eq_of_beq_eq_true h3,rZ h4,BB h5,lg h6,fe h7,lg h8,fe h9,Nat.eq_of_beq_eq_true h11,ih h10]
 |c9 f ps a b rV rm=>intro b h;cases b<;>simp only [jH,Bool.false_eq_true,aX] at h;rw [bH h.1,rZ h.2.1,rV h.2.2.1,rm h.2.2.2]
end Go.AM
end
