/- A region whose order is drawn: whatever the order, it ends as the canonical one. Calls in the caller's heap, loops unrolled, loops over functions. A call of yield: a round of the loop. The small machine, run. The way in: what an argument reads as is data of the machine. States that stand for as much, in general: names may change, nil slices may stand for empty lists, blocks that nobody reads are forgotten. The small machine's code as a function: tests, needs and calls stay open, all else is reckoned. Patterns: what stands in slots and blocks, with places for data; read out of a state, and laid again. Code that is the same, as a test. What is read by a pattern stands for what was there. Loops and functions, as functions of their data. Loops over functions, as functions of their data. Calls that are lent blocks of the caller's heap: the rest stays as it is. -/
import Derived.Test.YtgmflfkhjjjhmaaAMb
import Derived.OrdersIn
import Derived.ProofKit
import Derived.OpenShut
import Derived.Maps.RangeRun
set_option linter.unusedSectionVars false
set_option linter.unusedVariables false
set_option linter.unusedSimpArgs false
section
namespace Go.AM
section
variable {P:Program} {N:Nat} {Y:Ctx} {ι ι':aA} {μ μ':Mu} {H:aK} {w w':World} {out:Option Nat} {base:Nat} {ops:Array Oper}
def jc (acc:Array Nat) (o:Oper):Array Nat:=acc.push (o.after.foldl (fun s e=>if Region.binds .any e then s ||| 2 ^ e.on ||| acc.getD e.on 0 else s) 0)
theorem ug:Region.before ops=ops.toList.foldl jc #[]:=by
 unfold Region.before
 rw [<-Array.foldl_toList];rfl
theorem rK {acc:Array Nat} {j:Nat}:∀{l:List Edge} {s:Nat},(l.foldl (fun s e=>if Region.binds .any e then s ||| 2 ^ e.on ||| acc.getD e.on 0 else s) s).testBit j=true ->
  s.testBit j=true\/∃e∈l,Region.binds .any e=true/\(j=e.on\/(acc.getD e.on 0).testBit j=true)
 |[],s,h=>.inl h
 |e::r,s,h=>by
  simp only [List.foldl_cons] at h
  rcases rK h with h1|⟨e',he',h2⟩
  ·split at h1
   ·rename_i hb
    simp only [Nat.testBit_or,Bool.or_eq_true,Nat.testBit_two_pow,decide_eq_true_eq] at h1
    rcases h1 with (h1|h1)|h1
    ·exact .inl h1
    ·exact .inr ⟨e,List.mem_cons_self ..,hb,.inl h1.symm⟩
    ·exact .inr ⟨e,List.mem_cons_self ..,hb,.inr h1⟩
   ·exact .inl h1
  ·exact .inr ⟨e',List.mem_cons_of_mem _ he',h2⟩
theorem rL : ∀ (l : List Oper) (acc : Array Nat), (l.foldl jc acc).size = acc.size + l.length
 |[],acc=>by simp
 |o::r,acc=>by simp only [List.foldl_cons,rL r,jc,Array.size_push,List.length_cons];omega
theorem rM {j:Nat}:∀(l:List Oper) (acc:Array Nat) (pre:List Oper),acc.size=pre.length ->
  (∀i,(acc.getD i 0).testBit j=true->∃o,pre[i]?=some o/\∃e∈o.after,Region.binds .any e=true/\(j=e.on\/(acc.getD e.on 0).testBit j=true)) ->
  ∀i,((l.foldl jc acc).getD i 0).testBit j=true->∃o,(pre++l)[i]?=some o/\∃e∈o.after,Region.binds .any e=true/\(j=e.on\/((l.foldl jc acc).getD e.on 0).testBit j=true)
 |[],acc,pre,hs,h,i,hi=>by simpa using h i hi
 |o::r,acc,pre,hs,h,i,hi=>by
  have:=rM r (jc acc o) (pre++[o]) (by simp [jc,hs]) (fun i hi=>?_) i hi
  ·simpa using this
  ·have keep:∀k,(acc.getD k 0).testBit j=true->((jc acc o).getD k 0).testBit j=true:=fun k hk=>by
    have hlt:k<acc.size:=by
     rcases Nat.lt_or_ge k acc.size with h|h
     ·exact h
     ·simp [Array.getD,Nat.not_lt.2 h] at hk
    simpa [jc,Array.getD,hlt,Array.getElem_push,Nat.lt_succ_of_lt hlt] using (by simpa [Array.getD,hlt] using hk:acc[k].testBit j=true)
   by_cases hlt:i<acc.size
   ·have hi':(acc.getD i 0).testBit j=true:=by
     simpa [jc,Array.getD,hlt,Array.getElem_push,Nat.lt_succ_of_lt hlt] using hi
    obtain ⟨o',ho',e,he,hb,hj⟩:=h i hi'
    exact ⟨o',by rw [List.getElem?_append_left (List.getElem?_eq_some_iff.1 ho').1];exact ho',e,he,hb,hj.imp id (keep _)⟩
   ·by_cases heq : i = acc.size
    ·subst heq
     have hi':(o.after.foldl (fun s e=>if Region.binds .any e then s ||| 2 ^ e.on ||| acc.getD e.on 0 else s) 0).testBit j=true:=by
      simpa [jc,Array.getD,Array.getElem_push] using hi
     rw [<-Array.foldl_toList] at hi'
     rcases rK hi' with h1|⟨e,he,hb,hj⟩
     ·simp at h1
     ·exact ⟨o,by rw [hs];simp,e,by simpa using he,hb,hj.imp id (keep _)⟩
    ·have : ¬ i < (jc acc o).size := by simp [jc]; omega
     simp [Array.getD,this] at hi
theorem pE {i j:Nat} (h:((Region.before ops).getD i 0).testBit j=true) :
  ∃o,ops[i]?=some o/\∃e∈o.after,Region.binds .any e=true/\(j=e.on\/((Region.before ops).getD e.on 0).testBit j=true):=by
 rw [ug] at h ⊢
 obtain ⟨o,ho,h⟩:=rM (j:=j) ops.toList #[] [] rfl (fun i hi=>by simp at hi) i h
 exact ⟨o,by simpa using ho,h⟩
theorem kB:(Region.before ops).size=ops.size:=by rw [ug,rL];simp
theorem k4 {i j:Nat}:j∈(bQ ops).getD i []↔j<ops.size/\((Region.before ops).getD i 0).testBit j=true:=by
 unfold bQ
 simp only [List.getD,List.getElem?_map]
 by_cases hi:i<ops.size
 ·have h:(Region.before ops).toList[i]?=some ((Region.before ops).getD i 0):=by
   have:i<(Region.before ops).size:=by rw [kB];exact hi
   simp [Array.getD,this]
  simp [h,List.mem_filter,List.mem_range]
 ·have h1 : (Region.before ops).toList[i]? = none := List.getElem?_eq_none (by simp [kB]; omega)
  have h2:(Region.before ops).getD i 0=0:=by simp [Array.getD,kB,hi]
  simp [h1,h2]
theorem mg : ∀ {os : List Oper} {is : List dB}, eA P N ops os = some is → is.length = os.length ∧ ∀ (k : Nat) o it, os[k]? = some o → is[k]? = some it → xz P N ops o = some it
 |[],is,h=>by cases h;exact ⟨rfl,fun k o it h=>by simp at h⟩
 |o::os,is,h=>by
  unfold eA at h
  split at h<;>try (cases h;done)
  rename_i it X1 hit Ge
  cases h
  obtain ⟨h1,h2⟩:=mg Ge
  refine ⟨by simp [h1],fun k o' it' ho hi=>?_⟩
  cases k with
  |zero=>simp at ho hi;subst ho;subst hi;exact hit
  |succ k=>exact h2 k o' it' (by simpa using ho) (by simpa using hi)
theorem Inv.Du (h:Inv P Y ι μ H w) {n:Nat} (hn:H.next<=n):Inv P Y ι μ ⟨n,H.bl⟩ w :=
 ⟨h.below,h.i0,h.iB,h.rd,h.m0,fun id hid=>h.nx id (Nat.le_trans hn hid),h.live,h.inj,fun id B hB=>Nat.lt_of_lt_of_le (h.lt id B hB) hn,h.gl⟩
theorem Inv.Y9 (h:Inv P Y ι μ H w) {bl:aj} (he:OY bl H.bl):Inv P Y ι μ ⟨H.next,bl⟩ w :=
 ⟨h.below,h.i0,h.iB,h.rd,h.m0,h.nx,fun id B hB=>h.live id B (by rw [<-he id];exact hB),fun id id' B B' L L' hb hb'=>h.inj id id' B B' L L' (by rw [<-he id];exact hb) (by rw [<-he id'];exact hb'),
  fun id B hB=>h.lt id B (by rw [<-he id];exact hB),h.gl⟩
theorem eu.Gn {B:Nat->Prop} {id:Nat} {b:js} (h:eu P B ι μ id w b) (hw:w'.heap=w.heap):eu P B ι μ id w' b:=by
 cases b with
 |cells cs fz=>obtain ⟨L,vs,hM,h⟩:=h;exact ⟨L,vs,⟨hM.mu,hM.old,by rw [hw];exact hM.row,hM.fits,hM.one,hM.zW,hM.n4⟩,h⟩
 |arr t xs fz =>
  rcases h with h|⟨L,vs,hM,h⟩
  ·exact .inl h
  ·exact .inr ⟨L,vs,⟨hM.mu,hM.old,by rw [hw];exact hM.row,hM.fits,hM.one,hM.zW,hM.n4⟩,h⟩
 |loop st j d env ps as bd N=>unfold eu at h ⊢;rw [hw];exact h
 |gi=>unfold eu at h ⊢;rw [hw];exact h
 |map kt kg vt vg es=>unfold eu at h ⊢;rw [hw];exact h
 |jo t xs i p v =>
  obtain ⟨L,us,vs,c,hM,h⟩:=h
  exact ⟨L,us,vs,c,⟨hM.mu,hM.old,by rw [hw];exact hM.row,hM.fits,hM.one,hM.zW,hM.n4⟩,h⟩
theorem Inv.drawn (h:Inv P Y ι μ H w):Inv P Y ι μ H { w with drawn:=w.drawn+1 } :=
 ⟨⟨h.below.os,h.below.tape,h.below.output,h.below.size,h.below.block,Nat.le_succ_of_le h.below.dr,h.below.maps⟩,h.i0,h.iB,h.rd,h.m0,h.nx,fun id B hB=>(h.live id B hB).Gn rfl,h.inj,h.lt,h.gl⟩
theorem Inv.called (hI:Inv P Y ι μ H w) (hi:ι.le ι') (Gi:∀b o,b<w.heap.size->ι' b o=ι b o) (hrd:eZ ι' w') (gr:Dw w w'):Inv P Y ι' μ H w':=by
 have hsz:=hI.below.size
 refine ⟨hI.below.then gr,aA.le_trans hI.i0 hi,fun b o hb hx=>by rw [Gi b o (by omega)];exact hI.iB b o hb hx,hrd,hI.m0,hI.nx,fun id B hB=>?_,hI.inj,hI.lt,hI.gl⟩
 have iq:=hI.live id B hB
 refine iq.mono hi (Mu.le_refl _) (fun h=>h) (fun L hL=>gr.b.block _ (iq.loc hL).2) (fun L hL ho o=>?_)
 rw [Gi _ _ (iq.loc hL).2];exact ho o
theorem eZ.kept (h:eZ ι w) (gr:Dw w w'):eZ ι w':=fun b o x hx=>by
 have h1:=h b o x hx
 have hlt:b<w.heap.size:=by
  rcases Nat.lt_or_ge b w.heap.size with h'|h'
  ·exact h'
  ·simp [World.cell?,Array.getElem?_eq_none h'] at h1
 unfold World.cell? at h1 ⊢
 simp only at h1 ⊢
 rw [gr.b.block b hlt];exact h1
theorem uh {v:V} {x:Value} (h:BE v=true) (hr:Rel ι μ v x):Rel ι' μ' v x:=by
 cases hr<;>simp only [BE] at h<;>try (cases h;done)
 case tf=>exact .tf _
 case bool=>exact .bool _
 case int=>exact .int _ _
 case str=>exact .str _
theorem Dv {v:V} {x:Value} (h:FE v=true) (hr:Rel ι μ v x):Rel ι' μ' v x:=by
 cases hr<;>simp only [FE] at h<;>try (cases h;done)
 case tf=>exact .tf _
 case bool=>exact .bool _
 case int=>exact .int _ _
 case str=>exact .str _
 case agg cs xs h1 h2 h3=>exact .agg cs xs h1 (fun i v x hv hx=>uh (List.all_eq_true.1 h _ (List.mem_of_getElem? hv)) (h2 i v x hv hx)) h3
theorem x6 {v:V} {x:Value} (h:xB v=true) (hr:Rel ι μ v x):Rel ι' μ' v x:=by
 cases hr<;>simp only [xB] at h<;>try (cases h;done)
 case tf=>exact .tf _
 case bool=>exact .bool _
 case int=>exact .int _ _
 case str=>exact .str _
 case agg cs xs h1 h2 h3=>exact .agg cs xs h1 (fun i v x hv hx=>uh (List.all_eq_true.1 h _ (List.mem_of_getElem? hv)) (h2 i v x hv hx)) h3
 case cq cs xs h1 h2=>exact .cq cs xs h1 fun i v x hv hx=>Dv (List.all_eq_true.1 h _ (List.mem_of_getElem? hv)) (h2 i v x hv hx)
theorem vF {g : V → Option V} : ∀ {vs : List V}, (∀ v ∈ vs, g v = some v) → cM g vs = some vs
 |[],_=>rfl
 |v::r,h=>by simp only [cM,h v (List.mem_cons_self ..),vF (vs:=r) (fun v hv=>h v (List.mem_cons_of_mem _ hv))]
theorem rN {ar : Ar} {bl : aj} : ∀ {n : Nat} {v : V}, cV n v = true → fin ar bl n v = some v
 |0,v,h=>by cases h
 |n+1,v,h=>by
  have all:∀{cs:List V},cs.all (cV n)=true->cM (fin ar bl n) cs=some cs:=fun h=>vF fun v hv=>rN (List.all_eq_true.1 h v hv)
  cases v<;>simp only [cV] at h<;>try (cases h;done)
  case bR cs=>simp only [fin,h,if_true]
  case fn f a b=>simp only [Bool.and_eq_true] at h;simp only [fin,all h.1,all h.2]
  case agg cs=>simp only [fin,all h]
  case cq cs=>simp only [fin,all h]
  case cn t v=>simp only [fin,rN h]
  all_goals rfl
theorem mZ {v0 v:V} {x:Value} (h:Tw v0 v) (hr:Rel ι μ v0 x):Rel ι μ v x:=by
 rcases h with rfl|⟨c,rfl,rfl⟩
 ·exact hr
 ·cases hr;exact .tf _
theorem k5 {S:List (Nat×V)} {a:Act} (he:fG ι μ S a.tmps) {o:Oper} {g:Option (Nat×Bool)} (hg:S7 ops o.guard=some g) {c:Bool} (h:zU g S=some c):Region.wanted o (yielded ops a.tmps)=c:=by
 cases Gd:o.guard with
 |none=>rw [Gd] at hg;cases hg;cases h;simp [Region.wanted,Gd]
 |some jb =>
  obtain ⟨j,b⟩:=jb
  rw [Gd] at hg
  simp only [S7] at hg
  split at hg<;>try (cases hg;done)
  rename_i oj Tq
  split at hg<;>try (cases hg;done)
  rename_i d Ts
  cases hg
  simp only [zU] at h
  split at h<;>try (cases h;done)
  rotate_left
  ·rename_i vs hc
   cases h
   simp only [Region.wanted,Gd,o8 he Tq Ts hc]
   rfl
  rename_i c' hc
  simp only [Region.wanted,Gd,qY he Tq Ts (.inl hc)]
  revert h
  cases c'<;>cases b<;>intro h<;>cases h<;>rfl
theorem Kf {b n : Nat} {t : TR} {env : List (Nat × V)} {bl : aj} {ms : List Nat} {a : Act} (hn : t.k < n) {o : Oper} (ho : ops[t.k]? = some o) (hit : xz P N ops o = some t.it)
  (Dx:En (fY P N out base) b t env bl) (hR:iH P N Y ι μ ⟨env,⟨b+n,bl⟩,ms⟩ a w) (hfree:μ (b+t.k)=none) {Q:Exit->Act->World->Prop} {K:Act->World->Prop}
  (hK:∀ι' μ' a' w',iH P N Y ι' μ' ⟨t.Gk env,⟨b+n,t.Gl bl⟩,ms⟩ a' w'->(∀id,id≠b+t.k->μ' id=μ id)->K a' w'):wpOpIn Y.F 0 P ops Q t.k K a w:=by
 obtain ⟨k,it,ac,rd⟩:=t
 simp only at hn ho hit hfree hK
 unfold xz at hit
 split at hit<;>try (cases hit;done)
 rename_i hd
 split at hit<;>try (cases hit;done)
 rename_i g hg
 have Tz:it.Nv=g/\it.dst=o.dst:=by
  split at hit<;>(split at hit<;>try (cases hit;done))<;>(cases hit;exact ⟨rfl,rfl⟩)
 unfold wpOpIn
 simp only [ho]
 unfold En at Dx
 cases ac with
 |skip =>
  simp only at Dx
  rw [Tz.1] at Dx
  rw [if_neg (by rw [k5 hR.env hg Dx.1];simp)]
  refine ⟨fun _ _=>trivial,hK ι μ _ _ ?_ fun _ _=>rfl⟩
  have:=hR.put hd (aA.le_refl _) (Mu.le_refl _) hR.inv Rel.und
  simpa [TR.Gk,TR.Gl,Tz.2,Ac.val,Ac.Jz,bD] using this
 |op v u =>
  split at hit
  ·split at hit <;> try (cases hit; done)
   cases hit;exact Dx.elim
  ·split at hit <;> try (cases hit; done)
   cases hit;exact Dx.elim
  ·rename_i op _ _
   split at hit<;>try (cases hit;done)
   rename_i i hi
   cases hit
   obtain ⟨E8,ob,v0,ah,cE,hv,_⟩:=Dx
   have hw:=k5 hR.env hg E8
   rw [if_pos hw]
   have hop:FL P Y ι μ ⟨b+n,bl⟩ w (b+k) (execOp a.eval o) v0 u i.dU:=by
    rcases ah with ah|ah
    ·exact ua hR.inv hfree hR.env hi ah cE
    ·exact uc hR.inv hfree hR.env hi ah cE
   obtain ⟨ι',μ',x,w',hx,hi',hm,hne,hinv,vw⟩:=hop
   refine ⟨fun _ _=>trivial,?_⟩
   rw [Oper.semAt_eq _ _ _ (od hi)]
   have X3:ej i.dU (b+n) (b+k)=b+n:=by unfold ej;cases i.dU<;>simp<;>omega
   have pV:iH P N Y ι' μ' ⟨AM.put o.dst v env,⟨b+n,bD u bl⟩,ms⟩ (a.put o.dst x) w':=by
    refine hR.put hd hi' hm ?_ (mZ hv vw)
    have:=hinv;simp only [X3] at this;exact this
   rcases hx with h|⟨h,rfl⟩<;>rw [h]<;>exact hK _ _ _ _ pV hne
 |call v u =>
  obtain ⟨c,args,tys,fo,as,hop,hf,ha,rfl⟩:∃(c:Callee) (args:Array Operand) (tys:Array TypeId) (fo:O) (as:List O),o.op = .call { callee:=c,args:=args,argTypes:=tys }/\hN P c=some fo/\pS args.toList=some as/\it = .call o.dst g fo as (dV P fo tys):=by
   split at hit
   ·rename_i f args tys hop
    split at hit<;>try (cases hit;done)
    rename_i fo as hf ha
    cases hit
    exact ⟨.value f,args,tys,fo,as,hop,hf,ha,rfl⟩
   ·rename_i r name args tys hop
    split at hit<;>try (cases hit;done)
    rename_i fo as hf ha
    cases hit
    exact ⟨.invoke r name,args,tys,fo,as,hop,hf,ha,rfl⟩
   ·split at hit <;> try (cases hit; done)
    cases hit;exact Dx.elim
  obtain ⟨E8,fid,fs,cs,vs',v0,kY,hmo,hp,hs,hv,_⟩:=Dx
  have hw:=k5 hR.env hg E8
  rw [if_pos hw]
  refine ⟨fun _ _=>trivial,?_⟩
  rw [Oper.semAt_eq _ _ _ (by rw [hop];simp)]
  have ra:=fQ hR.env ha
  obtain ⟨fc,eH⟩:=hp
  obtain ⟨xs,ys,r1,r2,hrun⟩:=rq hop hf hR.env kY fc
  rw [hrun]
  have rl:aG ι μ (fs++bX (dV P fo tys) (as.map (·.ev env))++cs) (xs++args.map a.eval++ys).toList:=by
   have:=(r1.append (gw (ts:=dV P fo tys) ra)).append r2
   simpa using this
  refine ⟨fun h=>by simp [Ctx.F,Fence.wide] at h,?_⟩
  rcases Bool.eq_false_or_eq_true (xB v0||(fs++bX (dV P fo tys) (as.map (·.ev env))++cs).all (cV 8)) with hb|hb
  rotate_left
  ·rw [hb] at hs
   obtain ⟨ι2,i1,i2,i3⟩:=qo hR.inv (vE hs)
   have Za:cM (fin bL bl 8) (fs++bX (dV P fo tys) (as.map (·.ev env))++cs)=some vs':=(jC (fun v=>by unfold fY;exact rJ.symm) _).trans hmo
   refine CallsIn.mono (F:=Y.F) (eH ι2 w _ i2.jL (fun b o x hx=>i2.rd b o x hx) (Ke i1 Za i3 rl)) ?_
   rintro e w' ⟨v',ι',rfl,hi,Gi,hrd,gr,vw⟩
   have hinv':Inv P Y ι' μ ⟨b+n,bD u bl⟩ w':=i2.called hi Gi hrd gr
   exact hK _ _ _ _ (hR.put hd (aA.le_trans i1 hi) (Mu.le_refl _) hinv' (mZ hv (vw.mono (aA.le_refl _) (fun _ _ h=>by cases h)))) fun _ _=>rfl
  rw [hb] at hs
  cases hs
  replace hs:=hb
  rw [Bool.or_eq_true] at hs
  rcases hs with hs|hs
  ·refine CallsIn.mono (F := Y.F) (eH (ι.all Y.own w) w _ (hR.inv.jL.mono (aA.vA hR.inv.rd)) (fun b o x hx => ?_) (fT (fun v r x h hr => qm (fun _ _ _ => rfl) hR.inv h hr) hmo rl)) ?_
   ·exact aA.Al hR.inv.rd hx
   ·rintro e w' ⟨v', ι', rfl, _, _, _, gr, vw⟩
    have hinv':Inv P Y ι μ ⟨b+n,bl⟩ w':=hR.inv.called (aA.le_refl _) (fun _ _ _=>rfl) (eZ.kept (fun b o x hx=>hR.inv.rd b o x hx) gr) gr
    exact hK _ _ _ _ (hR.put hd (aA.le_refl _) (Mu.le_refl _) hinv' (mZ hv (x6 hs vw))) fun _ _=>rfl
  ·have hid:cM (fin (fY P N out base) bl 8) (fs++bX (dV P fo tys) (as.map (·.ev env))++cs)=some (fs++bX (dV P fo tys) (as.map (·.ev env))++cs) :=
    vF fun v hv=>rN (List.all_eq_true.1 hs v hv)
   rw [hid] at hmo;cases hmo
   have rl':aG ι (fun _=>none) (fs++bX (dV P fo tys) (as.map (·.ev env))++cs) (xs++args.map a.eval++ys).toList :=
    ⟨rl.1,fun i v x hv hx=>cN (List.all_eq_true.1 hs _ (List.mem_of_getElem? hv)) (rl.2 i v x hv hx)⟩
   refine CallsIn.mono (F:=Y.F) (eH ι w _ hR.inv.jL (fun b o x hx=>hR.inv.rd b o x hx) rl') ?_
   rintro e w' ⟨v',ι',rfl,hi,Gi,hrd,gr,vw⟩
   have hinv':Inv P Y ι' μ ⟨b+n,bl⟩ w':=hR.inv.called hi Gi hrd gr
   exact hK _ _ _ _ (hR.put hd hi (Mu.le_refl _) hinv' (mZ hv (vw.mono (aA.le_refl _) (fun _ _ h=>by cases h)))) fun _ _=>rfl
 |NG v u =>
  obtain ⟨c,args,tys,fo,as,hop,hf,ha,rfl⟩:∃(c:Callee) (args:Array Operand) (tys:Array TypeId) (fo:O) (as:List O),o.op = .call { callee:=c,args:=args,argTypes:=tys }/\hN P c=some fo/\pS args.toList=some as/\it = .call o.dst g fo as (dV P fo tys):=by
   split at hit
   ·rename_i f args tys hop
    split at hit<;>try (cases hit;done)
    rename_i fo as hf ha
    cases hit
    exact ⟨.value f,args,tys,fo,as,hop,hf,ha,rfl⟩
   ·rename_i r name args tys hop
    split at hit<;>try (cases hit;done)
    rename_i fo as hf ha
    cases hit
    exact ⟨.invoke r name,args,tys,fo,as,hop,hf,ha,rfl⟩
   ·split at hit <;> try (cases hit; done)
    cases hit;exact Dx.elim
  obtain ⟨E8,fid,fs,cs,v0,kY,hp,hv⟩:=Dx
  have hw:=k5 hR.env hg E8
  rw [if_pos hw]
  refine ⟨fun _ _=>trivial,?_⟩
  rw [Oper.semAt_eq _ _ _ (by rw [hop];simp)]
  have ra:=fQ hR.env ha
  obtain ⟨fc,eH⟩:=hp bl fun _ _=>rfl
  obtain ⟨xs,ys,r1,r2,hrun⟩:=rq hop hf hR.env kY fc
  rw [hrun]
  have rl:aG ι μ (fs++bX (dV P fo tys) (as.map (·.ev env))++cs) (xs++args.map a.eval++ys).toList:=by
   have:=(r1.append (gw (ts:=dV P fo tys) ra)).append r2
   simpa using this
  refine ⟨fun h=>by simp [Ctx.F,Fence.wide] at h,?_⟩
  refine CallsIn.mono (F:=Y.F) (eH Y ι μ (b+n) w _ (Nat.add_lt_add_left hn b) hfree hR.inv rl) ?_
  rintro e w' ⟨x,ι',μ',rfl,hi,hm,hne,hinv,vw⟩
  exact hK _ _ _ _ (hR.put hd hi hm hinv (mZ hv vw)) hne
structure Good (ops:Array Oper) (m:Nat) (is:List dB) (R:List TR) (listed:Array Bool):Prop where
 sz:listed.size=ops.size
 mem:∀t∈R,t.k<m/\is[t.k]?=some t.it/\listed.getD t.k true=false
 X4:∀i,i<m->listed.getD i true=false->∃t∈R,t.k=i
 x7:R.Pairwise (fun a b=>a.k<b.k)
 dr:R.Pairwise (Y8 (bQ ops))
 Zb:∀i,listed.getD i false=true->∀j∈(bQ ops).getD i [],listed.getD j false=true
 le:m<=ops.size
 tl:∀i,m<=i->i<ops.size->listed.getD i true=false
theorem vG {l:Array Bool} {i:Nat} (h:l.getD i true=false):l.getD i false=false/\i<l.size:=by
 rcases Nat.lt_or_ge i l.size with h'|h'
 ·simp [h'] at h ⊢;exact h
 ·simp [Array.getElem?_eq_none h'] at h
theorem BV {l:Array Bool} {i:Nat} (h:i<l.size) (d d':Bool):l.getD i d=l.getD i d':=by simp [h]
theorem vH {bN:List (List Nat)} {is:List dB} (h:kT bN is=true) {i j:Nat} (hij:i<j) {a b:dB} (ha:is[i]?=some a) (hb:is[j]?=some b):i∈bN.getD j []\/jt a b=true:=by
 unfold kT at h
 have hj:j<is.length:=(List.getElem?_eq_some_iff.1 hb).1
 have:=List.all_eq_true.1 (List.all_eq_true.1 h j (List.mem_range.2 hj)) i (List.mem_range.2 hij)
 simp only [ha,hb,Bool.or_eq_true] at this
 rcases this with h|h
 ·exact .inl (by simpa using h)
 ·exact .inr h
theorem kD {m:Nat} {is:List dB} {R:List TR} {listed:Array Bool} (hG:Good ops m is R listed) {i:Nat} (hi:i∈Region.ready .any ops listed):∀j∈(bQ ops).getD i [],listed.getD j false=true:=by
 intro j hj
 obtain ⟨_,o,ho,hall⟩:=mem_ready.1 hi
 obtain ⟨Zc,ht⟩:=k4.1 hj
 obtain ⟨o',ho',e,he,hb,h⟩:=pE ht
 rw [ho] at ho';cases ho'
 have hl:=hall e he hb
 rcases h with rfl|h
 ·exact hl
 ·exact hG.Zb _ hl j (k4.2 ⟨Zc,h⟩)
theorem Gp {m:Nat} {is:List dB} {R:List TR} {listed:Array Bool} (hG:Good ops m is R listed) (fe:gq ops=true) {k:Nat} (h1:k<ops.size) (h3:listed.getD k true=false) (Aq:∀i,i<k->listed.getD i true=true):k∈Region.ready .any ops listed:=by
 refine mem_ready.2 ⟨h3,ops[k],by simp [h1],fun e he hb=>?_⟩
 have hlt:e.on<k:=by
  unfold gq at fe
  have hmem:(ops[k],k)∈ops.toList.zipIdx:=by
   rw [List.mem_zipIdx_iff_getElem?];simp [h1]
  have:=List.all_eq_true.1 fe _ hmem
  simp only at this
  have:=Array.all_eq_true_iff_forall_mem.1 this e he
  simpa [hb] using this
 have hlt':e.on<listed.size:=by rw [hG.sz];omega
 rw [BV hlt' false true];exact Aq _ hlt
theorem As {m:Nat} {is:List dB} {t:TR} {R:List TR} {listed:Array Bool} (hG:Good ops m is (t::R) listed) (fe:gq ops=true):t.k∈Region.ready .any ops listed:=by
 obtain ⟨h1,_,h3⟩:=hG.mem t (List.mem_cons_self ..)
 refine Gp hG fe (by have:=hG.le;omega) h3 fun i hi=>?_
 rcases Bool.eq_false_or_eq_true (listed.getD i true) with h|h
 ·exact h
 ·obtain ⟨t', ht', hk⟩ := hG.X4 i (by omega) h
  rcases List.mem_cons.1 ht' with rfl|ht'
  ·omega
  ·have := (List.pairwise_cons.1 hG.x7).1 t' ht'
   omega
theorem Good.step {m:Nat} {is:List dB} {L1 L2:List TR} {t:TR} {listed:Array Bool} (hG:Good ops m is (L1++t::L2) listed) (hr:t.k∈Region.ready .any ops listed):Good ops m is (L1++L2) (listed.setIfInBounds t.k true):=by
 have hsub:(L1++L2).Sublist (L1++t::L2):=(List.Sublist.refl L1).append (List.sublist_cons_self t L2)
 have hne:∀x∈L1++L2,x.k≠t.k:=fun x hx=>by
  have:=List.pairwise_append.1 hG.x7
  rcases List.mem_append.1 hx with h|h
  ·exact Nat.ne_of_lt (this.2.2 x h t (List.mem_cons_self ..))
  ·exact Nat.ne_of_gt ((List.pairwise_cons.1 this.2.1).1 x h)
 refine ⟨by simp [hG.sz],fun x hx=>?_,fun i hi SD=>?_,hG.x7.sublist hsub,hG.dr.sublist hsub,fun i hi j hj=>?_,hG.le,fun i hi hi2=>?_⟩
 ·obtain ⟨h1, h2, h3⟩ := hG.mem x (hsub.subset hx)
  exact ⟨h1,h2,by rw [getD_set_ne true (Ne.symm (hne x hx))];exact h3⟩
 ·have hki:t.k≠i:=fun e=>by
   subst e
   have:t.k<listed.size:=by rw [hG.sz];exact Nat.lt_of_lt_of_le hi hG.le
   simp [this] at SD
  rw [getD_set_ne true hki] at SD
  obtain ⟨x,hx,hk⟩:=hG.X4 i hi SD
  refine ⟨x,?_,hk⟩
  rcases List.mem_append.1 hx with h|h
  ·exact List.mem_append_left _ h
  ·rcases List.mem_cons.1 h with rfl | h
   ·exact absurd hk hki
   ·exact List.mem_append_right _ h
 ·refine getD_set_true ?_
  by_cases hki:t.k=i
  ·subst hki;exact kD hG hr j hj
  ·rw [getD_set_ne false hki] at hi
   exact hG.Zb i hi j hj
 ·have hk := (hG.mem t (List.mem_append_right _ (List.mem_cons_self ..))).1
  rw [getD_set_ne true (by omega)]
  exact hG.tl i hi hi2
theorem x8 {os:List Oper} {is:List dB} {k:Nat} (h:eA P N ops os=some is):eA P N ops (os.drop k)=some (is.drop k):=by
 induction k generalizing os is with
 |zero=>simpa using h
 |succ k ih =>
  cases os with
  |nil=>cases h;rfl
  |cons o os =>
   unfold eA at h
   split at h<;>try (cases h;done)
   rename_i it X1 hit Ge
   cases h
   simpa using ih Ge
theorem x9 {m:Nat} (fe:gq ops=true) (uj:∀i,m<=i->i<ops.size->∀j,j<i->j∈(bQ ops).getD i []) {Q:Exit->Act->World->Prop}:∀(n k:Nat) {listed:Array Bool} {a:Act} {w:World},
  m<=k->k+n=ops.size->listed.size=ops.size->(∀i,i<k->listed.getD i true=true)->(∀i,k<=i->i<ops.size->listed.getD i true=false) ->
  (∀i,listed.getD i false=true->∀j∈(bQ ops).getD i [],listed.getD j false=true)->wpOpsIn Y.F 0 P ops Q (List.range' k n) a w->wpAnyIn Y.F 0 P .any ops Q n listed a w
 |0,k,listed,a,w,hm,hk,hsz,Aq,BW,OZ,h=>by
  refine ⟨?_,h⟩
  cases hr:Region.ready .any ops listed with
  |nil=>rfl
  |cons i r =>
   have hi:i∈Region.ready .any ops listed:=by rw [hr];exact List.mem_cons_self ..
   obtain ⟨h0,o,ho,_⟩:=mem_ready.1 hi
   have:=(Array.getElem?_eq_some_iff.1 ho).1
   rw [Aq i (by omega)] at h0;cases h0
 |n+1,k,listed,a,w,hm,hk,hsz,Aq,BW,OZ,h=>by
  have hks:k<ops.size:=by omega
  have hrk:k∈Region.ready .any ops listed:=by
   refine mem_ready.2 ⟨BW k (Nat.le_refl _) hks,ops[k],by simp [hks],fun e he hb=>?_⟩
   have hlt:e.on<k:=by
    unfold gq at fe
    have hmem:(ops[k],k)∈ops.toList.zipIdx:=by
     rw [List.mem_zipIdx_iff_getElem?];simp [hks]
    have:=List.all_eq_true.1 fe _ hmem
    simp only at this
    have:=Array.all_eq_true_iff_forall_mem.1 this e he
    simpa [hb] using this
   have hlt':e.on<listed.size:=by rw [hsz];omega
   rw [BV hlt' false true];exact Aq _ hlt
  have hrp:∀i,i∈Region.ready .any ops listed->∀j∈(bQ ops).getD i [],listed.getD j false=true:=by
   intro i hi j hj
   obtain ⟨_,o,ho,hall⟩:=mem_ready.1 hi
   obtain ⟨Zc,ht⟩:=k4.1 hj
   obtain ⟨o',ho',e,he,hb,h⟩:=pE ht
   rw [ho] at ho';cases ho'
   have hl:=hall e he hb
   rcases h with rfl|h
   ·exact hl
   ·exact OZ _ hl j (k4.2 ⟨Zc,h⟩)
  refine ⟨fun h0=>(by rw [h0] at hrk;cases hrk),fun i hi=>?_⟩
  obtain ⟨h0,o,ho,_⟩:=mem_ready.1 hi
  have Dl:=(Array.getElem?_eq_some_iff.1 ho).1
  have hik:i=k:=by
   rcases Nat.lt_trichotomy i k with h1|h1|h1
   ·rw [Aq i h1] at h0;cases h0
   ·exact h1
   ·have := hrp i hi k (uj i (by omega) Dl k h1)
    rw [(vG (BW k (Nat.le_refl _) hks)).1] at this;cases this
  subst hik
  rw [List.range'_succ,wpOpsIn_cons] at h
  refine wpOpIn_mono (fun a' w' h'=>x9 fe uj n (i+1) (by omega) (by omega) (by simpa using hsz) (fun j hj=>?_) (fun j hj hj2=>?_) (fun x hx j hj=>?_) h') h
  ·by_cases e : i = j
   ·subst e;simp [hsz,hks]
   ·rw [getD_set_ne true e];exact Aq j (by omega)
  ·rw [getD_set_ne true (by omega)];exact BW j (by omega) hj2
  ·refine getD_set_true ?_
   by_cases e:i=x
   ·subst e;exact hrp i hi j hj
   ·rw [getD_set_ne false e] at hx
    exact OZ x hx j hj
theorem Gq {is : List dB} {m : Nat} (uj : ∀ i, m ≤ i → i < ops.size → ∀ j, j < i → j ∈ (bQ ops).getD i []) (Dl : eA P N ops ops.toList = some is) (vI : kT (bQ ops) is = true) (fe : gq ops = true) {b : Nat} {ms : List Nat} {F : List (Nat × V) → aj → Prop} (hF : vB F)
  {Q:Exit->Act->World->Prop} (hend:∀ι μ env bl a w,iH P N Y ι μ ⟨env,⟨b+m,bl⟩,ms⟩ a w->F env bl->wpOpsIn Y.F 0 P ops Q (List.range' m (ops.size - m)) a w) :
  ∀(fuel:Nat) {R:List TR} {listed:Array Bool} {a:Act} {w:World} {ι:aA} {μ:Mu} {env:List (Nat×V)} {bl:aj},fuel=R.length+(ops.size - m)->Good ops m is R listed->pY (fY P N out base) b R env bl F ->
   iH P N Y ι μ ⟨env,⟨b+m,bl⟩,ms⟩ a w->(∀t∈R,μ (b+t.k)=none)->wpAnyIn Y.F 0 P .any ops Q fuel listed a w
 |fuel,R,listed,a,w,ι,μ,env,bl,hl,hG,hrun,hR,hfr=>by
  rcases Decidable.em (R=[]) with Gr|Gr
  ·subst Gr
   have hle:=hG.le
   have hf:fuel=ops.size - m:=by simpa using hl
   rw [hf]
   refine x9 fe uj (ops.size - m) m (Nat.le_refl _) (by omega) hG.sz (fun i hi=>?_) hG.tl hG.Zb (hend _ _ _ _ _ _ hR hrun)
   rcases Bool.eq_false_or_eq_true (listed.getD i true) with h|h
   ·exact h
   ·obtain ⟨t,ht,_⟩:=hG.X4 i hi h;simp at ht
  obtain ⟨fuel,rfl⟩:∃f,fuel=f+1:=⟨fuel - 1,by have:=List.length_pos_iff.2 Gr;omega⟩
  ·refine ⟨fun h0 => ?_, fun i hi => ?_⟩
   ·cases R with
    |nil=>exact absurd rfl Gr
    |cons t R=>have:=As hG fe;rw [h0] at this;simp at this
   ·obtain ⟨h0, o, ho, _⟩ := mem_ready.1 hi
    have him:i<m:=by
     rcases Nat.lt_or_ge i m with h|h
     ·exact h
     ·exfalso
      have FG:=(Array.getElem?_eq_some_iff.1 ho).1
      cases R with
      |nil=>exact Gr rfl
      |cons t R =>
       have SE:=hG.mem t (List.mem_cons_self ..)
       have:=kD hG hi _ (uj i h FG t.k (by omega))
       rw [(vG SE.2.2).1] at this;cases this
    obtain ⟨t,ht,hk⟩:=hG.X4 i him h0
    subst hk
    obtain ⟨L1,L2,rfl⟩:=List.append_of_mem ht
    have hAp:∀x∈L1,NI x t:=fun x hx=>by
     have hp:=(List.pairwise_append.1 hG.x7).2.2 x hx t (List.mem_cons_self ..)
     have hd:=(List.pairwise_append.1 hG.dr).2.2 x hx t (List.mem_cons_self ..)
     have J0:=hG.mem x (List.mem_append_left _ hx)
     have SE:=hG.mem t ht
     have hnot:x.k∉(bQ ops).getD t.k []:=fun h=>by
      have:=kD hG hi _ h
      rw [(vG J0.2.2).1] at this;cases this
     rcases vH vI hp J0.2.1 SE.2.1 with h|h
     ·exact absurd h hnot
     ·rcases hd with h' | h'
      ·exact absurd h' hnot
      ·exact ⟨h,h'.1,h'.2⟩
    obtain ⟨Dx,TA⟩:=pull hF hAp hrun
    have SE:=hG.mem t ht
    have hit:=(mg Dl).2 t.k o t.it (by simpa using ho) SE.2.1
    refine Kf SE.1 ho hit Dx hR (hfr t ht) fun ι' μ' a' w' fy hne=>?_
    have hG':=hG.step hi
    refine Gq uj Dl vI fe hF hend fuel (R:=L1++L2) (by simp at hl ⊢;omega) hG' TA fy fun x hx=>?_
    have hx':x∈L1++t::L2:=((List.Sublist.refl L1).append (List.sublist_cons_self t L2)).subset hx
    have h1:=(hG'.mem x hx).2.2
    have hnk:x.k≠t.k:=fun e=>by
     rw [e] at h1
     have:t.k<listed.size:=by rw [hG.sz];have:=hG.le;omega
     simp [this] at h1
    rw [hne _ (by omega)];exact hfr x hx'
theorem uk {ar : Ar} {b : Nat} {F G : List (Nat × V) → aj → Prop} (h : ∀ e bl, F e bl → G e bl) : ∀ {ts : List TR} {env : List (Nat × V)} {bl : aj}, pY ar b ts env bl F → pY ar b ts env bl G
 |[],_,_,hr=>h _ _ hr
 |_::_,_,_,hr=>⟨hr.1,uk h hr.2⟩
theorem yb {ar : Ar} {b : Nat} {p : Prop} {F : List (Nat × V) → aj → Prop} : ∀ {ts : List TR} {env : List (Nat × V)} {bl : aj}, pY ar b ts env bl (fun e bl => p ∧ F e bl) → p ∧ pY ar b ts env bl F
 |[],_,_,hr=>hr
 |_::_,_,_,hr=>let ⟨h1,h2⟩:=yb hr.2;⟨h1,hr.1,h2⟩
theorem At {f:Nat} {vs:List V} {Q Q':V->aK->Prop} (h:eI P f vs H Q) (hq:∀v H,Q v H->Q' v H):eI P f vs H Q' :=
 ⟨h.1,fun Y ι μ w as hI hr=>(h.2 Y ι μ w as hI hr).mono fun e w' ⟨v,ι',μ',r,H',h1,h2,h3,h4,h5,h6⟩=>⟨v,ι',μ',r,H',h1,h2,h3,h4,h5,hq _ _ h6⟩⟩
theorem Kg (hm:P.follows .mixedOrders=true):BR P N out base:=by
 intro id ops xd J6 Dl vI fe hl S K hK Y ι μ a w ho hb hR
 refine wpIn_region_any hm ?_
 obtain ⟨ts,h1,h2,h3⟩:=ja hK
 simp only [List.nil_append] at h3
 obtain ⟨OK,hrun⟩:=yb h3
 replace OK:=FD OK
 have hlen:xd.length+J6.length=ops.size:=by simpa using (mg Dl).1
 have htl:ts.length=xd.length:=by rw [<-h1];simp
 have hk:∀(j:Nat) t,ts[j]?=some t->t.k=j/\(xd++J6)[j]?=some t.it/\j<xd.length:=fun j t ht=>by
  have hj:=(List.getElem?_eq_some_iff.1 ht).1
  refine ⟨?_,?_,by omega⟩
  ·have : (ts.map (·.k))[j]? = some t.k := by simp [ht]
   rw [h2,List.getElem?_range' (by omega)] at this
   simpa using this.symm
  ·rw [List.getElem?_append_left (by omega),<-h1];simp [ht]
 let F:List (Nat×V)->aj->Prop:=fun env bl=>∃rO mh,Fc rO env/\OY mh bl/\ef (fY P N out base) J6 ⟨rO,⟨S.H.next+xd.length,mh⟩,S.ms⟩ K
 have hF:vB F:=fun env env' bl bG he tn ⟨e0,b0,q1,q2,q3⟩=>⟨e0,b0,q1.trans he,fun i=>(q2 i).trans (tn i),q3⟩
 have pV:∀{ι' μ' env bl rO mh a' w'},iH P N Y ι' μ' ⟨env,⟨S.H.next+xd.length,bl⟩,S.ms⟩ a' w'->Fc rO env->OY mh bl->iH P N Y ι' μ' ⟨rO,⟨S.H.next+xd.length,mh⟩,S.ms⟩ a' w':=fun fy q1 q2 =>
  ⟨fun t=>by rw [q1 t];exact fy.env t,fy.sz,fy.inv.Y9 q2,fy.ms⟩
 have hfl:ops.size=ts.length+(ops.size - xd.length):=by omega
 have Zd:eA P N ops (ops.toList.drop xd.length)=some J6:=by
  have:=x8 (k:=xd.length) Dl
  rwa [List.drop_left' rfl] at this
 refine Gq (out:=out) (base:=base) (b:=S.H.next) (ms:=S.ms) (F:=F) (fun i hi hi2=>hl i hi (by omega)) Dl vI fe hF (fun ι' μ' env bl a' w' fy hf=>?_) ops.size (R:=ts) (ι:=ι) (μ:=μ) (env:=S.env) (bl:=S.H.bl) hfl ?_ ?_ ?_ ?_
 ·obtain ⟨e0, b0, q1, q2, q3⟩ := hf
  have h:=xY (Y:=Y) (os:=ops.toList.drop xd.length) (Q:=Post P N Y fun e S=>match e with | .normal=>K S|_=>False) (K:=K) (out:=out) (base:=base) (fun ι μ S a w hR hK=>Post.of (e':=.normal) hR rfl hK) (k:=xd.length) Zd (fun j=>by
   rw [List.getElem?_drop];simp) (pV fy q1 q2) q3
  rwa [List.length_drop,Array.length_toList] at h
 ·refine ⟨by simp, fun t ht => ?_, fun i hi SD => ?_, ?_, me OK, fun i hi => ?_, by omega, fun i hi hi2 => by simp [hi2]⟩
  ·obtain ⟨j, hj⟩ := List.getElem?_of_mem ht
   obtain ⟨e1,e2,e3⟩:=hk j t hj
   subst e1
   exact ⟨e3,e2,by simp [show t.k<ops.size by omega]⟩
  ·have : i < ts.length := by omega
   refine ⟨ts[i],List.getElem_mem this,(hk i _ (by simp)).1⟩
  ·have h4 : (ts.map (·.k)).Pairwise (· < ·) := by rw [h2]; exact List.pairwise_lt_range'
   exact List.pairwise_map.1 h4
  ·exfalso
   rcases Nat.lt_or_ge i ops.size with h|h<;>simp [h] at hi
 ·refine uk (fun e bl h => ?_) hrun
  exact ⟨e,bl,fun _=>rfl,fun _=>rfl,h⟩
 ·exact ⟨hR.env,hR.sz,(hR.inv.Du (by omega)).drawn,hR.ms⟩
 ·intro t ht
  exact hR.inv.nx _ (by omega)
theorem Kh (hm:P.follows .mixedOrders=true):BS P N out base:=fun id ops is c e _ _ _ h=>by cases h
theorem ot (hm:P.follows .mixedOrders=true):lZ P N out base:=⟨Kg hm,Kh hm⟩
end
end Go.AM
end
section
namespace Go.AM
section
variable {P:Program} {N:Nat} {Y:Ctx} {ι ι':aA} {μ μ':Mu} {H:aK} {w w':World} {out:Option Nat} {base:Nat}
theorem Ki {func:Func} {fn:Fn} (jA:cD P func=some fn):FB P func.results.toList=some fn.res:=by
 unfold cD at jA
 split at jA<;>try (cases jA;done)
 split at jA<;>try (cases jA;done)
 rename_i X2
 split at jA<;>try (cases jA;done)
 cases jA;exact X2
theorem Inv.down (h:Inv P Y ι μ H w) (ro:Option Nat):Inv P ⟨Y.w0,ι,μ,ro,Y.x,[]⟩ ι μ H w :=
 ⟨h.below,aA.le_refl _,fun _ _ _ _=>rfl,h.rd,Mu.le_refl _,h.nx,h.live,h.inj,h.lt,h.jL⟩
theorem Inv.up {ro:Option Nat} {H':aK} (h0:Inv P Y ι μ H w) (h:Inv P ⟨Y.w0,ι,μ,ro,Y.x,[]⟩ ι' μ' H' w'):Inv P Y ι' μ' H' w'/\ι.le ι'/\μ.le μ' :=
 ⟨⟨h.below,aA.le_trans h0.i0 h.i0,fun b o hb hx=>(h.iB b o hb hx).trans (h0.iB b o hb hx),h.rd,Mu.le_trans h0.m0 h.m0,h.nx,h.live,h.inj,h.lt,h0.gl⟩,h.i0,h.m0⟩
theorem rP {f : Nat} {func : Func} {fn : Fn} (hf : P.funcs[f]? = some func) (jA : cD P func = some fn) (fc : fI P f) (gL : lZ P fn.N none H.next) {vs : List V} {Q : V → aK → Prop} (hlen : vs.length ≤ fn.np)
  (h:pU (fY P fn.N none H.next) fn.body ⟨args 0 vs,H,[]⟩ (vz fn.res fn.tys Q)):eI P f vs H Q:=by
 refine ⟨fc,fun Y ι μ w as hI hr=>?_⟩
 refine BU (Y:=⟨Y.w0,ι,μ,none,Y.x,[]⟩) hf jA gL hlen h rfl rfl (fun id hid=>hI.nx id hid) (hI.down none) hr fun Y1 ι' μ' S' a' w' e' hY hR hq=>?_
 have key:vz.mb fn.res fn.tys Q S'->LeavesInM Fence.wide 0 P func a'.tmps (Gb P Y ι μ Q) a'.defers .returning w':=by
  intro hs
  unfold vz.mb at hs
  split at hs<;>try (exact hs.elim)
  rename_i bl tn
  split at hs<;>try (exact hs.elim)
  rename_i vs' hvs
  refine oe (Ki jA) (n:=S'.H.next) (bl:=S'.H.bl) hY rfl hR.inv hR.env hR.ms tn hvs fun x w2 lV hx=>?_
  obtain ⟨h1,h2,h3⟩:=hI.up lV
  exact ⟨x,ι',μ',_,_,rfl,h2,h3,h1,hx (XQ fn.tys),hs⟩
 cases e' with
 |exit id=>exact hq.elim
 |normal=>exact ⟨.inl rfl,key hq⟩
 |ret=>exact ⟨.inr rfl,key hq⟩
theorem Inv.Dy {bl:aj} {n id:Nat} {L:Loc} {B:js} (h:Inv P Y ι μ ⟨n,bl⟩ w) (hb:aq id bl=some B) (hL:μ id=some L) {o o':Obj} (ho:w.heap[L.b]?=some o) (hnc:∀c e f,o ≠ .cells c e f) (hnm:∀ms c,o ≠ .map ms c) :
  Inv P Y ι μ ⟨n,bH id bl⟩ (w.putObj L.b o'):=by
 have hold:Y.own L.b:=((h.live id _ hb).loc hL).1
 have dj:∀k,k≠L.b->(w.putObj L.b o').heap[k]?=w.heap[k]?:=fun k hk=>World.putObj_heap_other hk
 have hsub:=h.del id
 refine ⟨⟨h.below.os, h.below.tape, h.below.output, by rw [World.putObj_size]; exact h.below.size, fun k hk hx => ?_, h.below.dr, fun k hk => (h.below.maps k hk).trans (by
   by_cases e:k=L.b
   ·subst e;exact .no (fun ms c e=>by rw [ho] at e;cases e;exact hnm _ _ rfl)
   ·exact .eq (dj k e))⟩,h.i0,h.iB,fun b o2 x hx=>?_,h.m0,h.nx,fun i B2 hB=>?_,hsub.inj,hsub.lt,h.gl⟩
 ·rw [dj k (Ctx.jZ hold hk hx)];exact h.below.block k hk hx
 ·have := h.rd b o2 x hx
  have hne:b≠L.b:=fun e=>by
   subst e
   cases o<;>simp [World.cell?,ho] at this
   exact hnc _ _ _ rfl
  unfold World.cell? at this ⊢
  simp only at this ⊢
  rw [dj b hne];exact this
 ·simp only at hB
  rw [bf] at hB
  split at hB
  ·cases hB
  ·rename_i e
   refine (h.live i B2 hB).mono (aA.le_refl _) (Mu.le_refl _) (fun h=>h) (fun L' hL'=>dj _ (fun e'=>e (h.inj i id B2 _ L' L hB hb hL' hL e'))) (fun _ _ h=>h)
def BX (j:Option Ex) (S:St) (K:Ex->St->Prop):Prop:=match j with
 |none=>K .normal S
 |some e=>match e with
  | .normal=>False
  | .exit i=>K (.exit i) S
  | .ret=>K .ret S
def gB (id:Nat) (sh:List Nat) (S:St) (K:Ex->St->Prop) (H:aK):Prop:=match aq id H.bl with
 |some (.loop st j _ _ _ _ _ _)=>match st with
  | .busy=>False
  |_=>match dz sh (bH id H.bl) with
   |some bl=>BX j ⟨S.env,⟨H.next,bl⟩,S.ms⟩ K
   |none=>False
 |_=>False
def O0 (ar:Ar) (N:Nat) (out:Option Nat) (f:O) (ps:List Nat) (as bd:C) (S:St) (K:Ex->St->Prop):Prop :=
 ps.all (Nat.blt · N)=true /\
 match f.ev S.env with
 | .fn fid first cap=>match out with
  | none => S.ms = [] ∧ ar.call fid (first ++ [.yl (S.H.next + 1)] ++ cap) ⟨S.H.next + 2, (S.H.next + 1, .loop .ready none S.H.next S.env ps as bd N) :: (S.H.next, .gi) :: S.H.bl⟩
    fun _ H=>gB (S.H.next+1) [S.H.next] S K H
  |some SF=>match aq SF S.H.bl with
   | some (.loop _ _ d _ _ _ _ _) => ar.call fid (first ++ [.yl S.H.next] ++ cap) ⟨S.H.next + 1, (S.H.next, .loop .ready none d S.env ps as bd N) :: S.H.bl⟩
     fun _ H=>gB S.H.next [] S K H
   |_=>False
 |_=>False
theorem yc {f:O} {ps:List Nat} {as bd:C} {S:St} {K:Ex->St->Prop} (h:O0 (fY P N out base) N out f ps as bd S K):(fY P N out base).cA f ps as bd S K:=by
 intro fo zE ao bo hfo hps hao hbo Y ι μ a w ho hb hR
 obtain ⟨hpN,h⟩:=h
 have rf:=aD hR.env hfo
 have hnc:∀(r:Loop) c e f,Obj.loop r ≠ .cells c e f:=fun r c e f=>by intro h;cases h
 split at h
 ·rename_i fid fs cs kY
  rw [kY] at rf
  generalize hg:a.eval fo=fv at rf
  cases rf with
  |fn _ _ _ xs ys h1 h2 h3 h4 =>
   have r1:aG ι μ fs xs.toList:=⟨by simpa using h1,fun i v x hv hx=>h2 i v x hv (by simpa using hx)⟩
   have r2:aG ι μ cs ys.toList:=⟨by simpa using h3,fun i v x hv hx=>h4 i v x hv (by simpa using hx)⟩
   -- behind the call
   have fin:∀{aF:Nat} {L:Loc} {sh ms':List Nat} {ds':List Deferred} {μ1:Mu},μ.le μ1->μ1 aF=some L->jz Y.hid μ1 ms' ds'->((sh=[]/\ms'=S.ms)\/∃i,sh=[i]/\ms'=[i]/\S.ms=[]/\Y.ro=none) ->
     ∀e w',Gb P Y ι μ1 (fun _ H=>gB aF sh S K H) e w' ->
     rangePost Y.F 0 P L.b (Post P N Y K) { a with defers:=ds' } e w':=fun {aF L sh ms' ds' μ1} jM hL hmk hsh e w' he=>by
    obtain ⟨v,ι',μ',r,H',rfl,hi,hm,hinv,hv,hq⟩:=he
    unfold gB at hq
    split at hq<;>try (exact hq.elim)
    rename_i st j d env' ps' as' NJ N' tn
    obtain ⟨L',r',Ld,q1,q2,q3,q4,q5,q6,q7,q8,q9,TB,TC,TD,TE⟩:=hinv.live _ _ tn
    rw [hm _ _ hL] at q1;cases q1
    have hst:r'.state ≠ .busy:=by rw [q4];cases st<;>simp [YA] at hq ⊢
    have hinv':=hinv.Dy (o':=.loop { r' with state:=.exhausted }) tn (hm _ _ hL) q3 (hnc r') (fun _ _ e=>by cases e)
    have NK:iH P N Y ι' μ' ⟨S.env,⟨H'.next,bH aF H'.bl⟩,ms'⟩ { a with defers:=ds' } (w'.putObj L.b (.loop { r' with state:=.exhausted })) :=
     ⟨hR.env.mono hi (Mu.le_trans jM hm),hR.sz,hinv',hmk.mono hm⟩
    have NL:∃bl,dz sh (bH aF H'.bl)=some bl/\BX j ⟨S.env,⟨H'.next,bl⟩,S.ms⟩ K:=by
     cases TF:dz sh (bH aF H'.bl) with
     |none=>rw [TF] at hq;cases st<;>exact hq.elim
     |some bl=>rw [TF] at hq;exact ⟨bl,rfl,by cases st<;>first|exact hq.elim|exact hq⟩
    obtain ⟨bl,Gs,Kj⟩:=NL
    obtain ⟨Y1,TG,pV⟩:∃Y1,Ext P Y Y1/\iH P N Y1 ι' μ' ⟨S.env,⟨H'.next,bl⟩,S.ms⟩ { a with defers:=ds' } (w'.putObj L.b (.loop { r' with state:=.exhausted })):=by
     rcases hsh with ⟨rfl,rfl⟩|⟨i,rfl,rfl,hS,hro⟩
     ·cases Gs;exact ⟨Y,.refl Y,NK⟩
     ·simp only [dz] at Gs
      split at Gs<;>try (cases Gs;done)
      rename_i hb
      cases Gs
      rw [hS]
      exact NK.Dj rfl hb hro
    have hend:=run_endLoop (P:=P) q3 hst
    generalize w'.putObj L.b (.loop { r' with state:=.exhausted })=w4 at pV hend
    refine ⟨r'.pending,w4,hend,?_⟩
    unfold BX at Kj
    cases j with
    |none=>simp only [xC] at q5;rw [q5];exact .YX (e':=.normal) TG pV rfl Kj
    |some e =>
     cases e with
     |normal=>exact Kj.elim
     |exit i=>simp only [xC] at q5;rw [q5];exact wpIn_exit (.YX (e':=.exit i) TG pV rfl Kj)
     |ret=>simp only [xC] at q5;rw [q5];exact wpIn_ret (.YX (e':=.ret) TG pV rfl Kj)
   have TH:∀p∈ps,p<N:=fun p hp=>by have:=List.all_eq_true.1 hpN p hp;simpa using this
   cases out with
   |none =>
    simp only at h
    have hro:Y.ro=none:=ho
    obtain ⟨TI,fc,eH⟩:=h
    let Ld:Loc:=⟨w.heap.size,0,0,0⟩
    let L:Loc:=⟨w.heap.size+1,0,0,0⟩
    have hn0:=hR.inv.nx S.H.next (Nat.le_refl _)
    have TJ:=Mu.gF (L:=Ld) hn0
    have ON:=hR.inv.lay hn0 (L:=Ld) (o:=.deferred (some [])) (b:=.gi) rfl ⟨Ld,by simp [Mu.set],.inl hR.inv.below.size,by show (w.heap.push _)[w.heap.size]?=_;simp⟩
    have TK:(w.alloc (.deferred (some []))).heap.size=w.heap.size+1:=World.size_alloc _ _
    have NA:(μ.set S.H.next Ld) (S.H.next+1)=none:=by simp only [Mu.set];rw [if_neg (by omega)];exact hR.inv.nx _ (by omega)
    have TL:=Mu.gF (L:=L) NA
    have O1 : ∀ fn : Nat, Inv P Y ι ((μ.set S.H.next Ld).set (S.H.next + 1) L) ⟨S.H.next + 2, (S.H.next + 1, .loop .ready none S.H.next S.env ps as bd N) :: (S.H.next, .gi) :: S.H.bl⟩
      ((w.alloc (.deferred (some []))).alloc (.loop { state:=.ready,pending:=none,fn:=fn,tmps:=a.tmps,params:=zE,assign:=ao,body:=bo,defers:=w.heap.size })):=fun fn=>by
     have lV := ON.lay NA (L := L) (o := .loop { state := .ready, pending := none, fn := fn, tmps := a.tmps, params := zE, assign := ao, body := bo, defers := w.heap.size })
      (b:=.loop .ready none S.H.next S.env ps as bd N) (by simp [L,TK]) ⟨L,{ state:=.ready,pending:=none,fn:=fn,tmps:=a.tmps,params:=zE,assign:=ao,body:=bo,defers:=w.heap.size },Ld,by simp [Mu.set],.inl (by have:=hR.inv.below.size;simp only [L];omega),by
       have:=World.alloc_heap_new (w.alloc (.deferred (some []))) (.loop { state:=.ready,pending:=none,fn:=fn,tmps:=a.tmps,params:=zE,assign:=ao,body:=bo,defers:=w.heap.size })
       rw [TK] at this;exact this,rfl,rfl,hR.env.mono (aA.le_refl _) (Mu.le_trans TJ TL),hps,hR.sz,TH,hao,hbo,by simp [Mu.set],rfl⟩
     refine lV.congr (fun id=>?_) (by simp only;omega)
     rw [aU,aS]
     by_cases e:S.H.next+1=id
     ·subst e;simp
     ·rw [if_neg e, if_neg (fun e' => e e'.symm), aU, aS]
      by_cases e2:S.H.next=id
      ·subst e2;simp
      ·rw [if_neg e2,if_neg (fun e'=>e2 e'.symm)]
    have tB:=Mu.le_trans TJ TL
    have hLd:((μ.set S.H.next Ld).set (S.H.next+1) L) S.H.next=some Ld:=by simp [Mu.set]
    have hL:((μ.set S.H.next Ld).set (S.H.next+1) L) (S.H.next+1)=some L:=by simp [Mu.set]
    refine wpIn_rangeFunc fun fn _=>?_
    have yd:=O1 fn
    obtain ⟨W,hW⟩:∃W,W=(w.alloc (.deferred (some []))).alloc (.loop { state:=.ready,pending:=none,fn:=fn,tmps:=a.tmps,params:=zE,assign:=ao,body:=bo,defers:=w.heap.size }):=⟨_,rfl⟩
    rw [<-hW] at yd
    refine ⟨w.heap.size+1,[{ target:=.collected w.heap.size,args:=#[] }],W,{ target:=.fn (.func fid) ys,args:=xs++#[.func (.yield (w.heap.size+1)) #[] #[]] },W,fid,
     (xs++#[.func (.yield (w.heap.size+1)) #[] #[]])++ys,W,?_,?_,fun _ _=>trivial,?_,fun h=>by simp [Ctx.F,Fence.wide] at h,?_⟩
    ·show (Instr.enterLoop fn a.tmps zE ao bo Y.ro).run P w = _
     rw [hro,hW];exact run_enterLoop_outer _ _ _ _ _
    ·have e1 : ∀ v, a.eval (.const v) = v := fun _ => rfl
     simp [resolve,hg,Deferred.ofValue,e1]
    ·have := fc ((xs ++ #[Value.func (Fn.yield (w.heap.size + 1)) #[] #[]]) ++ ys) W
     simpa [invoke] using this
    ·have rl:aG ι ((μ.set S.H.next Ld).set (S.H.next+1) L) (fs++[.yl (S.H.next+1)]++cs) ((xs++#[Value.func (Fn.yield (w.heap.size+1)) #[] #[]])++ys).toList:=by
      have q1:=r1.mono (aA.le_refl _) tB
      have q2:=r2.mono (aA.le_refl _) tB
      have:=(q1.append (.cons (.yl _ L hL) .nil)).append q2
      simpa using this
     refine CallsIn.mono (F:=Y.F) (eH Y ι _ _ _ yd rl) fun e w' he=>?_
     exact fin (L:=L) (aF:=S.H.next+1) (sh:=[S.H.next]) (ms':=[S.H.next]) (ds':={ target:=.collected w.heap.size,args:=#[] }::a.defers) tB hL ⟨Ld,_,a.defers,rfl,hLd,rfl,by have:=hR.ms;rw [TI] at this;exact this⟩ (.inr ⟨_,rfl,rfl,TI,hro⟩) e w' he
   |some SF =>
    simp only at h
    obtain ⟨L0,hm0,hro⟩:=ho
    split at h<;>try (exact h.elim)
    rename_i m5 j0 d0 rO ps0 as0 Gu N0 hb0
    obtain ⟨fc,eH⟩:=h
    obtain ⟨L0',r0,Ld,q1,q2,q3,q4,q5,q6,q7,q8,q9,TB,TC,TD,TE⟩:=hR.inv.live _ _ hb0
    rw [hR.inv.m0 _ _ hm0] at q1;cases q1
    let L:Loc:=⟨w.heap.size,0,0,0⟩
    have hn0:=hR.inv.nx S.H.next (Nat.le_refl _)
    have tB:=Mu.gF (L:=L) hn0
    have O1 : ∀ fn : Nat, Inv P Y ι (μ.set S.H.next L) ⟨S.H.next + 1, (S.H.next, .loop .ready none d0 S.env ps as bd N) :: S.H.bl⟩
      (w.alloc (.loop { state:=.ready,pending:=none,fn:=fn,tmps:=a.tmps,params:=zE,assign:=ao,body:=bo,defers:=r0.defers })):=fun fn=>by
     have lV := hR.inv.lay hn0 (L := L) (o := .loop { state := .ready, pending := none, fn := fn, tmps := a.tmps, params := zE, assign := ao, body := bo, defers := r0.defers })
      (b:=.loop .ready none d0 S.env ps as bd N) rfl ⟨L,{ state:=.ready,pending:=none,fn:=fn,tmps:=a.tmps,params:=zE,assign:=ao,body:=bo,defers:=r0.defers },Ld,by simp [Mu.set],.inl hR.inv.below.size,by
       show (w.heap.push _)[w.heap.size]?=_
       simp,rfl,rfl,hR.env.mono (aA.le_refl _) tB,hps,hR.sz,TH,hao,hbo,tB _ _ TD,TE⟩
     refine lV.congr (fun id=>?_) (by simp only;omega)
     rw [aU,aS]
     by_cases e:S.H.next=id
     ·subst e;simp
     ·rw [if_neg e,if_neg (fun e'=>e e'.symm)]
    have hL:(μ.set S.H.next L) S.H.next=some L:=by simp [Mu.set]
    refine wpIn_rangeFunc fun fn _=>?_
    have yd:=O1 fn
    obtain ⟨W,hW⟩:∃W,W=w.alloc (.loop { state:=.ready,pending:=none,fn:=fn,tmps:=a.tmps,params:=zE,assign:=ao,body:=bo,defers:=r0.defers }):=⟨_,rfl⟩
    rw [<-hW] at yd
    refine ⟨w.heap.size,[],W,{ target:=.fn (.func fid) ys,args:=xs++#[.func (.yield w.heap.size) #[] #[]] },W,fid,
     (xs++#[.func (.yield w.heap.size) #[] #[]])++ys,W,?_,?_,fun _ _=>trivial,?_,fun h=>by simp [Ctx.F,Fence.wide] at h,?_⟩
    ·show (Instr.enterLoop fn a.tmps zE ao bo Y.ro).run P w = _
     rw [hro,hW];exact run_enterLoop_inner q3 _ _ _ _ _
    ·have e1 : ∀ v, a.eval (.const v) = v := fun _ => rfl
     simp [resolve,hg,Deferred.ofValue,e1]
    ·have := fc ((xs ++ #[Value.func (Fn.yield w.heap.size) #[] #[]]) ++ ys) W
     simpa [invoke] using this
    ·have rl:aG ι (μ.set S.H.next L) (fs++[.yl S.H.next]++cs) ((xs++#[Value.func (Fn.yield w.heap.size) #[] #[]])++ys).toList:=by
      have q1:=r1.mono (aA.le_refl _) tB
      have q2:=r2.mono (aA.le_refl _) tB
      have:=(q1.append (.cons (.yl _ L hL) .nil)).append q2
      simpa using this
     refine CallsIn.mono (F:=Y.F) (eH Y ι _ _ _ yd rl) fun e w' he=>?_
     exact fin (L:=L) (aF:=S.H.next) (sh:=[]) tB hL (hR.ms.mono tB) (.inl ⟨rfl,rfl⟩) e w' he
 ·exact h.elim
end
end Go.AM
end
section
namespace Go.AM
def pF : List Nat → List V → List (Nat × V) → List (Nat × V)
  |p::ps,v::vs,env=>pF ps vs (u7 p v env)
  |_,_,env=>env
def m7 (id:Nat) (Q:V->aK->Prop) (e:Ex) (S:St):Prop:=match aq id S.H.bl with
  |some (.loop .busy _ d env ps as bd N)=>match e with
    | .normal=>Q (.tf true) ⟨S.H.next,(id,.loop .ready none d env ps as bd N)::bH id S.H.bl⟩
    | .exit i=>Q (.tf false) ⟨S.H.next,(id,.loop .done (some (.exit i)) d env ps as bd N)::bH id S.H.bl⟩
    | .ret=>Q (.tf false) ⟨S.H.next,(id,.loop .done (some .ret) d env ps as bd N)::bH id S.H.bl⟩
  |_=>False
def Au (ar:Nat->Ar) (id:Nat) (vs:List V) (H:aK) (Q:V->aK->Prop):Prop:=match aq id H.bl with
  |some (.loop .ready none d env ps as bd N)=>vs.length=ps.length/\pU (ar N) as ⟨pF ps vs env,H,[]⟩ fun e S=>match e with
    | .normal=>match aq id S.H.bl with
      |some (.loop .ready none d' env' ps' as' NJ N')=>pU (ar N) bd ⟨S.env,⟨S.H.next,(id,.loop .busy none d' env' ps' as' NJ N')::bH id S.H.bl⟩,S.ms⟩ (m7 id Q)
      |_=>False
    |_=>False
  |_=>False
section
variable {P:Program} {N:Nat} {Y:Ctx} {ι ι':aA} {μ μ':Mu} {H:aK} {w w':World} {out:Option Nat} {base:Nat}
theorem um:∀{ps:List Nat} {vs:List V} {args:List Value} {env:List (Nat×V)} {tmps:Array Value},aG ι μ vs args->(∀p∈ps,p<N)->tmps.size=N->fG ι μ env tmps ->
    fG ι μ (pF ps vs env) ((ps.zip args).foldl (fun t (p,v)=>t.setIfInBounds p v) tmps)/\((ps.zip args).foldl (fun (t:Array Value) (p,v)=>t.setIfInBounds p v) tmps).size=N
  |[],vs,args,env,tmps,hr,hp,hs,he=>by simp only [pF,List.zip_nil_left,List.foldl_nil];exact ⟨he,hs⟩
  |p::ps,[],args,env,tmps,hr,hp,hs,he=>by rw [hr.of_nil];simp only [pF,List.zip_nil_right,List.foldl_nil];exact ⟨he,hs⟩
  |p::ps,v::vs,args,env,tmps,hr,hp,hs,he=>by
    obtain ⟨x,r,rfl,h1,h2⟩:=hr.bF
    simp only [pF,List.zip_cons_cons,List.foldl_cons]
    refine um h2 (fun q hq=>hp q (List.mem_cons_of_mem _ hq)) (by simp [hs]) fun t=>?_
    have hd':p<N:=hp p (List.mem_cons_self ..)
    rw [iU]
    by_cases h:p=t
    · subst h
      rw [if_pos rfl]
      have:(tmps.setIfInBounds p x).getD p undef=x:=by simp [Array.getD,hs,hd']
      rw [this];exact h1
    · rw [if_neg h]
      have:(tmps.setIfInBounds p x).getD t undef=tmps.getD t undef:=by
        simp only [Array.getD_eq_getD_getElem?]
        rw [Array.getElem?_setIfInBounds_ne h]
      rw [this];exact he t
theorem Dz {id:Nat} {vs:List V} {Q:V->aK->Prop} (gL:∀N,lZ P N (some id) H.next) (h:Au (fun N=>fY P N (some id) H.next) id vs H Q):around P id vs H Q:=by
  intro Y ι μ w args L hI hr hL
  unfold Au at h
  split at h<;>try (exact h.elim)
  rename_i d env ps as bd N hb
  obtain ⟨hlen,h⟩:=h
  obtain ⟨L',r,Ld,q1,q2,q3,q4,q5,q6,q7,q8,q9,TB,TC,TD,TE⟩:=hI.live _ _ hb
  rw [hL] at q1;cases q1
  have hnc:∀(r:Loop) c e f,Obj.loop r ≠ .cells c e f:=fun r c e f=>by intro h;cases h
  have hsize : args.size = r.params.size := by have h1 := hr.1; have h2 : r.params.toList.length = ps.length := by rw [q7]
                                               simp at h1 h2;omega
  refine ⟨r.fn,_,r.assign,r.body,w,run_yield q3 hsize,roundIn_of_wpIn trivial ?_⟩
  let Y':Ctx:=⟨Y.w0,ι,μ,some L.b,Y.x,[]⟩
  obtain ⟨he1,he2⟩:=um (env:=env) hr q9 q8 q6
  have TM:(r.params.zip args).foldl (fun tmps (x:Tmp×Value)=>tmps.setIfInBounds x.1 x.2) r.tmps=(ps.zip args.toList).foldl (fun (t:Array Value) (p,v)=>t.setIfInBounds p v) r.tmps:=by
    rw [<-Array.foldl_toList,Array.toList_zip,q7]
  have hR:iH P N Y' ι μ ⟨pF ps vs env,H,[]⟩ { tmps:=(r.params.zip args).foldl (fun tmps (x:Tmp×Value)=>tmps.setIfInBounds x.1 x.2) r.tmps,defers:=[] } w :=
    ⟨by rw [TM];exact he1,by rw [TM];exact he2,hI.down _,rfl⟩
  have hbase:Y'.base H.next:=fun id hid=>hI.nx id hid
  have hout:xW Y' (some id):=⟨L,hL,rfl⟩
  refine wpIn_mono (iY (gL N) r.assign TB h Y' ι μ _ w hout hbase hR) fun e a1 w1 hp=>?_
  obtain ⟨Y1,TG,ι1,μ1,S1,e1,SG,hx1,NL⟩:=hp
  have:=TG.same (by simp [Y'])
  subst this
  cases e1 with
  |exit i=>exact NL.elim
  |ret=>exact NL.elim
  |normal =>
    cases hx1
    simp only at NL
    split at NL<;>try (exact NL.elim)
    rename_i d1 TN ps1 as1 bd1 N1 jv
    obtain ⟨L1,r1,Ld1,p1,p2,p3,p4,p5,p6,p7,p8,p9,p10,p11,p12,p13⟩:=SG.inv.live _ _ jv
    have OQ:μ1 id=some L:=SG.inv.m0 _ _ hL
    rw [OQ] at p1;cases p1
    refine ⟨_,run_beginRound p3 p4,?_⟩
    have Ze:L.b<w1.heap.size:=(Array.getElem?_eq_some_iff.1 p3).1
    have lV := SG.inv.BK (o' := .loop { r1 with state := .busy }) (B' := .loop .busy none d1 TN ps1 as1 bd1 N1) jv OQ p3 (hnc _) (fun _ _ e => by cases e)
      ⟨L,{ r1 with state:=.busy },Ld1,OQ,p2,World.putObj_heap_same Ze,rfl,p5,p6,p7,p8,p9,p10,p11,p12,p13⟩
    have w9:iH P N Y' ι1 μ1 ⟨S1.env,⟨S1.H.next,(id,.loop .busy none d1 TN ps1 as1 bd1 N1)::bH id S1.H.bl⟩,S1.ms⟩ a1 (w1.putObj L.b (.loop { r1 with state:=.busy })):=⟨SG.env,SG.sz,lV,SG.ms⟩
    refine wpIn_mono (iY (gL N) r.body TC NL Y' ι1 μ1 _ _ hout hbase w9) fun e a3 w3 hp=>?_
    obtain ⟨Y3,hY3,ι3,μ3,S3,e3,Zf,Zg,SH⟩:=hp
    have:=hY3.same (by simp [Y'])
    subst this
    unfold m7 at SH
    split at SH<;>try (exact SH.elim)
    rename_i j3 d3 TO ps3 as3 bd3 N3 BJ
    obtain ⟨L3,r3,Ld3,s1,s2,s3,s4,s5,s6,s7,s8,s9,s10,s11,s12,s13⟩:=Zf.inv.live _ _ BJ
    have Zh:μ3 id=some L:=Zf.inv.m0 _ _ hL
    rw [Zh] at s1;cases s1
    have O2:L.b<w3.heap.size:=(Array.getElem?_eq_some_iff.1 s3).1
    have fin:∀(jump:Option Code) (st:lR) (j:Option Ex) (v:V),YA st=(if jump.isNone then .ready else .done)->xC j jump->v = .tf jump.isNone->Q v ⟨S3.H.next,(id,.loop st j d3 TO ps3 as3 bd3 N3)::bH id S3.H.bl⟩ ->
        ∃v w',(Instr.endRound L.b jump).run P w3 = .ok v w'/\Gb P Y ι μ Q (.returned v) w':=fun jump st j v h1 h2 h3 h4=>by
      have hI4 := Zf.inv.BK (o' := .loop { r3 with state := if jump.isNone then .ready else .done, pending := jump }) (B' := .loop st j d3 TO ps3 as3 bd3 N3) BJ Zh s3 (hnc _) (fun _ _ e => by cases e)
        ⟨L,{ r3 with state:=if jump.isNone then .ready else .done,pending:=jump },Ld3,Zh,s2,World.putObj_heap_same O2,h1.symm,h2,s6,s7,s8,s9,s10,s11,s12,s13⟩
      obtain ⟨u1,u2,u3⟩:=hI.up hI4
      subst h3
      exact ⟨_,_,run_endRound jump s3,_,ι3,μ3,_,_,rfl,u2,u3,u1,.tf _,h4⟩
    cases e3 with
    |normal=>cases Zg;exact fin none .ready none _ rfl rfl rfl SH
    |exit i=>cases Zg;exact fin (some (.exit i)) .done (some (.exit i)) _ rfl rfl rfl SH
    |ret=>cases Zg;exact fin (some .ret) .done (some .ret) _ rfl rfl rfl SH
end
end Go.AM
end
section
namespace Go.AM
section
variable {c1 : Nat → List V → aK → (V → aK → Prop) → Prop} {c2 : Nat → List V → V → Prop} {c3 : C → St → (Ex → St → Prop) → Prop}
 {c4:Nat->List V->aK->(V->aK->Prop)->Prop} {c5:O->List Nat->C->C->St->(Ex->St->Prop)->Prop} {c6:C->St->(Ex->St->Prop)->Prop} {c7:GC} {bl:aj}
theorem gu : ∀ {t : Ty} {bl : aj} {vs : List V}, bk (aZ c1 c2 c3 c4 c5 c6 c7) bl t vs = bk bL bl t vs
 | .unit,bl,vs=>by simp only [bk]
 | .prod a b,bl,vs=>by simp only [bk,gu (t:=a),gu (t:=b)]
 | .bool,_,[]=>rfl
 | .str,_,[]=>rfl
 | .int _,_,[]=>rfl
 | .list _,_,[]=>rfl
 | .cn _ _ _,_,[]=>rfl
 | .bool,_,c::cs=>by cases c<;>rfl
 | .str,_,c::cs=>by cases c<;>rfl
 | .int k,_,c::cs=>by cases c<;>rfl
 | .list t,_,c::cs=>by cases c<;>rfl
 | .cn d g t,_,c::cs=>by cases c<;>first|rfl|(simp only [bk,gu (t:=t)])
theorem m8 {t : Ty} {bl : aj} : ∀ {n : Nat} {vs : List V}, iQ (aZ c1 c2 c3 c4 c5 c6 c7) bl t n vs = iQ bL bl t n vs
 |0,[]=>rfl
 |0,_::_=>rfl
 |n+1,vs=>by simp only [iQ,gu,m8 (n:=n)]
theorem vJ {t : Ty} {xs : List t.den} : ∀ {n i : Nat}, xq (aZ c1 c2 c3 c4 c5 c6 c7) t xs n i = xq bL t xs n i
 |0,_=>rfl
 |n+1,i=>by simp only [xq,vJ (n:=n)];rfl
theorem ye {t:Ty} {g:Bool} {v:V}:keyOf (aZ c1 c2 c3 c4 c5 c6 c7) t g v=keyOf bL t g v:=by simp only [keyOf,gu]
theorem vK {t : Ty} : ∀ {vs : List V}, nY (aZ c1 c2 c3 c4 c5 c6 c7) bl t vs = nY bL bl t vs
 |[]=>rfl
 |v::r=>by simp only [nY,gu,vK (vs:=r)]
theorem jD : ∀ {t : Ty} {x : t.den} {p : List Bool} {vs : List V}, ck (aZ c1 c2 c3 c4 c5 c6 c7) bl t x p vs = ck bL bl t x p vs
 |t,x,[],vs=>by cases t<;>simp only [ck,gu]
 | .prod a b,x,false::p,vs=>by simp only [ck,jD (t:=a)]
 | .prod a b,x,true::p,vs=>by simp only [ck,jD (t:=b)]
 | .unit,_,_::_,_=>by simp [ck]
 | .bool,_,_::_,_=>by simp [ck]
 | .str,_,_::_,_=>by simp [ck]
 | .int _,_,_::_,_=>by simp [ck]
 | .list _,_,_::_,_=>by simp [ck]
 | .cn _ _ _,_,_::_,_=>by simp [ck]
theorem m9 {t:Ty} {v:V}:elems (aZ c1 c2 c3 c4 c5 c6 c7) bl t v=elems bL bl t v:=by cases v<;>rfl
theorem rQ:∀{ks:List Kd} {xs ys:List V},aI (aZ c1 c2 c3 c4 c5 c6 c7) ks xs ys=aI bL ks xs ys:=by
 intro ks
 induction ks with
 |nil=>intro xs ys;cases xs<;>cases ys<;>rfl
 |cons k ks ih =>
  intro xs ys
  cases xs with
  |nil=>cases k<;>rfl
  |cons x xs =>
   cases ys with
   |nil=>cases k<;>cases x<;>rfl
   |cons y ys=>cases k<;>cases x<;>cases y<;>first|rfl|(simp only [aI,ih];rfl)
theorem rR {mx:Bool} {k:IntKind}:∀{ys:List V} {a:Int},fO (aZ c1 c2 c3 c4 c5 c6 c7) mx k a ys=fO bL mx k a ys:=by
 intro ys
 induction ys with
 |nil=>intro a;rfl
 |cons y ys ih=>intro a;cases y<;>first|rfl|(simp only [fO,ih];rfl)
theorem Gv {e:w8} {vs:List V} {aF:Nat}:iO (aZ c1 c2 c3 c4 c5 c6 c7) e vs bl aF=iO bL e vs bl aF:=by
 cases e<;>first|rfl|(simp only [iO,m9,ye,m8];done)|(simp only [iO,m9,ye,m8];rfl)
theorem rS {f g : Nat → Option V} (h : ∀ n, f n = g n) : ∀ ns, u5 f ns = u5 g ns
 |[]=>rfl
 |n::r=>by simp only [u5,h n,rS h r]
theorem Kk {vs:List V} {j:Int}:Fs (aZ c1 c2 c3 c4 c5 c6 c7) vs j=Fs bL vs j:=rfl
theorem vL {cs : List V} : ∀ {l : List (Nat × Nat × Int)} {o : Nat}, xw (aZ c1 c2 c3 c4 c5 c6 c7) cs l o = xw bL cs l o
 |[],o=>rfl
 |(dw,len,j)::r,o=>by simp only [xw,rS (fun n=>vL (l:=r) (o:=o+n * dw)),Kk]
theorem Gw {i:I} {env:List (Nat×V)} {aF:Nat}:cg (aZ c1 c2 c3 c4 c5 c6 c7) i env bl aF=cg bL i env bl aF:=by
 cases i<;>first|rfl|(simp only [cg,vK,jD,m9,rQ,rR,Gv,m8,vJ,vL];done)|(simp only [cg,vK,jD,m9,rQ,rR,Gv,m8,vJ,vL];rfl)
theorem Gx {i:I} {env:List (Nat×V)} {aF:Nat}:tg (aZ c1 c2 c3 c4 c5 c6 c7) i env bl aF=tg bL i env bl aF:=by
 cases i<;>first|rfl|(simp only [tg,jD,gu];done)|(simp only [tg,jD,gu];rfl)
theorem O3 {id:Nat}:Sr (aZ c1 c2 c3 c4 c5 c6 c7) id bl=Sr bL id bl:=by
 unfold Sr
 split
 ·simp only [jD];rfl
 ·rfl
end
theorem Gy {c1 : Nat → List V → aK → (V → aK → Prop) → Prop} {c2 : Nat → List V → V → Prop} {c3 : C → St → (Ex → St → Prop) → Prop}
  {c4:Nat->List V->aK->(V->aK->Prop)->Prop} {c5:O->List Nat->C->C->St->(Ex->St->Prop)->Prop} {c6:C->St->(Ex->St->Prop)->Prop} {c7:GC}:∀{ids:List Nat} {bl:aj},E2 (aZ c1 c2 c3 c4 c5 c6 c7) ids bl=E2 bL ids bl
 |[],_=>rfl
 |id::r,bl=>by simp only [E2,O3,Gy (ids:=r)]
def TP (ar:Ar) (x:O) (env:List (Nat×V)) (bl:aj) (aF:Nat):Out:=some ([],x.ev env,[])
def Kl (ar:Ar) (c:O) (a:O) (b:O) (env:List (Nat×V)) (bl:aj) (aF:Nat):Out :=
  match c.ev env with
  | .tf true=>some ([],a.ev env,[])
  | .tf false=>some ([],b.ev env,[])
  | .bool c=>match C9 (a.ev env),C9 (b.ev env) with
   |some x,some y=>some ([],.bool (ar.C8 c x y),[])
   |_,_=>none
  |_=>none
def Gz (ar:Ar) (z:List V) (env:List (Nat×V)) (bl:aj) (aF:Nat):Out:=some ([],.ptr aF 0,[(aF,some (.cells z false))])
def O4 (ar:Ar) (x:O) (env:List (Nat×V)) (bl:aj) (aF:Nat):Out:=match (x.ev env).cells? with
  |some cs=>some ([],.ptr aF 0,[(aF,some (.cells cs false))])
  |none=>none
def GA (ar:Ar) (z:List V) (parts:List (Nat×Nat×O)) (env:List (Nat×V)) (bl:aj) (aF:Nat):Out:=match oY parts env z with
  |some cs=>some ([],.agg cs,[])
  |none=>none
def DA (ar:Ar) (t:Ty) (xs:List O) (env:List (Nat×V)) (bl:aj) (aF:Nat):Out:=match nY ar bl t (xs.map (·.ev env)) with
  |some (ys,u)=>some ([],.sl aF t 0 xs.length,u++[(aF,some (.arr t ys false))])
  |none=>none
def Km (ar:Ar) (agg:Bool) (k:Nat) (x:O) (env:List (Nat×V)) (bl:aj) (aF:Nat):Out :=
  match x.ev env with
  | .ptr id off=>match aq id bl with
   |some (.cells cs _)=>match cut off k cs with
    |some vs=>match dG agg vs with
     |some v=>some ([],v,[])
     |none=>none
    |none=>none
   |_=>none
  | .bR cs=>match cut 0 k cs with
   |some vs=>match dG agg vs with
    |some v=>some ([],v,[])
    |none=>none
   |none=>none
  | .ep id t i p=>match aq id bl with
   |some (.arr t' xs _)=>if t=t' then
     match lA t' (ar.get t'.zero xs i) p with
     |some ⟨t2,y⟩=>match dF t2 y with
      |vs=>if vs.length=k then (match dG agg vs with
       |some v=>some ([ar.E1 i (ar.len xs)],v,[])
       |none=>none) else none
     |none=>none
    else none
   |some (.jo t' xs i' p' v)=>if t=t'/\p=p'/\k=1 then (match agg with
    |false=>some ([ar.eq (Int.ofNat i) (Int.ofNat i')],v,[])
    |true=>none) else none
   |_=>none
  | .ip t y=>match dF t y with
   |vs=>if vs.length=k then (match dG agg vs with
    |some v=>some ([],v,[])
    |none=>none) else none
  | .pa id t m=>match aq id bl with
   |some (.arr t' xs _)=>if t=t' then (match xq ar t' xs m 0 with
    |vs=>if vs.length=k then (match dG agg vs with
     |some v=>some ([],v,[])
     |none=>none) else none) else none
   |_=>none
  | .sp id o l=>match aq id bl with
   |some (.cells cs _)=>match k with
    |1=>match xw ar cs l o with
     |some v=>match dG agg [v] with
      |some v=>some ([],v,[])
      |none=>none
     |none=>none
    |_=>none
   |_=>none
  |_=>none
def GB (ar:Ar) (k:Nat) (a:O) (x:O) (env:List (Nat×V)) (bl:aj) (aF:Nat):Out :=
  match (x.ev env).cells? with
  |none=>none
  |some vs=>if vs.length=k then
   (match a.ev env with
   | .ptr id off=>match aq id bl with
    |some (.cells cs false)=>match mN off vs cs with
     |some cs'=>some ([],.any,[(id,some (.cells cs' false))])
     |none=>none
    |_=>none
   | .ep id t i p=>match aq id bl with
    |some (.arr t' xs false)=>if t=t' then
      match ck ar bl t' (ar.get t'.zero xs i) p vs with
      |some (y,u)=>match oZ id u with
       |true=>some ([ar.E1 i (ar.len xs)],.any,u++[(id,some (.arr t' (ar.set xs i y) false))])
       |false=>none
      |none=>none
     else none
    |_=>none
   | .pa id t m=>match aq id bl with
    |some (.arr t' xs false)=>if t=t' then
      match iQ ar bl t' m vs with
      |some (ys,u)=>match oZ id u with
       |true=>some ([],.any,u++[(id,some (.arr t' ys false))])
       |false=>none
      |none=>none
     else none
    |_=>none
   |_=>none) else none
def O5 (ar:Ar) (op:sZ) (x:O) (y:O) (env:List (Nat×V)) (bl:aj) (aF:Nat):Out :=
  match x.ev env,y.ev env with
  | .int k a,.int k' b=>match op with
   | .shl=>tH ar .shl k a b
   | .shr=>tH ar .shr k a b
   |_=>if k=k' then zQ ar op k a b else none
  | .str a,.str b=>zR ar op a b
  |_,_=>none
def O6 (ar:Ar) (neg:Bool) (x:O) (y:O) (env:List (Nat×V)) (bl:aj) (aF:Nat):Out:=match C9 (x.ev env),C9 (y.ev env) with
  |some a,some b=>some ([],.bool (match neg with|true=>ar.nW (ar.beq a b)|false=>ar.beq a b),[])
  |_,_=>none
def O7 (ar:Ar) (neg:Bool) (ks:List Kd) (x:O) (y:O) (env:List (Nat×V)) (bl:aj) (aF:Nat):Out :=
  match x.ev env,y.ev env with
  | .agg xs,.agg ys=>match aI ar ks xs ys with
   |some c=>some ([],.bool (match neg with|true=>ar.nW c|false=>c),[])
   |none=>none
  |_,_=>none
def O8 (ar:Ar) (x:O) (env:List (Nat×V)) (bl:aj) (aF:Nat):Out:=match x.ev env with
  | .int k a=>match k.signed with
   |true=>match ar.sub 0 a with|z=>some ([ar.cS k z],.int k z,[])
   |false=>some ([],.int k (ar.wr k (ar.sub 0 a)),[])
  |_=>none
def O9 (ar:Ar) (x:O) (env:List (Nat×V)) (bl:aj) (aF:Nat):Out:=match x.ev env with
  | .tf b=>some ([],.tf (!b),[])
  | .bool b=>some ([],.bool (ar.nW b),[])
  |_=>none
def Ko (ar:Ar) (k:IntKind) (x:O) (env:List (Nat×V)) (bl:aj) (aF:Nat):Out:=match x.ev env with
  | .int _ n=>some ([ar.cS k n],.int k n,[])
  |_=>none
def Pa (ar:Ar) (off:Nat) (path:List Bool) (x:O) (env:List (Nat×V)) (bl:aj) (aF:Nat):Out:=match x.ev env with
  | .ptr id o=>some ([],.ptr id (o+off),[])
  | .bR cs=>if off<=cs.length then some ([],.bR (cs.drop off),[]) else none
  | .ep id t i p=>match t.mL p with
   |some t1=>if t1.bx path=off then (match t1.mL path with
    |some _=>some ([],.ep id t i (p++path),[])
    |none=>none) else none
   |none=>none
  | .ip t y=>if t.bx path=off then (match lA t y path with
   |some ⟨t2,z⟩=>some ([],.ip t2 z,[])
   |none=>none) else none
  | .pa id t m=>if (off / t.sz) * t.sz=off/\off / t.sz<m then some ([],.ep id t (off / t.sz) [],[]) else none
  | .iN t xs=>if (off / t.sz) * t.sz=off then some ([ar.E1 (off / t.sz) (ar.len xs)],.ip t (ar.get t.zero xs (off / t.sz)),[]) else none
  | .sp id o l=>some ([],.sp id (o+off) l,[])
  |_=>none
def GD (ar:Ar) (agg:Bool) (off:Nat) (k:Nat) (x:O) (env:List (Nat×V)) (bl:aj) (aF:Nat):Out:=match x.ev env with
  | .agg cs=>match cut off k cs with
   |some vs=>match dG agg vs with
    |some v=>some ([],v,[])
    |none=>none
   |none=>none
  |_=>none
def Pb (ar:Ar) (dw:Nat) (x:O) (i:O) (env:List (Nat×V)) (bl:aj) (aF:Nat):Out :=
  match i.ev env with
  | .int _ n=>match x.ev env with
   | .sl id t lo m=>if t.sz=dw then some ([ar.cR n (Int.ofNat m)],.ep id t (ar.zO lo (ar.nX n)) [],[]) else none
   | .dS t xs=>if t.sz=dw then some ([ar.cR n (Int.ofNat (ar.len xs))],.ip t (ar.get t.zero xs (ar.nX n)),[]) else none
   |_=>none
  |_=>none
def Kq (ar:Ar) (len:Nat) (dw:Nat) (x:O) (i:O) (env:List (Nat×V)) (bl:aj) (aF:Nat):Out :=
  match x.ev env with
  | .pa id t m=>match i.ev env with
   | .int _ j=>if t.sz=dw/\m=len then some ([ar.cR j (Int.ofNat len)],.ep id t (ar.nX j) [],[]) else none
   |_=>none
  | .iN t xs=>match i.ev env with
   | .int _ j=>if t.sz=dw then some ([ar.cR j (Int.ofNat len),ar.cR j (Int.ofNat (ar.len xs))],.ip t (ar.get t.zero xs (ar.nX j)),[]) else none
   |_=>none
  | .ptr id o=>match i.ev env with
   | .int _ j=>some ([ar.cR j (Int.ofNat len)],.sp id o [(dw,len,j)],[])
   |_=>none
  | .sp id o l=>match i.ev env with
   | .int _ j=>some ([ar.cR j (Int.ofNat len)],.sp id o ((dw,len,j)::l),[])
   |_=>none
  | .bR cs=>match i.ev env with
   | .int _ (.ofNat n)=>if n<len then (if n * dw<=cs.length then some ([],.bR (cs.drop (n * dw)),[]) else none) else none
   |_=>none
  |_=>none
def Pc (ar:Ar) (k:Nat) (x:O) (env:List (Nat×V)) (bl:aj) (aF:Nat):Out:=match x.ev env with
  | .cq vs=>match vs[k]? with
   |some v=>some ([],v,[])
   |none=>none
  |_=>none
def Pd (ar:Ar) (x:O) (env:List (Nat×V)) (bl:aj) (aF:Nat):Out:=match x.ev env with
  | .sl _ _ _ n=>some ([],.int .i64 (Int.ofNat n),[])
  | .dS _ xs=>some ([],.int .i64 (Int.ofNat (ar.len xs)),[])
  | .bK=>some ([],.int .i64 0,[])
  |_=>none
def Kr (ar:Ar) (x:O) (env:List (Nat×V)) (bl:aj) (aF:Nat):Out:=match x.ev env with
  | .str s=>some ([],.int .i64 (ar.C7 s),[])
  |_=>none
def Ks (ar:Ar) (n:Nat) (env:List (Nat×V)) (bl:aj) (aF:Nat):Out:=some ([],.int .i64 (Int.ofNat n),[])
def DB (ar:Ar) (dw:Nat) (x:O) (y:O) (env:List (Nat×V)) (bl:aj) (aF:Nat):Out :=
  match x.ev env with
  | .bK=>match Fo (y.ev env) with
   |some t=>if t.sz=dw then
     (match elems ar bl t (y.ev env) with
     |some ys=>match ar.len ys with
      |m=>some ([ar.E1 m bU],.sl aF t 0 m,[(aF,some (.arr t ys false))])
     |none=>none) else none
   |none=>none
  | .sl id t lo n=>if t.sz=dw then
   (match aq id bl with
   |some (.arr t' xs false)=>if t'=t then
    (match iP t' t xs with
    |some xs'=>match elems ar bl t (y.ev env) with
     |some ys=>match ar.zO n (ar.len ys) with
      |m=>some ([ar.E1 m bU],.sl aF t 0 m,[(id,none),(aF,some (.arr t (ar.app (ar.sub' xs' lo n) ys) false))])
     |none=>none
    |none=>none) else none
   |_=>none) else none
  |_=>none
def Av (ar:Ar) (t:Ty) (n:O) (env:List (Nat×V)) (bl:aj) (aF:Nat):Out:=match n.ev env with
  | .int _ z=>match ar.nX z with
   |m=>some ([ar.cR z (Int.ofNat bU)],.sl aF t 0 m,[(aF,some (.arr t (ar.rep m t.zero) false))])
  |_=>none
def Kt (ar:Ar) (f:Nat) (a:List O) (b:List O) (env:List (Nat×V)) (bl:aj) (aF:Nat):Out:=some ([],.fn f (a.map (·.ev env)) (b.map (·.ev env)),[])
def GF (ar:Ar) (dw:Nat) (x:O) (lo:Option O) (hi:Option O) (mx:Option O) (env:List (Nat×V)) (bl:aj) (aF:Nat):Out :=
  match mx with
  |some m=>match hi with
   |some h=>match lS (m.ev env),lS (h.ev env),bT env 0 lo with
    |some a,some b,some c=>match x.ev env with
     | .sl _ _ _ _=>some ([ar.eq a 0,ar.eq b 0,ar.eq c 0],.bK,[])
     | .dS _ _=>some ([ar.eq a 0,ar.eq b 0,ar.eq c 0],.bK,[])
     | .bK=>some ([ar.eq a 0,ar.eq b 0,ar.eq c 0],.bK,[])
     |_=>none
    |_,_,_=>none
   |none=>none
  |none =>
   match x.ev env with
   | .sl id t l n=>if t.sz=dw then
    (match bT env 0 lo,bT env (Int.ofNat n) hi with
    |some a,some b=>some ([ar.le 0 a,ar.le a b,ar.le b (Int.ofNat n)],.sl id t (ar.zO l (ar.nX a)) (ar.Fm (ar.nX b) (ar.nX a)),[])
    |_,_=>none) else none
   | .dS t xs=>if t.sz=dw then
    (match bT env 0 lo,bT env (Int.ofNat (ar.len xs)) hi with
    |some a,some b=>some ([ar.le 0 a,ar.le a b,ar.le b (Int.ofNat (ar.len xs))],.dS t (ar.sub' xs (ar.nX a) (ar.Fm (ar.nX b) (ar.nX a))),[])
    |_,_=>none) else none
   | .bK=>(match bT env 0 lo,bT env 0 hi with
    |some a,some b=>some ([ar.eq a 0,ar.eq b 0],.bK,[])
    |_,_=>none)
   |_=>none
def DC (ar:Ar) (mx:Bool) (x:O) (ys:List O) (env:List (Nat×V)) (bl:aj) (aF:Nat):Out:=match x.ev env with
  | .int k a=>match fO ar mx k a (ys.map (·.ev env)) with
   |some z=>some ([],.int k z,[])
   |none=>none
  |_=>none
def SJ (ar:Ar) (i:I) (env:List (Nat×V)) (bl:aj) (aF:Nat):Out:=match i with
 | .mv x=>TP ar x env bl aF
 | .pick c a b=>Kl ar c a b env bl aF
 | .alloc z=>Gz ar z env bl aF
 | .box x=>O4 ar x env bl aF
 | .build z parts=>GA ar z parts env bl aF
 | .dy t xs=>DA ar t xs env bl aF
 | .load agg k x=>Km ar agg k x env bl aF
 | .store k a x=>GB ar k a x env bl aF
 | .bin op x y=>O5 ar op x y env bl aF
 | .JJ neg x y=>O6 ar neg x y env bl aF
 | .eqs neg ks x y=>O7 ar neg ks x y env bl aF
 | .neg x=>O8 ar x env bl aF
 | .not x=>O9 ar x env bl aF
 | .conv k x=>Ko ar k x env bl aF
 | .eY off path x=>Pa ar off path x env bl aF
 | .field agg off k x=>GD ar agg off k x env bl aF
 | .idx dw x i=>Pb ar dw x i env bl aF
 | .tc len dw x i=>Kq ar len dw x i env bl aF
 | .ext k x=>Pc ar k x env bl aF
 | .len x=>Pd ar x env bl aF
 | .lens x=>Kr ar x env bl aF
 | .td n=>Ks ar n env bl aF
 | .append dw x y=>DB ar dw x y env bl aF
 | .fM t n=>Av ar t n env bl aF
 | .nV f a b=>Kt ar f a b env bl aF
 | .slice dw x lo hi mx=>GF ar dw x lo hi mx env bl aF
 | .cF mx x ys=>DC ar mx x ys env bl aF
 | .ex e xs=>iO ar e (xs.map (·.ev env)) bl aF
theorem GG {ar:Ar} {i:I} {env:List (Nat×V)} {bl:aj} {aF:Nat}:SJ ar i env bl aF=cg ar i env bl aF:=by cases i<;>rfl
section
variable {P:Program} {N:Nat} {Y:Ctx} {ι ι':aA} {μ μ':Mu} {H:aK} {w w':World} {out:Option Nat} {base:Nat}
theorem vM {ar : Ar} {d : Option Nat} {i : I} {S : St} {K : St → Prop} {ob : List Bool} {v : V} {u : cU} (ah : cg ar i S.env S.H.bl S.H.next = some (ob, v, u)) (cE : pR ob)
  (hk:K ⟨put d v S.env,⟨E3 i.dU S.H.next,bD u S.H.bl⟩,S.ms⟩):wpOp ar d i S K:=by
 refine .inl ?_
 unfold mP
 rw [ah]
 cases ob with
 |nil=>exact hk
 |cons b r=>exact ⟨cE,hk⟩
theorem Pe {ar : Ar} {d : Option Nat} {i : I} {S : St} {K : St → Prop} {ob : List Bool} {v : V} {u : cU} (ah : tg ar i S.env S.H.bl S.H.next = some (ob, v, u)) (cE : pR ob)
  (hk:K ⟨put d v S.env,⟨E3 i.dU S.H.next,bD u S.H.bl⟩,S.ms⟩):wpOp ar d i S K:=by
 refine .inr (.inl ?_)
 unfold mP
 rw [ah]
 cases ob with
 |nil=>exact hk
 |cons b r=>exact ⟨cE,hk⟩
theorem Pf {ar : Ar} {d : Option Nat} {i : I} {S : St} {K : St → Prop} {ob : List Bool} {v : V} {u u' : cU} {ids : List Nat} (hu : E2 ar ids S.H.bl = some u') (ah : cg ar i S.env (bD u' S.H.bl) S.H.next = some (ob, v, u)) (cE : pR ob)
  (hk:K ⟨put d v S.env,⟨E3 i.dU S.H.next,bD u (bD u' S.H.bl)⟩,S.ms⟩):wpOp ar d i S K:=by
 refine .inr (.inr ⟨ids,u',hu,?_⟩)
 unfold mP
 rw [ah]
 cases ob with
 |nil=>exact hk
 |cons b r=>exact ⟨cE,hk⟩
end
end Go.AM
end
section
namespace Go.AM
open Go.RowKit
def gN (P : Program) (g : TypeId → Ty → Bool) : Nat → List Field → Ty → Bool
 |_,[],.unit=>true
 |off,[f],ty=>Nat.beq f.offset off&&Nat.beq (P.cellsOf f.type) ty.sz&&g f.type ty
 |off,f::f2::r,.prod a b=>Nat.beq f.offset off&&Nat.beq (P.cellsOf f.type) a.sz&&g f.type a&&gN P g (off+a.sz) (f2::r) b
 |_,_,_=>false
def uo (P:Program) (g:TypeId->Ty->Bool) (fs:List Field) (ty:Ty):Bool:=match fs with
 |[f]=>match ty with
  | .prod a .unit=>gN P g 0 [f] a
  |_=>false
 |fs=>gN P g 0 fs ty
def uq (P : Program) (g : TypeId → Ty → Bool) : Nat → TypeId → Ty → Bool
 |0,_,.unit=>true
 |1,e,ty=>Nat.beq (P.cellsOf e) ty.sz&&g e ty
 |n+2,e,.prod a b=>Nat.beq (P.cellsOf e) a.sz&&g e a&&uq P g (n+1) e b
 |_,_,_=>false
def ew (P : Program) : Nat → TypeId → Ty → Bool
 |0,_,_=>false
 |n+1,t,ty=>match P.underlying t with
  |some .bool=>match ty with | .bool=>true|_=>false
  |some (.int k)=>match ty with | .int k'=>decide (k=k')|_=>false
  |some .string=>match ty with | .str=>true|_=>false
  |some (.slice e)=>match ty with | .list te=>Nat.beq (P.cellsOf e) te.sz&&Nat.blt 0 te.sz&&ew P n e te|_=>false
  |some (.struct fs)=>Nat.beq (P.cellsOf t) ty.sz&&uo P (ew P n) fs.toList ty
  |some (.array m e)=>Nat.beq (P.cellsOf t) ty.sz&&uq P (ew P n) m e ty
  |_=>false
def Wf : (t : Ty) → t.den → Prop
 | .unit,_=>True
 | .bool,_=>True
 | .str,s=>s.size<=maxLen
 | .int k,n=>k.min<=n/\n<=k.max
 | .list t,xs=>xs.length<=maxLen/\∀x∈xs,Wf t x
 | .prod a b,x=>Wf a x.1/\Wf b x.2
 | .cn _ _ a,x=>Wf a x
def gm (w:World):aA:=fun b o=>w.cell? ⟨b,o,none⟩
section
variable {H:Type} {enc:TypeId×Value->H} {P:Program} {w:World} {sp:Nat->Bool} {held:Bool}
theorem vN {b o:Nat} {a:Addr} {n:Nat} {cs:List Value} (ha:a=⟨b,o,none⟩\/0<n) (hb:a.block=b) (ho:a.off=o) (h:w.cells? 0 a n=some cs):cs.length=n/\Reads (gm w) b o cs/\(0<n->a.spot=none):=by
 unfold World.cells? at h
 rw [if_pos (Nat.zero_le _)] at h
 have key:∀(m:Nat) (xs:List Nat) (cs:List Value),xs.mapM (fun i=>w.cell? (a.add i))=some cs->cs.length=xs.length/\∀(j i:Nat),xs[j]?=some i->w.cell? (a.add i)=cs[j]?:=by
  intro m xs
  induction xs with
  |nil=>intro cs h;simp at h;subst h;exact ⟨rfl,fun j i hj=>by simp at hj⟩
  |cons x xs ih =>
   intro cs h
   rw [List.mapM_cons] at h
   cases hx:w.cell? (a.add x) with
   |none=>simp [hx] at h
   |some v =>
    cases hr:xs.mapM (fun i=>w.cell? (a.add i)) with
    |none=>simp [hx,hr] at h
    |some vs =>
     simp [hx,hr] at h
     subst h
     obtain ⟨h1,h2⟩:=ih vs hr
     refine ⟨by simp [h1],fun j i hj=>?_⟩
     cases j with
     |zero=>simp at hj;subst hj;simpa using hx
     |succ j=>simpa using h2 j i (by simpa using hj)
 obtain ⟨h1,h2⟩:=key 0 _ _ h
 have hlen:cs.length=n:=by simpa using h1
 have GH:0<n->a.spot=none:=fun hn=>by
  have:=h2 0 0 (by simp [hn])
  simp only [Addr.add,if_true] at this
  have hc:∃v,w.cell? a=some v:=⟨cs[0]'(by omega),by rw [this];simp⟩
  obtain ⟨v,hv⟩:=hc
  unfold World.cell? at hv
  cases hs:a.spot with
  |none=>rfl
  |some s=>rw [hs] at hv;split at hv<;>simp at hv
 refine ⟨hlen,fun j v hv=>?_,GH⟩
 have hj:j<cs.length:=(List.getElem?_eq_some_iff.1 hv).1
 have:=h2 j j (by rw [List.getElem?_range (by omega)])
 rw [hv] at this
 unfold gm
 have e:a.add j=⟨b,o+j,none⟩:=by
  have hs:=GH (by omega)
  unfold Addr.add
  subst hb;subst ho
  split
  ·rename_i h0;subst h0;cases a;simp_all
  ·rfl
 rw [e] at this
 exact this
theorem BZ {α : Type} {D : α → List Value → Prop} : ∀ (n : Nat) (f : Nat → α) (g : Nat → List Value), (∀ i, i < n → D (f i) (g i)) → bu D ((List.range n).map f) ((List.range n).flatMap g)
 |0,_,_,_=>rfl
 |n+1,f,g,h=>by
  rw [List.range_succ,List.map_append,List.flatMap_append]
  exact (BZ n f g fun i hi=>h i (by omega)).append ⟨g n,[],by simp,h n (by omega),rfl⟩
theorem Ku {k:IntKind} {n:Int} (h:(Lit.int k n).wf=true):k.min<=n/\n<=k.max:=by
 simpa [Lit.wf] using h
theorem mj {n : Nat} (ih : ∀ {t : TypeId} {ty : Ty}, ew P n t ty = true → ∀ {fuel : Nat} {cs : List Value} {x : DataW H × List MemPlace}, DataW.trod enc P w 0 sp held fuel t cs = some x → ∃ y : ty.den, af (gm w) ty y cs ∧ Wf ty y)
  {fuel:Nat} {cs:List Value}:∀{fs:List Field} {off:Nat} {ty:Ty},gN P (ew P n) off fs ty=true->cs.length=off+ty.sz ->
   (∀f∈fs,∃x,DataW.trod enc P w 0 sp held fuel f.type ((cs.drop f.offset).take (P.cellsOf f.type))=some x)->∃y:ty.den,af (gm w) ty y (cs.drop off)/\Wf ty y
 |[],off,ty,h,hl,_=>by
  cases ty<;>simp [gN] at h
  exact ⟨(),by simp [af];simp [Ty.sz] at hl;omega,trivial⟩
 |[f],off,ty,h,hl,hf=>by
  have h':(Nat.beq f.offset off&&Nat.beq (P.cellsOf f.type) ty.sz&&ew P n f.type ty)=true:=by
   cases ty<;>simpa [gN] using h
  simp only [Bool.and_eq_true] at h'
  obtain ⟨⟨h1,h2⟩,h3⟩:=h'
  have e1:=Nat.eq_of_beq_eq_true h1
  have e2:=Nat.eq_of_beq_eq_true h2
  obtain ⟨x,hx⟩:=hf f (List.mem_singleton_self _)
  rw [e1,e2,List.take_of_length_le (by simp;omega)] at hx
  exact ih h3 hx
 |f::f2::r,off,ty,h,hl,hf=>by
  cases ty<;>simp only [gN,Bool.false_eq_true] at h
  rename_i a b
  simp only [Bool.and_eq_true] at h
  obtain ⟨⟨⟨h1,h2⟩,h3⟩,h4⟩:=h
  have e1:=Nat.eq_of_beq_eq_true h1
  have e2:=Nat.eq_of_beq_eq_true h2
  obtain ⟨x,hx⟩:=hf f (List.mem_cons_self ..)
  rw [e1,e2] at hx
  obtain ⟨y,hy,wy⟩:=ih h3 hx
  simp only [Ty.sz] at hl
  obtain ⟨z,hz,wz⟩:=mj ih h4 (by omega) (fun g hg=>hf g (List.mem_cons_of_mem _ hg))
  refine ⟨(y,z),⟨_,_,?_,hy,hz⟩,wy,wz⟩
  rw [<-List.drop_drop,List.take_append_drop]
theorem B3 {n : Nat} (ih : ∀ {t : TypeId} {ty : Ty}, ew P n t ty = true → ∀ {fuel : Nat} {cs : List Value} {x : DataW H × List MemPlace}, DataW.trod enc P w 0 sp held fuel t cs = some x → ∃ y : ty.den, af (gm w) ty y cs ∧ Wf ty y)
  {fuel:Nat} {cs:List Value} {e:TypeId}:∀{m i:Nat} {ty:Ty},uq P (ew P n) m e ty=true->cs.length=i * P.cellsOf e+ty.sz ->
   (∀j,i<=j->j<i+m->∃x,DataW.trod enc P w 0 sp held fuel e ((cs.drop (j * P.cellsOf e)).take (P.cellsOf e))=some x)->∃y:ty.den,af (gm w) ty y (cs.drop (i * P.cellsOf e))/\Wf ty y
 |0,i,ty,h,hl,_=>by
  cases ty<;>simp [uq] at h
  exact ⟨(),by simp [af];simp [Ty.sz] at hl;omega,trivial⟩
 |1,i,ty,h,hl,hf=>by
  have h':(Nat.beq (P.cellsOf e) ty.sz&&ew P n e ty)=true:=by
   cases ty<;>simpa [uq] using h
  simp only [Bool.and_eq_true] at h'
  have e2:=Nat.eq_of_beq_eq_true h'.1
  obtain ⟨x,hx⟩:=hf i (Nat.le_refl _) (by omega)
  rw [List.take_of_length_le (by rw [List.length_drop];omega)] at hx
  exact ih h'.2 hx
 |m+2,i,ty,h,hl,hf=>by
  cases ty<;>simp only [uq,Bool.false_eq_true] at h
  rename_i a b
  simp only [Bool.and_eq_true] at h
  obtain ⟨⟨h1,h3⟩,h4⟩:=h
  have e2:=Nat.eq_of_beq_eq_true h1
  obtain ⟨x,hx⟩:=hf i (Nat.le_refl _) (by omega)
  obtain ⟨y,hy,wy⟩:=ih h3 hx
  simp only [Ty.sz] at hl
  obtain ⟨z,hz,wz⟩:=B3 ih h4 (i:=i+1) (by rw [Nat.add_mul];omega) (fun j h1 h2=>hf j (by omega) (by omega))
  refine ⟨(y,z),⟨_,_,?_,hy,hz⟩,wy,wz⟩
  rw [show (i+1) * P.cellsOf e=i * P.cellsOf e+P.cellsOf e by rw [Nat.add_mul];omega,<-List.drop_drop,List.take_append_drop]
theorem GJ {n:Nat}:∀{t:TypeId} {ty:Ty},ew P n t ty=true->∀{fuel:Nat} {cs:List Value} {x:DataW H×List MemPlace},DataW.trod enc P w 0 sp held fuel t cs=some x->∃y:ty.den,af (gm w) ty y cs/\Wf ty y:=by
 induction n with
 |zero=>intro t ty h;cases h
 |succ n ih =>
  intro t ty h fuel cs x hx
  have hx0:=hx
  unfold ew at h
  split at h
  ·rename_i hu
   cases ty<;>simp at h
   cases fuel with
   |zero=>simp [DataW.trod] at hx
   |succ fuel =>
    rcases cs with _|⟨c,_|⟨c2,r⟩⟩
    ·simp [DataW.trod,hu] at hx
    ·cases c <;> simp [DataW.trod, hu] at hx
     exact ⟨_,rfl,trivial⟩
    ·simp [DataW.trod,hu] at hx
  ·rename_i k hu
   cases ty<;>simp at h
   subst h
   cases fuel with
   |zero=>simp [DataW.trod] at hx
   |succ fuel =>
    rcases cs with _|⟨c,_|⟨c2,r⟩⟩
    ·simp [DataW.trod,hu] at hx
    ·cases c <;> simp [DataW.trod, hu] at hx
     obtain ⟨⟨rfl,h2⟩,_⟩:=hx
     exact ⟨_,rfl,Ku h2⟩
    ·simp [DataW.trod,hu] at hx
  ·rename_i hu
   cases ty<;>simp at h
   cases fuel with
   |zero=>simp [DataW.trod] at hx
   |succ fuel =>
    rcases cs with _|⟨c,_|⟨c2,r⟩⟩
    ·simp [DataW.trod,hu] at hx
    ·cases c <;> simp [DataW.trod, hu] at hx
     exact ⟨_,rfl,hx.1⟩
    ·simp [DataW.trod,hu] at hx
  ·rename_i e hu
   cases ty<;>simp only [Bool.false_eq_true] at h
   rename_i te
   simp only [Bool.and_eq_true] at h
   obtain ⟨⟨h1,h2⟩,h3⟩:=h
   have e1:=Nat.eq_of_beq_eq_true h1
   have hpos:0<te.sz:=by simpa using h2
   rcases DataW.trod_slice hu hx with ⟨rfl,rfl⟩|⟨a,len,cap,elems,rest,m,_,rfl,rfl,_,hlc,hm,hel,hE,_,_⟩
   ·exact ⟨[],⟨none,0,by simp,by simp,.inl rfl⟩,by simp,by simp⟩
   ·have each:∀i,i<len->∃(y:te.den) (us:List Value),af (gm w) te y us/\Wf te y/\us.length=te.sz/\Reads (gm w) a.block (a.off+i * te.sz) us/\(i=0->a.spot=none):=fun i hi=>by
     have:=hE i hi
     have hlt:i<elems.length:=by omega
     rw [List.getElem?_eq_getElem hlt,e1] at this
     cases hc:w.cells? 0 (a.add (i * te.sz)) te.sz with
     |none=>rw [hc] at this;simp at this
     |some us =>
      rw [hc,Option.bind_some] at this
      obtain ⟨y,hy,wy⟩:=ih h3 this
      have hb:(a.add (i * te.sz)).block=a.block:=by unfold Addr.add;split<;>rfl
      have ho:(a.add (i * te.sz)).off=a.off+i * te.sz:=by unfold Addr.add;split<;>simp_all
      obtain ⟨q1,q2,q3⟩:=vN (.inr hpos) hb ho hc
      refine ⟨y,us,hy,wy,q1,q2,fun h0=>?_⟩
      subst h0
      have:=q3 hpos
      simpa [Addr.add] using this
    by_cases XU:len=0
    ·subst XU
     exact ⟨[],⟨some a,cap,rfl,by simp,.inl rfl⟩,by simp,by simp⟩
    ·obtain ⟨f,hf⟩:∃f:Nat->te.den×List Value,∀i,i<len->af (gm w) te (f i).1 (f i).2/\Wf te (f i).1/\(f i).2.length=te.sz/\Reads (gm w) a.block (a.off+i * te.sz) (f i).2/\(i=0->a.spot=none) :=
      ⟨fun i=>if h:i<len then ((each i h).choose,(each i h).choose_spec.choose) else (te.zero,[]),fun i hi=>by simp only [hi,dif_pos];exact (each i hi).choose_spec.choose_spec⟩
     have GH:=(hf 0 (by omega)).2.2.2.2 rfl
     have hrd:∀n,n<=len->((List.range n).flatMap fun i=>(f i).2).length=n * te.sz/\Reads (gm w) a.block a.off ((List.range n).flatMap fun i=>(f i).2):=fun n=>by
      induction n with
      |zero=>intro _;exact ⟨by simp,fun j v hv=>by simp at hv⟩
      |succ n ih2 =>
       intro hn
       obtain ⟨l1,l2⟩:=ih2 (by omega)
       obtain ⟨_,_,l3,l4,_⟩:=hf n (by omega)
       rw [List.range_succ,List.flatMap_append]
       simp only [List.flatMap_cons,List.flatMap_nil,List.append_nil]
       refine ⟨by rw [List.length_append,l1,l3,Nat.add_mul];simp,fun j v hv=>?_⟩
       rw [List.getElem?_append] at hv
       split at hv
       ·exact l2 j v hv
       ·rename_i hj
        have:=l4 _ _ hv
        rw [l1] at this hj
        rw [show a.off+n * te.sz+(j - n * te.sz)=a.off+j by omega] at this
        exact this
     refine ⟨(List.range len).map fun i=>(f i).1,⟨some a,cap,by simp,by simpa using hlc,.inr ⟨a.block,a.off,(List.range len).flatMap fun i=>(f i).2,by cases a;simp_all,(hrd len (Nat.le_refl _)).2,BZ _ _ _ fun i hi=>(hf i hi).1⟩⟩,by simp;omega,fun x hx=>?_⟩
     obtain ⟨i,hi,rfl⟩:=List.mem_map.1 hx
     exact (hf i (List.mem_range.1 hi)).2.1
  ·rename_i fs hu
   simp only [Bool.and_eq_true] at h
   obtain ⟨h1,h2⟩:=h
   obtain ⟨xs,m,_,_,hl,Sv,hf⟩:=DataW.trod_struct hu hx
   have Sz:∀f∈fs.toList,∃y,DataW.trod enc P w 0 sp held m f.type ((cs.drop f.offset).take (P.cellsOf f.type))=some y:=fun f Sz=>by
    obtain ⟨i,hi⟩:=List.getElem?_of_mem Sz
    have hi':fs[i]?=some f:=by simpa using hi
    have hlt:i<xs.length:=by rw [Sv];exact (Array.getElem?_eq_some_iff.1 hi').1
    exact ⟨xs[i],by rw [hf i f hi'];simp⟩
   have hlen:cs.length=ty.sz:=by rw [hl,Nat.eq_of_beq_eq_true h1]
   unfold uo at h2
   split at h2
   ·rename_i f hfs
    split at h2<;>try (cases h2;done)
    rename_i a
    have:=mj ih (fuel:=m) (cs:=cs) h2 (by simpa [Ty.sz] using hlen) (fun f' hf'=>by rw [<-hfs] at hf';exact Sz f' hf')
    obtain ⟨y,hy,wy⟩:=this
    exact ⟨(y,()),⟨cs,[],by simp,by simpa using hy,rfl⟩,wy,trivial⟩
   ·have := mj ih (fuel := m) (cs := cs) h2 (by simpa using hlen) Sz
    simpa using this
  ·rename_i m e hu
   simp only [Bool.and_eq_true] at h
   obtain ⟨h1,h2⟩:=h
   obtain ⟨xs,k,_,_,hl,Sv,hf⟩:=DataW.trod_array hu hx
   have:=B3 ih (fuel:=k) (cs:=cs) (i:=0) h2 (by rw [hl,Nat.eq_of_beq_eq_true h1];simp) (fun j _ hj=>⟨xs[j]'(by omega),by rw [hf j (by omega)];simp⟩)
   simpa using this
  ·cases h
end
end Go.AM
end
section
namespace Go.AM
inductive EV (π : List Nat) : V → V → Prop
 |any (v):EV π .any v
 |tf (b):EV π (.tf b) (.tf b)
 |bool (b):EV π (.bool b) (.bool b)
 |Zi (b):EV π (.bool b) (.tf b)
 |int (k n):EV π (.int k n) (.int k n)
 |str (s):EV π (.str s) (.str s)
 |ee:EV π .ee .ee
 |cw:EV π .cw .cw
 |ek:EV π .ek .ek
 |dS (t xs):EV π (.dS t xs) (.dS t xs)
 |Pg (t):EV π (.dS t []) .bK
 |bK:EV π .bK .bK
 |sl (id i t lo n) (h:π[id]?=some i):EV π (.sl id t lo n) (.sl i t lo n)
 |Ph (id t lo):EV π (.sl id t lo 0) .bK
 |ptr (id i o) (h:π[id]?=some i):EV π (.ptr id o) (.ptr i o)
 |ep (id i t j p) (h:π[id]?=some i):EV π (.ep id t j p) (.ep i t j p)
 |yl (id i) (h:π[id]?=some i):EV π (.yl id) (.yl i)
 |ip (t x):EV π (.ip t x) (.ip t x)
 |bR (cs ds) (h:cs.length=ds.length) (h2:∀(i:Nat) v u,cs[i]?=some v->ds[i]?=some u->EV π v u):EV π (.bR cs) (.bR ds)
 | fn (f as as' cs cs') (h : as.length = as'.length) (h2 : ∀ (i : Nat) v u, as[i]? = some v → as'[i]? = some u → EV π v u)
   (h3:cs.length=cs'.length) (h4:∀(i:Nat) v u,cs[i]?=some v->cs'[i]?=some u->EV π v u):EV π (.fn f as cs) (.fn f as' cs')
 |agg (cs ds) (h:cs.length=ds.length) (h2:∀(i:Nat) v u,cs[i]?=some v->ds[i]?=some u->EV π v u):EV π (.agg cs) (.agg ds)
 |cq (cs ds) (h:cs.length=ds.length) (h2:∀(i:Nat) v u,cs[i]?=some v->ds[i]?=some u->EV π v u):EV π (.cq cs) (.cq ds)
 |cn (t v u) (h:EV π v u):EV π (.cn t v) (.cn t u)
 |cb (c):EV π (.cb c) (.cb c)
 |mp (id i) (h:π[id]?=some i):EV π (.mp id) (.mp i)
 |dA:EV π .dA .dA
 |pa (id i t n) (h:π[id]?=some i):EV π (.pa id t n) (.pa i t n)
 |iN (t xs):EV π (.iN t xs) (.iN t xs)
def sX (π:List Nat) (cs ds:List V):Prop:=cs.length=ds.length/\∀(i:Nat) v u,cs[i]?=some v->ds[i]?=some u->EV π v u
theorem sX.nil {π:List Nat}:sX π [] []:=⟨rfl,fun i v u h=>by simp at h⟩
theorem sX.cons {π:List Nat} {v u:V} {cs ds:List V} (h:EV π v u) (hl:sX π cs ds):sX π (v::cs) (u::ds) :=
 ⟨by simp [hl.1],fun i w y hw hy=>by
  cases i with
  |zero=>simp at hw hy;subst hw;subst hy;exact h
  |succ i=>exact hl.2 i w y (by simpa using hw) (by simpa using hy)⟩
def EE (π:List Nat) (env' env:List (Nat×V)):Prop:=∀p∈env',EV π p.2 (get p.1 env)
def Kv (π:List Nat) (nx:Nat) (bl:aj) (id:Nat) (B:js):Prop:=∃i,π[id]?=some i/\match B with
 | .cells cs fz=>∃ds,aq i bl=some (.cells ds fz)/\sX π cs ds
 | .arr t xs fz=>aq i bl=some (.arr t xs fz)\/(xs=[]/\nx<=i)
 | .loop st j d env ps as bd N=>∃d0 rO,aq i bl=some (.loop st j d0 rO ps as bd N)/\π[d]?=some d0/\EE π env rO
 | .gi=>aq i bl=some .gi
 | .map kt kg vt vg es=>aq i bl=some (.map kt kg vt vg es)
 | .jo t xs k p v=>∃u,aq i bl=some (.jo t xs k p u)/\EV π v u
structure ou (base:Nat) (π:List Nat) (S S':St):Prop where
 pre:π.take base=List.range base
 nx:S'.H.next=π.length
 ms:S'.ms.map (fun i=>π[i]?)=S.ms.map some
 env:EE π S'.env S.env
 bl:∀p∈S'.H.bl,Kv π S.H.next S.H.bl p.1 p.2
 inj:∀p∈S'.H.bl,∀q∈S'.H.bl,π[p.1]?=π[q.1]?->p.1=q.1
section
variable {P:Program} {N:Nat} {Y:Ctx} {ι ι':aA} {μ μ':Mu} {H:aK} {w w':World} {out:Option Nat} {base:Nat} {π:List Nat}
theorem aG.jq {cs ds:List V} {xs:List Value} (h:cs.length=ds.length) (ih:∀(i:Nat) v u,cs[i]?=some v->ds[i]?=some u->∀{x:Value},Rel ι μ u x->Rel ι (μ.jq π) v x) (hr:aG ι μ ds xs):aG ι (μ.jq π) cs xs :=
 ⟨h.trans hr.1,fun i v x hv hx=>by
  have hi:i<ds.length:=by have:=(List.getElem?_eq_some_iff.1 hv).1;omega
  exact ih i v ds[i] hv (by simp [hi]) (hr.2 i ds[i] x (by simp [hi]) hx)⟩
theorem EV.rel {v' v:V} (h:EV π v' v):∀{x:Value},Rel ι μ v x->Rel ι (μ.jq π) v' x:=by
 induction h with
 |any v=>intro x _;exact .any _
 |tf b=>intro x hr;cases hr;exact .tf _
 |bool b=>intro x hr;cases hr;exact .bool _
 |Zi b=>intro x hr;cases hr;exact .bool _
 |int k n=>intro x hr;cases hr;exact .int _ _
 |str s=>intro x hr;cases hr;exact .str _
 |ee=>intro x hr;cases hr;exact .ee
 |cw=>intro x hr;cases hr;exact .cw
 |ek=>intro x hr;cases hr;exact .ek
 |dS t xs=>intro x hr;cases hr with|dS _ _ _ hd=>exact .dS t xs _ hd
 |Pg t=>intro x hr;cases hr;exact .dS _ _ _ ⟨_,0,rfl,Nat.le_refl _,.inl rfl⟩
 |bK=>intro x hr;cases hr;exact .bK _
 |sl id i t lo n hi =>
  intro x hr
  cases hr with
  |sl _ _ _ _ cap L hL h1 h2 h3=>exact .sl id t lo n cap L (by simp [Mu.jq,hi,hL]) h1 h2 h3
  |bO=>exact .bO _ _ _ _
 |Ph id t lo=>intro x hr;cases hr;exact .bO _ _ _ _
 |ptr id i o hi=>intro x hr;cases hr with|ptr _ _ L hL=>exact .ptr id o L (by simp [Mu.jq,hi,hL])
 |ep id i t j p hi=>intro x hr;cases hr with|ep _ _ _ _ L hL=>exact .ep id t j p L (by simp [Mu.jq,hi,hL])
 |yl id i hi=>intro x hr;cases hr with|yl _ L hL=>exact .yl id L (by simp [Mu.jq,hi,hL])
 |ip t y=>intro x hr;cases hr with|ip _ _ b o us h1 h2=>exact .ip t y b o us h1 h2
 |bR cs ds h h2 ih =>
  intro x hr
  cases hr with
  |bR _ b o gf h1 h3 h4 =>
   have hR:aG ι μ ds ((List.range ds.length).map gf):=⟨by simp,fun i v x hv hx=>by
    have hi:=(List.getElem?_eq_some_iff.1 hv).1
    simp [hi] at hx;subst hx;exact h3 i v hv⟩
   have fy:=aG.jq h ih hR
   exact .bR cs b o gf (fun i hi => h1 i (by omega)) (fun i v hv => fy.2 i v (gf i) hv (by
    have hi:=(List.getElem?_eq_some_iff.1 hv).1
    simp [show i<ds.length by omega])) h4
 |fn f as as' cs cs' h h2 h3 h4 ih1 ih2 =>
  intro x hr
  cases hr with
  |fn _ _ _ xs ys q1 q2 q3 q4 =>
   have r1:=aG.jq h ih1 (xs:=xs.toList) ⟨by simpa using q1,fun i v x hv hx=>q2 i v x hv (by simpa using hx)⟩
   have r2:=aG.jq h3 ih2 (xs:=ys.toList) ⟨by simpa using q3,fun i v x hv hx=>q4 i v x hv (by simpa using hx)⟩
   exact .fn f as cs xs ys (by simpa using r1.1) (fun i v x hv hx=>r1.2 i v x hv (by simpa using hx)) (by simpa using r2.1) (fun i v x hv hx=>r2.2 i v x hv (by simpa using hx))
 |agg cs ds h h2 ih =>
  intro x hr
  cases hr with
  |agg _ xs q1 q2 q3 =>
   have r1:=aG.jq h ih (xs:=xs.toList) ⟨by simpa using q1,fun i v x hv hx=>q2 i v x hv (by simpa using hx)⟩
   exact .agg cs xs (by simpa using r1.1) (fun i v x hv hx=>r1.2 i v x hv (by simpa using hx)) q3
 |cq cs ds h h2 ih =>
  intro x hr
  cases hr with
  |cq _ xs q1 q2 =>
   have r1:=aG.jq h ih (xs:=xs.toList) ⟨by simpa using q1,fun i v x hv hx=>q2 i v x hv (by simpa using hx)⟩
   exact .cq cs xs (by simpa using r1.1) (fun i v x hv hx=>r1.2 i v x hv (by simpa using hx))
 |cn t v u h ih=>intro x hr;cases hr with|cn _ _ x hx=>exact .cn t v x (ih hx)
 |cb c=>intro x hr;cases hr with|cb _ b hc=>exact .cb c b hc
 |mp id i hi=>intro x hr;cases hr with|mp _ L hL=>exact .mp id L (by simp [Mu.jq,hi,hL])
 |dA=>intro x hr;cases hr;exact .dA
 |pa id i t n hi=>intro x hr;cases hr with|pa _ _ _ L hL hm=>exact .pa id t n L (by simp [Mu.jq,hi,hL]) hm
 |iN t xs=>intro x hr;cases hr with|iN _ _ b o us h1 h2=>exact .iN t xs b o us h1 h2
theorem EE.rel {tmps : Array Value} {env : List (Nat × V)} (he : fG ι μ env tmps) : ∀ {env' : List (Nat × V)}, EE π env' env → fG ι (μ.jq π) env' tmps
 |[],_=>fun t=>.any _
 |(t,v)::r,h=>fun i=>by
  rw [iT];split
  ·rename_i e;subst e;exact (h _ (List.mem_cons_self ..)).rel (he _)
  ·exact EE.rel he (fun p hp=>h p (List.mem_cons_of_mem _ hp)) i
theorem dx : ∀ {bl : aj} {id : Nat} {b : js}, aq id bl = some b → (id, b) ∈ bl
 |[],id,b,h=>by simp [aq] at h
 |(s,c)::r,id,b,h=>by
  rw [aS] at h
  split at h
  ·rename_i e;subst e;cases h;exact List.mem_cons_self ..
  ·exact List.mem_cons_of_mem _ (dx h)
theorem ou.rep {S S':St} (h:ou base π S S') (hbase:Y.base base) {a:Act} (hR:iH P N Y ι μ S a w):iH P N Y ι (μ.jq π) S' a w:=by
 have hI:=hR.inv
 have hle:Y.m0.le (μ.jq π):=fun id L hL=>by
  have hlt:id<base:=by
   rcases Nat.lt_or_ge id base with h|h
   ·exact h
   ·rw [hbase id h] at hL;cases hL
  have:π[id]?=some id:=by
   have e1:(π.take base)[id]?=(List.range base)[id]?:=by rw [h.pre]
   rw [List.getElem?_take,if_pos hlt,List.getElem?_range hlt] at e1
   exact e1
  simp [Mu.jq,this,hI.m0 id L hL]
 refine ⟨h.env.rel hR.env,hR.sz,⟨hI.below,hI.i0,hI.iB,hI.rd,hle,fun id hid=>?_,fun id B hB=>?_,?_,fun id B hB=>?_,hI.gl⟩,?_⟩
 ·have : π[id]? = none := List.getElem?_eq_none (by rw [← h.nx]; exact hid)
  simp [Mu.jq,this]
 ·obtain ⟨i, e1, hb⟩ := h.bl _ (dx hB)
  have iW:(μ.jq π) id=μ i:=by simp only [Mu.jq];rw [e1];rfl
  cases B with
  |cells cs fz =>
   obtain ⟨ds,e2,ah⟩:=hb
   obtain ⟨L,vs,hM,TQ⟩:=hI.live i _ e2
   exact ⟨L,vs,⟨by rw [iW];exact hM.mu,hM.old,hM.row,hM.fits,hM.one,hM.zW,hM.n4⟩,aG.jq ah.1 (fun i v u hv hu=>fun {x} hr=>(ah.2 i v u hv hu).rel hr) TQ⟩
  |arr t xs fz =>
   rcases hb with e2|⟨rfl,hge⟩
   ·rcases hI.live i _ e2 with ⟨e, hn⟩ | ⟨L, vs, hM, hc, hl⟩
    ·exact .inl ⟨e,by rw [iW];exact hn⟩
    ·exact .inr ⟨L,vs,⟨by rw [iW];exact hM.mu,hM.old,hM.row,hM.fits,hM.one,hM.zW,hM.n4⟩,hc,hl⟩
   ·exact .inl ⟨rfl,by rw [iW];exact hI.nx i hge⟩
  |loop st j d env ps as bd N =>
   obtain ⟨d0,rO,e2,e3,hee⟩:=hb
   obtain ⟨L,r,Ld,q1,q2,q3,q4,q5,q6,q7,q8,q9,TB,TC,TD,TE⟩:=hI.live i _ e2
   exact ⟨L,r,Ld,by rw [iW];exact q1,q2,q3,q4,q5,hee.rel q6,q7,q8,q9,TB,TC,by simp only [Mu.jq];rw [e3];exact TD,TE⟩
  |gi =>
   obtain ⟨L,q1,q2,q3⟩:=hI.live i _ hb
   exact ⟨L,by rw [iW];exact q1,q2,q3⟩
  |map kt kg vt vg es =>
   obtain ⟨L,ms,clock,qJ,q1,q2,q3⟩:=hI.live i _ hb
   exact ⟨L,ms,clock,qJ,by rw [iW];exact q1,q2,q3⟩
  |jo t xs k p v =>
   obtain ⟨u,e2,ah⟩:=hb
   obtain ⟨L,us,vs,c,hM,hc,hl,q1,q2,q3,q4⟩:=hI.live i _ e2
   exact ⟨L,us,vs,c,⟨by rw [iW];exact hM.mu,hM.old,hM.row,hM.fits,hM.one,hM.zW,hM.n4⟩,hc,hl,q1,q2,q3,ah.rel q4⟩
 ·intro id id' B B' L L' hb hb' hm hm' e
  obtain ⟨i,e1,Tj⟩:=h.bl _ (dx hb)
  obtain ⟨i',Dg,hbk'⟩:=h.bl _ (dx hb')
  simp only at e1 Dg
  have iW:(μ.jq π) id=μ i:=by simp only [Mu.jq];rw [e1];rfl
  have Zj:(μ.jq π) id'=μ i':=by simp only [Mu.jq];rw [Dg];rfl
  rw [iW] at hm;rw [Zj] at hm'
  have live:∀{i:Nat} {B:js} {id:Nat} {L:Loc},Kv π S.H.next S.H.bl id B->π[id]?=some i->μ i=some L->∃C,aq i S.H.bl=some C:=by
   intro i B id L Tj e hm
   obtain ⟨i2,e2,iF⟩:=Tj
   rw [e] at e2;cases e2
   cases B with
   |cells cs fz=>obtain ⟨ds,e2,_⟩:=iF;exact ⟨_,e2⟩
   |arr t xs fz =>
    rcases iF with e2|⟨_,hge⟩
    ·exact ⟨_,e2⟩
    ·rw [hI.nx i hge] at hm;cases hm
   |loop st j d env ps as bd N=>obtain ⟨d0,rO,e2,_⟩:=iF;exact ⟨_,e2⟩
   |gi=>exact ⟨_,iF⟩
   |map kt kg vt vg es=>exact ⟨_,iF⟩
   |jo t xs k p v=>obtain ⟨u,e2,_⟩:=iF;exact ⟨_,e2⟩
  obtain ⟨C,hC⟩:=live (h.bl _ (dx hb)) e1 hm
  obtain ⟨C',JR⟩:=live (h.bl _ (dx hb')) Dg hm'
  have:=hI.inj i i' C C' L L' hC JR hm hm' e
  subst this
  exact h.inj _ (dx hb) _ (dx hb') (e1.trans Dg.symm)
 ·obtain ⟨i, e1, _⟩ := h.bl _ (dx hB)
  have:=(List.getElem?_eq_some_iff.1 e1).1
  rw [h.nx];exact this
 ·have key:∀{ms ms':List Nat} {ds:List Deferred},ms'.map (fun i=>π[i]?)=ms.map some->jz Y.hid μ ms ds->jz Y.hid (μ.jq π) ms' ds:=by
   intro ms
   induction ms with
   |nil=>intro ms' ds e hm;cases ms'<;>simp at e;exact hm
   |cons i ms ih =>
    intro ms' ds e hm
    cases ms' with
    |nil=>simp at e
    |cons i' ms' =>
     simp only [List.map_cons,List.cons.injEq] at e
     obtain ⟨L,d,ds',q1,q2,q3,q4⟩:=hm
     exact ⟨L,d,ds',q1,by simp [Mu.jq,e.1,q2],q3,ih e.2 q4⟩
  exact key h.ms hR.ms
def gp {α β : Type} (step : α → Option (α ⊕ β)) : Nat → α → Option β
 |0,_=>none
 |n+1,x=>match step x with
  |none=>none
  |some (.inl y)=>gp step n y
  |some (.inr b)=>some b
noncomputable def iter {α β:Type} (step:α->Option (α ⊕ β)) (x:α):Option β:=by
 classical exact if h:∃n b,gp step n x=some b then some h.choose_spec.choose else none
theorem ur {α β : Type} {step : α → Option (α ⊕ β)} : ∀ {n m : Nat} {x : α} {b c : β}, gp step n x = some b → gp step m x = some c → b = c
 |0,_,_,_,_,h,_=>by cases h
 |_+1,0,_,_,_,_,h=>by cases h
 |n+1,m+1,x,b,c,h,h'=>by
  simp only [gp] at h h'
  split at h
  ·cases h
  ·rename_i y e;rw [e] at h';exact ur h h'
  ·rename_i b' e;rw [e] at h';cases h;cases h';rfl
theorem vO {α β:Type} {step:α->Option (α ⊕ β)} {n:Nat} {x:α} {b:β} (h:gp step n x=some b):iter step x=some b:=by
 unfold iter
 have h':∃n b,gp step n x=some b:=⟨n,b,h⟩
 rw [dif_pos h']
 exact congrArg some (ur h'.choose_spec.choose_spec h)
theorem ov {α β:Type} {step:α->Option (α ⊕ β)} {x:α} {b:β} (h:iter step x=some b):∃n,gp step n x=some b:=by
 unfold iter at h
 split at h
 ·rename_i h';cases h;exact ⟨_,h'.choose_spec.choose_spec⟩
 ·cases h
theorem aE {α β:Type} {step:α->Option (α ⊕ β)} {x y:α} {b:β} (h:step x=some (.inl y)) (h':iter step y=some b):iter step x=some b:=by
 obtain ⟨n,hn⟩:=ov h'
 exact vO (n:=n+1) (by simp [gp,h,hn])
theorem bn {α β:Type} {step:α->Option (α ⊕ β)} {x:α} {b:β} (h:step x=some (.inr b)):iter step x=some b :=
 vO (n:=1) (by simp [gp,h])
theorem DD (gL : lZ P N out base) {α β : Type} {I : α → St} {X : β → Ex × St} {step : α → Option (α ⊕ β)} {c : C}
  (hstep:∀x r,step x=some r->pU (fY P N out base) c (I x) fun e S'=>match r with
   | .inl y=>e = .normal/\∃π,ou base π S' (I y)
   | .inr b=>e ≠ .normal/\e=(X b).1/\∃π,ou base π S' (X b).2)
  {x:α} {b:β} (hx:iter step x=some b) {S:St} {π:List Nat} (hS:ou base π S (I x)) {K:Ex->St->Prop} (hK:K (X b).1 (X b).2):(fY P N out base).loop c S K:=by
 obtain ⟨n,hn⟩:=ov hx
 intro body hbody Y ι μ a w ho hb hR
 refine pW (fun (n:Nat) a w=>∃Y1,Ext P Y Y1/\∃x ι μ,iH P N Y1 ι μ (I x) a w/\gp step n x=some b) id (x:=n) ⟨Y,.refl Y,x,ι,_,hS.rep hb hR,hn⟩ ?_
 rintro n a w ⟨Y0,hY0,x,ι,μ,hR,hx⟩
 cases n with
 |zero=>cases hx
 |succ n =>
  simp only [gp] at hx
  split at hx
  ·cases hx
  ·rename_i y e
   refine wpIn_mono (Aj (iY gL body hbody (hstep x _ e)) hY0 ho hb hR) fun e a' w' hp=>?_
   obtain ⟨Y1,hY,ι',μ',S',e',h1,h2,rfl,π',h3⟩:=hp
   cases h2
   exact ⟨n,⟨Y1,hY,y,ι',_,h3.rep (hY.BO hb) h1,hx⟩,Nat.lt_succ_self n⟩
  ·rename_i b' e
   cases hx
   refine wpIn_mono (Aj (iY gL body hbody (hstep x _ e)) hY0 ho hb hR) fun e a' w' hp=>?_
   obtain ⟨Y1,hY,ι',μ',S',e',h1,h2,hne,h3,π',h4⟩:=hp
   have hp:Post P N Y K e a' w':=⟨Y1,hY,ι',_,_,_,h4.rep (hY.BO hb) h1,by rw [<-h3];exact h2,hK⟩
   cases e' with
   |normal=>exact absurd rfl hne
   |exit id=>cases h2;exact hp
   |ret=>cases h2;exact hp
end
abbrev Env:=List (Nat×V)
section
variable {P:Program} {N:Nat} {Y:Ctx} {ι ι':aA} {μ μ':Mu} {H H':aK} {w w':World} {out:Option Nat} {base:Nat}
end
def goL {E α β : Type} (step : E → α → Option (α ⊕ β)) : List E → α → Option (α ⊕ β)
 |[],x=>some (.inl x)
 |e::r,x=>match step e x with
  |none=>none
  |some (.inl y)=>goL step r y
  |some (.inr b)=>some (.inr b)
def Zk {E α : Type} (step : E → α → Option α) : List E → α → Option α
 |[],x=>some x
 |e::r,x=>match step e x with
  |none=>none
  |some y=>Zk step r y
noncomputable def vP {E B:Type} (f:List E->Option B) (es:List E):Option B:=by
 classical exact if h:∃b,∀l:List E,l.Perm es->f l=some b then some h.choose else none
section
variable {P:Program} {N:Nat} {Y:Ctx} {ι ι':aA} {μ μ':Mu} {H H':aK} {w w':World} {out:Option Nat} {base:Nat}
end
section
variable {P:Program} {N:Nat} {Y:Ctx} {ι ι':aA} {μ μ':Mu} {H H':aK} {w w':World} {out:Option Nat} {base:Nat}
end
section
variable {P:Program} {N:Nat} {Y:Ctx} {ι ι':aA} {μ μ':Mu} {H H':aK} {w w':World} {out:Option Nat} {base:Nat}
end
end Go.AM
end
section
namespace Go.AM
structure Kz (R:Type) where
 br:Bool->R->R->R
 am:R->R->R
 nd:Bool->R->R
 no:R
 bd:{A:Type}->Option A->(A->R)->R
 sm:{A B:Type}->A ⊕ B->(A->R)->(B->R)->R
 an:{E:Type}->List E->(List E->R)->R
noncomputable def need {X:Type} (c:Bool) (x:Option X):Option X:=@ite _ (c=true) (Classical.propDecidable _) x none
noncomputable def jN {X:Type} (c:Bool) (x y:Option X):Option X:=@ite _ (c=true) (Classical.propDecidable _) x y
noncomputable def yf {X:Type} (x y:Option X):Option X:=@ite _ (x=y) (Classical.propDecidable _) x none
noncomputable def cz {A X:Type} (o:Option A) (f:A->Option X):Option X:=@dite _ (∃a,o=some a) (Classical.propDecidable _) (fun h=>f h.choose) (fun _=>none)
@[reducible] noncomputable def gv (X:Type):Kz (Option X) where
 br c a b:=jN c a b
 am a b:=yf a b
 nd c a:=need c a
 no:=none
 bd o f:=cz o f
 sm s f g:=match s with
  | .inl a=>f a
  | .inr b=>g b
 an es f:=vP f es
theorem DE {X:Type} {x y:Option X} {r:X} (h:yf x y=some r):x=some r/\y=some r:=by
 unfold yf at h
 split at h
 ·rename_i e;exact ⟨h,e▸h⟩
 ·cases h
@[simp] theorem uu {X:Type} {x:Option X}:yf x x=x:=by unfold yf;rw [if_pos rfl]
theorem dL {X:Type} {c:Bool} {x:Option X} (h:c=true):need c x=x:=by unfold need;rw [if_pos h]
@[simp] theorem ax {X:Type} {x:Option X}:need true x=x:=dL rfl
@[simp] theorem Pj {X:Type} {x:Option X}:need false x=none:=by unfold need;rw [if_neg (by simp)]
@[simp] theorem GK {X:Type} {x y:Option X}:jN true x y=x:=by unfold jN;rw [if_pos rfl]
@[simp] theorem uv {X:Type} {x y:Option X}:jN false x y=y:=by unfold jN;rw [if_neg (by simp)]
@[simp] theorem aP {A X:Type} {a:A} {f:A->Option X}:cz (some a) f=f a:=by
 have h:∃b,some a=some b:=⟨a,rfl⟩
 unfold cz;rw [dif_pos h]
 have:=h.choose_spec
 rw [<-Option.some.inj this]
@[simp] theorem k6 {A X:Type} {f:A->Option X}:cz none f=none:=by
 unfold cz;rw [dif_neg];rintro ⟨a,h⟩;cases h
theorem uw {X:Type} {c:Bool} {x:Option X} {r:X} (h:need c x=some r):c=true/\x=some r:=by
 cases c<;>simp at h ⊢;exact h
theorem cO {A X:Type} {o:Option A} {f:A->Option X} {r:X} (h:cz o f=some r):∃a,o=some a/\f a=some r:=by
 cases o<;>simp at h ⊢;exact h
theorem B4 {X A:Type} {o:Option A} {f:A->Option X} {r:X} (h:(gv X).bd o f=some r):∃a,o=some a/\f a=some r:=cO h
theorem eK {X:Type} {c:Bool} {x y:Option X} {r:X} (h:jN c x y=some r):(c=true/\x=some r)\/(c=false/\y=some r):=by
 cases c<;>simp at h ⊢<;>exact h
section
variable {R:Type}
def fV (v:V) (k:V->R):R:=match v with
 | .any=>k .any
 | .tf b=>match b with
  |true=>k (.tf true)
  |false=>k (.tf false)
 | .bool b=>k (.bool b)
 | .int ik n=>k (.int ik n)
 | .str s=>k (.str s)
 | .ee=>k .ee
 | .cw=>k .cw
 | .ek=>k .ek
 | .dS t xs=>k (.dS t xs)
 | .bK=>k .bK
 | .sl id t lo n=>k (.sl id t lo n)
 | .ptr id off=>k (.ptr id off)
 | .bR cs=>k (.bR cs)
 | .ep id t i p=>k (.ep id t i p)
 | .ip t x=>k (.ip t x)
 | .fn f a b=>k (.fn f a b)
 | .yl id=>k (.yl id)
 | .agg cs=>k (.agg cs)
 | .cq vs=>k (.cq vs)
 | .cn t v=>k (.cn t v)
 | .cb c=>k (.cb c)
 | .mp id=>k (.mp id)
 | .dA=>k .dA
 | .pa id t n=>k (.pa id t n)
 | .iN t xs=>k (.iN t xs)
 | .sp id o l=>k (.sp id o l)
theorem jO (v:V) (k:V->R):fV v k=k v:=by
 cases v<;>try rfl
 rename_i b;cases b<;>rfl
def fN (n:Nat) (k:Nat->R):R:=match n with
 |0=>k 0
 |n+1=>k (n+1)
theorem gO (n:Nat) (k:Nat->R):fN n k=k n:=by cases n<;>rfl
def pZ (d:Option Nat) (v:V) (env:Env) (k:Env->R):R:=match d with
 |some t=>k ((t,v)::env)
 |none=>k env
theorem ir (d:Option Nat) (v:V) (env:Env) (k:Env->R):pZ d v env k=k (put d v env):=by cases d<;>rfl
def lH (id : Nat) : aj → (aj → R) → R
 |[],k=>k []
 |(s,b)::r,k=>match Nat.beq s id with
  |true=>lH id r k
  |false=>lH id r fun r'=>k ((s,b)::r')
theorem gP (id : Nat) : ∀ (bl : aj) (k : aj → R), lH id bl k = k (bH id bl)
 |[],k=>rfl
 |(s,b)::r,k=>by
  simp only [lH,bH]
  split<;>rename_i h<;>simp only [h]<;>exact gP id r _
def eM : cU → aj → (aj → R) → R
 |[],bl,k=>k bl
 |(id,none)::r,bl,k=>lH id bl fun bl=>eM r bl k
 |(id,some b)::r,bl,k=>lH id bl fun bl=>eM r ((id,b)::bl) k
theorem dM : ∀ (u : cU) (bl : aj) (k : aj → R), eM u bl k = k (bD u bl)
 |[],_,_=>rfl
 |(id,none)::r,bl,k=>by simp only [eM,gP,bD];exact dM r _ k
 |(id,some b)::r,bl,k=>by simp only [eM,gP,bD];exact dM r _ k
def nc (kz : Kz R) : List Bool → R → R
 |[],k=>k
 |b::r,k=>kz.nd b (nc kz r k)
structure Cx where
 pc:{R:Type}->Kz R->Nat->List V->(V->R)->R
 ca:{R:Type}->Kz R->Nat->List V->Nat->aj->(V->Nat->aj->R)->R
 rd:{R:Type}->Kz R->Nat->List V->Nat->aj->(V->Nat->aj->R)->R
 op:Nat:=0
 gc:{R:Type}->Kz R->Nat->List V->Nat->aj->R->(V->List Nat->cU->R)->R:=fun _ _ _ _ _ d _=>d
def X5 (P:Program) (f:Nat) (vs:List V) (n:Nat) (bl:aj) (v:V) (jV:List Nat) (u:cU):Prop:=∀bG,(∀id∈jV,aq id bG=aq id bl)->Gc P f vs bG n v u
structure Cx.Ok (P:Program) (cx:Cx):Prop where
 SK:∀{X:Type} {f:Nat} {vs:List V} {K:V->Option X} {r:X},cx.pc (gv X) f vs K=some r->∃v,gY P f vs v/\K v=some r
 Pk:∀{X:Type} {f:Nat} {vs:List V} {nx:Nat} {bl:aj} {K:V->Nat->aj->Option X} {r:X},cx.ca (gv X) f vs nx bl K=some r ->
  ∀{Q:V->aK->Prop},(∀v nx bl,K v nx bl=some r->Q v ⟨nx,bl⟩)->eI P f vs ⟨nx,bl⟩ Q
 X6:∀{X:Type} {id:Nat} {vs:List V} {nx:Nat} {bl:aj} {K:V->Nat->aj->Option X} {r:X},cx.rd (gv X) id vs nx bl K=some r ->
  ∀{Q:V->aK->Prop},(∀v nx bl,K v nx bl=some r->Q v ⟨nx,bl⟩)->around P id vs ⟨nx,bl⟩ Q
 TS:∀{X:Type} {f:Nat} {vs:List V} {n:Nat} {bl:aj} {d:Option X} {K:V->List Nat->cU->Option X} {r:X},cx.gc (gv X) f vs n bl d K=some r->d=some r\/∃v jV u,X5 P f vs n bl v jV u/\K v jV u=some r
def vQ (kz:Kz R) (g:Option (Nat×Bool)) (env:Env) (skip run:Env->R):R:=match g with
 |none=>run env
 |some (s,b)=>match get s env with
  | .tf c=>match c,b with
   |true,true=>run env
   |false,false=>run env
   |true,false=>skip env
   |false,true=>skip env
  | .bool c => kz.br c
   (match b with
    |true=>run ((s,.tf true)::env)
    |false=>skip ((s,.tf true)::env))
   (match b with
    |false=>run ((s,.tf false)::env)
    |true=>skip ((s,.tf false)::env))
  | .cq _=>skip env
  |_=>kz.no
def NM (kz:Kz R) (op:Nat) (ar:Ar) (bl:aj) (k:aj->R):R:=match op with
 |0=>k bl
 |n+1=>match (match n with
   |0=>Ft bl
   |_+1=>u6 bl) with
  |[]=>k bl
  |ids=>match E2 ar ids bl with
   |some u=>eM u bl k
   |none=>kz.no
def Zl : Nat → Nat
 |0=>0
 |_+1=>1
def kI (kz : Kz R) (cx : Cx) (ar : Ar) : List dB → Env → Nat → aj → (Env → Nat → aj → R) → R
 |[],env,nx,bl,K=>K env nx bl
 | .op d g i::r,env,nx,bl,K=>vQ kz g env (fun env=>pZ d (.cq []) env fun env=>kI kz cx ar r env nx bl K) fun env =>
   match cx.op with
   |0=>(match SJ ar i env bl nx with
    |some (ob,v,u)=>nc kz ob (fV v fun v=>pZ d v env fun env=>match i.dU with
     |true=>fN (nx+1) fun nx=>eM u bl fun bl=>kI kz cx ar r env nx bl K
     |false=>eM u bl fun bl=>kI kz cx ar r env nx bl K)
    |none=>kz.no)
   |_+1=>match tg ar i env bl nx with
    |some (ob,v,u)=>nc kz ob (fV v fun v=>pZ d v env fun env=>match i.dU with
     |true=>fN (nx+1) fun nx=>eM u bl fun bl=>kI kz cx ar r env nx bl K
     |false=>eM u bl fun bl=>kI kz cx ar r env nx bl K)
    |none=>match SJ ar i env bl nx with
     |some (ob,v,u)=>nc kz ob (fV v fun v=>pZ d v env fun env=>match i.dU with
      |true=>fN (nx+1) fun nx=>eM u bl fun bl=>kI kz cx ar r env nx bl K
      |false=>eM u bl fun bl=>kI kz cx ar r env nx bl K)
     |none=>NM kz 1 ar bl fun bl=>match SJ ar i env bl nx with
      |some (ob,v,u)=>nc kz ob (fV v fun v=>pZ d v env fun env=>match i.dU with
       |true=>fN (nx+1) fun nx=>eM u bl fun bl=>kI kz cx ar r env nx bl K
       |false=>eM u bl fun bl=>kI kz cx ar r env nx bl K)
      |none=>kz.no
 | .call d g f a tys::r,env,nx,bl,K=>vQ kz g env (fun env=>pZ d (.cq []) env fun env=>kI kz cx ar r env nx bl K) fun env=>NM kz (Zl cx.op) ar bl fun bl =>
   match f.ev env with
   | .fn f fs cs=>cx.ca kz f (fs++bX tys (a.map (·.ev env))++cs) nx bl fun v nx bl=>fV v fun v=>pZ d v env fun env=>kI kz cx ar r env nx bl K
   | .yl id=>cx.rd kz id (bX tys (a.map (·.ev env))) nx bl fun v nx bl=>fV v fun v=>pZ d v env fun env=>kI kz cx ar r env nx bl K
   |_=>kz.no
def rT (kz:Kz R) (gs:List Nat) (d:Option Nat) (v:V) (env:Env) (K:Env->R):R:=match d with
 |none=>K env
 |some t=>match tj t gs with
  |false=>K ((t,v)::env)
  |true=>match v with
   | .bool c=>kz.br c (K ((t,.tf true)::env)) (K ((t,.tf false)::env))
   |v=>K ((t,v)::env)
def GL (kz : Kz R) (cx : Cx) (ar : Ar) (gs : List Nat) (b : Nat) : List dB → Nat → Env → aj → List DR → (Env → aj → List DR → R) → R
 |[],_,env,bl,bW,K=>K env bl bW
 | .op d g i::r,k,env,bl,bW,K=>match zU g env with
  |some true=>match (match cx.op with
    |0=>none
    |_+1=>tg ar i env bl (b+k)) with
   |some (ob,v,u)=>nc kz ob (fV v fun v=>rT kz gs d v env fun env'=>eM u bl fun bl=>GL kz cx ar gs b r (k+1) env' bl (n3 k (jT i env) (u.map (·.1)) bW) K)
   |none=>match SJ ar i env bl (b+k) with
    |some (ob,v,u)=>nc kz ob (fV v fun v=>rT kz gs d v env fun env'=>eM u bl fun bl=>GL kz cx ar gs b r (k+1) env' bl (n3 k (jT i env) (u.map (·.1)) bW) K)
    |none=>kz.no
  |some false=>pZ d (.cq []) env fun env=>GL kz cx ar gs b r (k+1) env bl bW K
  |none=>kz.no
 | .call d g f a tys::r,k,env,bl,bW,K=>match zU g env with
  |some true=>match f.ev env with
   | .fn f fs cs=>match fs++bX tys (a.map (·.ev env))++cs with
    |vs=>cx.gc kz f vs (b+k) bl (match cM (fin ar bl 8) vs with
     |some vs'=>cx.pc kz f vs' fun x=>fV x fun x=>match xB x||vs.all (cV 8) with
      |true=>rT kz gs d x env fun env'=>GL kz cx ar gs b r (k+1) env' bl (n3 k (gj bl vs) [] bW) K
      |false=>match qF (gj bl vs) bl with
       |some u=>rT kz gs d x env fun env'=>eM u bl fun bG=>GL kz cx ar gs b r (k+1) env' bG (n3 k (gj bl vs) (u.map (·.1)) bW) K
       |none=>kz.no
     |none=>kz.no) fun x jV u=>rT kz gs d x env fun env'=>eM u bl fun bG=>GL kz cx ar gs b r (k+1) env' bG (n3 k jV (u.map (·.1)) bW) K
   |_=>kz.no
  |some false=>pZ d (.cq []) env fun env=>GL kz cx ar gs b r (k+1) env bl bW K
  |none=>kz.no
end
abbrev Kc (R:Type):=Ex->Env->Nat->aj->List Nat->R
structure bp (P:Program) (N:Nat) (out:Option Nat) (base:Nat):Type 1 where
 c:C
 run:{R:Type}->Kz R->Env->Nat->aj->List Nat->Kc R->R
 ok:∀{X:Type} {env:Env} {nx:Nat} {bl:aj} {ms:List Nat} {K:Kc (Option X)} {r:X},run (gv X) env nx bl ms K=some r ->
  ∀{Q:Ex->St->Prop},(∀e env nx bl ms,K e env nx bl ms=some r->Q e ⟨env,⟨nx,bl⟩,ms⟩)->(fY P N out base).loop c ⟨env,⟨nx,bl⟩,ms⟩ Q
structure iI (P:Program) (N:Nat) (out:Option Nat) (base:Nat):Type 1 where
 f:O
 ps:List Nat
 a:C
 b:C
 run:{R:Type}->Kz R->Env->Nat->aj->List Nat->Kc R->R
 ok:∀{X:Type} {env:Env} {nx:Nat} {bl:aj} {ms:List Nat} {K:Kc (Option X)} {r:X},run (gv X) env nx bl ms K=some r ->
  ∀{Q:Ex->St->Prop},(∀e env nx bl ms,K e env nx bl ms=some r->Q e ⟨env,⟨nx,bl⟩,ms⟩)->(fY P N out base).cA f ps a b ⟨env,⟨nx,bl⟩,ms⟩ Q
structure Pm (P:Program) (N:Nat) (out:Option Nat) (base:Nat):Type 1 where
 pre:List dB
 m:O
 it:Nat
 cl:List Nat
 e:Option Nat
 kt:Ty
 kg:Bool
 vt:Ty
 vg:Bool
 Ju:Nat
 b:C
 run:{R:Type}->Kz R->Env->Nat->aj->List Nat->Kc R->R
 ok:∀{X:Type} {env:Env} {nx:Nat} {bl:aj} {ms:List Nat} {K:Kc (Option X)} {r:X},run (gv X) env nx bl ms K=some r ->
  ∀{Q:Ex->St->Prop},(∀e env nx bl ms,K e env nx bl ms=some r->Q e ⟨env,⟨nx,bl⟩,ms⟩)->(fY P N out base).gD (.gD pre m it cl e kt kg vt vg Ju b) ⟨env,⟨nx,bl⟩,ms⟩ Q
structure Aw (P:Program) (N:Nat) (out:Option Nat) (base:Nat) (f:O) (ps:List Nat) (a b:C):Type 1 where
 run:{R:Type}->Kz R->Env->Nat->aj->List Nat->Kc R->R
 ok:∀{X:Type} {env:Env} {nx:Nat} {bl:aj} {ms:List Nat} {K:Kc (Option X)} {r:X},run (gv X) env nx bl ms K=some r ->
  ∀{Q:Ex->St->Prop},(∀e env nx bl ms,K e env nx bl ms=some r->Q e ⟨env,⟨nx,bl⟩,ms⟩)->(fY P N out base).cA f ps a b ⟨env,⟨nx,bl⟩,ms⟩ Q
def Aw.s {P:Program} {N:Nat} {out:Option Nat} {base:Nat} {f:O} {ps:List Nat} {a b:C} (T:Aw P N out base f ps a b):iI P N out base:=⟨f,ps,a,b,T.run,T.ok⟩
inductive D (P:Program) (N:Nat) (out:Option Nat) (base:Nat):Type 1 where
 |skip
 |dg (items:List dB)
 |draw (bN:List (List Nat)) (items:List dB)
 |seq (a b:D P N out base)
 |cond (c:O) (a b:D P N out base)
 |block (id:Nat) (c:D P N out base)
 |loop (l:bp P N out base)
 |exit (id:Nat)
 |ret
 |cA (l:iI P N out base)
 |gD (l:Pm P N out base)
section
variable {P:Program} {N:Nat} {out:Option Nat} {base:Nat} {R:Type}
def D.er : D P N out base → C
 | .skip=>.skip
 | .dg is=>.dg is
 | .draw ps is=>.draw ps is
 | .seq a b=>.seq a.er b.er
 | .cond c a b=>.cond c a.er b.er
 | .block id c=>.block id c.er
 | .loop l=>.loop l.c
 | .exit id=>.exit id
 | .ret=>.ret
 | .cA l=>.cA l.f l.ps l.a l.b
 | .gD l=>.gD l.pre l.m l.it l.cl l.e l.kt l.kg l.vt l.vg l.Ju l.b
def SL (c:O) (b:Bool) (env:Env):Env:=match c with
 | .t n=>(n,.tf b)::env
 | .c _=>env
 | .m _ _=>env
def kE (kz : Kz R) (cx : Cx) (ar : Ar) : D P N out base → Env → Nat → aj → List Nat → Kc R → R
 | .skip,env,nx,bl,ms,K=>K .normal env nx bl ms
 | .dg is,env,nx,bl,ms,K=>kI kz cx ar is env nx bl fun env nx bl=>K .normal env nx bl ms
 | .draw ps is,env,nx,bl,ms,K=>GL kz cx ar (qI is) nx is 0 env bl [] fun env bl bW=>match BD ps bW with
  |true=>fN (nx+is.length) fun nx=>K .normal env nx bl ms
  |false=>kz.no
 | .seq a b,env,nx,bl,ms,K=>kE kz cx ar a env nx bl ms fun e env nx bl ms=>match e with
  | .normal=>kE kz cx ar b env nx bl ms K
  | .exit id=>K (.exit id) env nx bl ms
  | .ret=>K .ret env nx bl ms
 | .cond c a b,env,nx,bl,ms,K=>match c.ev env with
  | .tf true=>kE kz cx ar a env nx bl ms K
  | .tf false=>kE kz cx ar b env nx bl ms K
  | .bool x=>kz.br x (kE kz cx ar a (SL c true env) nx bl ms K) (kE kz cx ar b (SL c false env) nx bl ms K)
  | .cb x=>kz.br x (kz.am (kE kz cx ar a (SL c true env) nx bl ms K) (kE kz cx ar b (SL c false env) nx bl ms K)) (kE kz cx ar b (SL c false env) nx bl ms K)
  |_=>kz.no
 | .block id c,env,nx,bl,ms,K=>kE kz cx ar c env nx bl ms fun e env nx bl ms=>match e with
  | .normal=>K .normal env nx bl ms
  | .exit id'=>match Nat.beq id' id with
   |true=>K .normal env nx bl ms
   |false=>K (.exit id') env nx bl ms
  | .ret=>K .ret env nx bl ms
 | .loop l,env,nx,bl,ms,K=>NM kz cx.op ar bl fun bl=>l.run kz env nx bl ms K
 | .exit id,env,nx,bl,ms,K=>K (.exit id) env nx bl ms
 | .ret,env,nx,bl,ms,K=>K .ret env nx bl ms
 | .cA l,env,nx,bl,ms,K=>NM kz cx.op ar bl fun bl=>l.run kz env nx bl ms K
 | .gD l,env,nx,bl,ms,K=>NM kz cx.op ar bl fun bl=>l.run kz env nx bl ms K
variable {X:Type} {cx:Cx}
theorem jE {ob:List Bool} {x:Option X} {r:X} (h:nc (gv X) ob x=some r):pR ob/\x=some r:=by
 induction ob with
 |nil=>exact ⟨trivial,h⟩
 |cons b l ih =>
  obtain ⟨h1,h2⟩:=uw h
  obtain ⟨h3,h4⟩:=ih h2
  cases l with
  |nil=>exact ⟨h1,h4⟩
  |cons c l=>exact ⟨⟨h1,h3⟩,h4⟩
theorem ux {g : Option (Nat × Bool)} {env : Env} {nx : Nat} {bl : aj} {ms : List Nat} {skip run : Env → Option X} {r : X} (h : vQ (gv X) g env skip run = some r) {d : Option Nat} {K run' : St → Prop}
  (hs:∀env,skip env=some r->K ⟨put d (.cq []) env,⟨nx,bl⟩,ms⟩) (hr:∀env,run env=some r->run' ⟨env,⟨nx,bl⟩,ms⟩):kR g d ⟨env,⟨nx,bl⟩,ms⟩ K run':=by
 unfold vQ at h
 unfold kR
 split at h
 ·exact hr _ h
 ·rename_i s b
  simp only
  split at h
  ·rename_i c hc
   rw [hc]
   cases c<;>cases b<;>simp only at h ⊢
   ·exact hr _ h
   ·exact hs _ h
   ·exact hs _ h
   ·exact hr _ h
  ·rename_i c hc
   rw [hc]
   rcases eK h with ⟨e,h⟩|⟨e,h⟩
   ·refine ⟨fun _ => ?_, fun e' => by rw [e] at e'; cases e'⟩
    cases b<;>simp only at h ⊢
    ·exact hs _ h
    ·exact hr _ h
   ·refine ⟨fun e' => (by rw [e] at e'; cases e'), fun _ => ?_⟩
    cases b<;>simp only at h ⊢
    ·exact hr _ h
    ·exact hs _ h
  ·rename_i hc
   rw [hc]
   exact hs _ h
  ·cases h
theorem GM {op:Nat} {bl:aj} {k:aj->Option X} {r:X} (h:NM (gv X) op bL bl k=some r):k bl=some r\/∃ids u,E2 (fY P N out base) ids bl=some u/\k (bD u bl)=some r:=by
 unfold NM at h
 split at h
 ·exact .inl h
 ·split at h
  ·exact .inl h
  ·split at h <;> try (cases h; done)
   rename_i u hu
   rw [dM] at h
   exact .inr ⟨_,u,by unfold fY;rw [Gy];exact hu,h⟩
theorem vR {op:Nat} {env:Env} {nx:Nat} {bl:aj} {ms:List Nat} {k:aj->Option X} {r:X} (h:NM (gv X) op bL bl k=some r) {K:St->Prop} (hK:∀bl,k bl=some r->K ⟨env,⟨nx,bl⟩,ms⟩):Fu (fY P N out base) ⟨env,⟨nx,bl⟩,ms⟩ K:=by
 rcases GM (P:=P) (N:=N) (out:=out) (base:=base) h with h|⟨ids,u,hu,h⟩
 ·exact .inl (hK _ h)
 ·exact .inr ⟨ids,u,hu,hK _ h⟩
theorem nh (jd:cx.Ok P):∀{is:List dB} {env:Env} {nx:Nat} {bl:aj} {ms:List Nat} {K:Env->Nat->aj->Option X} {r:X} {Q:St->Prop},kI (gv X) cx bL is env nx bl K=some r ->
  (∀env nx bl,K env nx bl=some r->Q ⟨env,⟨nx,bl⟩,ms⟩)->ef (fY P N out base) is ⟨env,⟨nx,bl⟩,ms⟩ Q
 |[],env,nx,bl,ms,K,r,Q,h,hK=>hK _ _ _ h
 | .op d g i::is,env,nx,bl,ms,K,r,Q,h,hK=>by
  simp only [kI] at h
  simp only [ef]
  have body:∀{env:Env} {bl:aj} {ob:List Bool} {v:V} {u:cU},SJ bL i env bl nx=some (ob,v,u) ->
    nc (gv X) ob (fV v fun v=>pZ d v env fun env=>match i.dU with
     |true=>fN (nx+1) fun nx=>eM u bl fun bl=>kI (gv X) cx bL is env nx bl K
     |false=>eM u bl fun bl=>kI (gv X) cx bL is env nx bl K)=some r ->
    cg (fY P N out base) i env bl nx=some (ob,v,u)/\pR ob/\ef (fY P N out base) is ⟨put d v env,⟨E3 i.dU nx,bD u bl⟩,ms⟩ Q:=by
   intro env bl ob v u ah h
   obtain ⟨cE,h⟩:=jE h
   rw [jO,ir] at h
   rw [GG] at ah
   refine ⟨by unfold fY;rw [Gw];exact ah,cE,?_⟩
   split at h
   ·rename_i hl
    rw [gO,dM] at h
    simp only [hl,E3]
    exact nh jd h hK
   ·rename_i hl
    rw [dM] at h
    simp only [hl,E3]
    exact nh jd h hK
  refine ux h (fun env h=>?_) (fun env h=>?_)
  ·rw [ir] at h;exact nh jd h hK
  ·split at h
   ·split at h
    ·rename_i ob v u ah
     obtain ⟨h1,h2,h3⟩:=body ah h
     exact vM h1 h2 h3
    ·cases h
   ·split at h
    ·rename_i ob v u ah
     obtain ⟨cE,h⟩:=jE h
     rw [jO,ir] at h
     refine Pe (by unfold fY;rw [Gx];exact ah) cE ?_
     split at h
     ·rename_i hl
      rw [gO,dM] at h
      simp only [hl,E3]
      exact nh jd h hK
     ·rename_i hl
      rw [dM] at h
      simp only [hl,E3]
      exact nh jd h hK
    ·split at h
     ·rename_i ob v u ah
      obtain ⟨h1,h2,h3⟩:=body ah h
      exact vM h1 h2 h3
     ·rcases GM (P := P) (N := N) (out := out) (base := base) h with h | ⟨ids, u', hu, h⟩
      ·split at h
       ·rename_i ob v u ah
        obtain ⟨h1,h2,h3⟩:=body ah h
        exact vM h1 h2 h3
       ·cases h
      ·split at h
       ·rename_i ob v u ah
        obtain ⟨h1,h2,h3⟩:=body ah h
        exact Pf hu h1 h2 h3
       ·cases h
 | .call d g f a tys::is,env,nx,bl,ms,K,r,Q,h,hK=>by
  simp only [kI] at h
  simp only [ef]
  refine ux h (fun env h=>?_) (fun env h=>?_)
  ·rw [ir] at h;exact nh jd h hK
  ·simp only [zS]
   refine vR h fun bl h=>?_
   simp only [qi]
   split at h
   ·rename_i f' fs cs hf
    rw [hf]
    refine jd.Pk h fun v nx bl h=>?_
    rw [jO,ir] at h
    exact nh jd h hK
   ·rename_i id hf
    rw [hf]
    refine jd.X6 h fun v nx bl h=>?_
    rw [jO,ir] at h
    exact nh jd h hK
   ·cases h
theorem kF {gs:List Nat} {d:Option Nat} {v:V} {env:Env} {K:Env->Option X} {r:X} (h:rT (gv X) gs d v env K=some r) {K':Env->Prop} (hK:∀env,K env=some r->K' env):vk gs d v env K':=by
 unfold rT at h
 unfold vk
 cases d with
 |none=>exact hK _ h
 |some t =>
  simp only at h ⊢
  split at h
  ·rename_i hm;rw [hm];exact hK _ h
  ·rename_i hm
   rw [hm]
   simp only
   split at h
   ·rename_i c
    simp only
    rcases eK h with ⟨e,h⟩|⟨e,h⟩
    ·exact ⟨fun _=>hK _ h,fun e'=>by rw [e] at e';cases e'⟩
    ·exact ⟨fun e'=>(by rw [e] at e';cases e'),fun _=>hK _ h⟩
   ·rename_i hv
    have:=hK _ h
    cases v<;>first|exact this|exact (hv _ rfl).elim
theorem kG (jd:cx.Ok P) {gs:List Nat} {b:Nat}:∀{is:List dB} {k:Nat} {env:Env} {bl:aj} {bW:List DR} {K:Env->aj->List DR->Option X} {r:X} {Q:Env->aj->List DR->Prop},
  GL (gv X) cx bL gs b is k env bl bW K=some r->(∀env bl bW,K env bl bW=some r->Q env bl bW)->lU (fY P N out base) gs b is k env bl bW Q
 |[],k,env,bl,bW,K,r,Q,h,hK=>hK _ _ _ h
 | .op d g i::is,k,env,bl,bW,K,r,Q,h,hK=>by
  simp only [GL] at h
  simp only [lU]
  split at h
  ·rename_i hg
   rw [hg]
   split at h
   ·rename_i ob v u ah
    obtain ⟨cE,h⟩:=jE h
    rw [jO] at h
    have Pn:tg (fY P N out base) i env bl (b+k)=some (ob,v,u):=by
     unfold fY;rw [Gx]
     split at ah
     ·cases ah
     ·exact ah
    refine .inr (tQ Pn cE (kF h fun env h=>?_))
    rw [dM] at h
    exact kG jd h hK
   ·split at h
    ·rename_i ob v u ah
     obtain ⟨cE,h⟩:=jE h
     rw [jO] at h
     rw [GG] at ah
     have Pn:cg (fY P N out base) i env bl (b+k)=some (ob,v,u):=by unfold fY;rw [Gw];exact ah
     refine .inl (tQ Pn cE (kF h fun env h=>?_))
     rw [dM] at h
     exact kG jd h hK
    ·cases h
  ·rename_i hg
   rw [hg]
   rw [ir] at h
   exact kG jd h hK
  ·cases h
 | .call d g f a tys::is,k,env,bl,bW,K,r,Q,h,hK=>by
  simp only [GL] at h
  simp only [lU]
  split at h
  ·rename_i hg
   rw [hg]
   split at h
   ·rename_i f' fs cs hf
    rw [hf]
    rcases jd.TS h with h|⟨v,jV,u,hp,h⟩
    ·left
     split at h
     ·rename_i vs' hm
      obtain ⟨v,hp,h⟩:=jd.SK h
      rw [jO] at h
      have e:cM (fin (fY P N out base) bl 8)=cM (fin bL bl 8):=funext fun vs=>jC (fun v=>by unfold fY;exact rJ) vs
      simp only [e,hm]
      split at h
      ·rename_i hsc
       exact ⟨v,[],hp,by rw [hsc];rfl,kF h fun env h=>kG jd h hK⟩
      ·rename_i hsc
       split at h
       ·rename_i u hu
        exact ⟨v,u,hp,by rw [hsc];exact hu,kF h fun env h=>kG jd (by rw [dM] at h;exact h) hK⟩
       ·cases h
     ·cases h
    ·exact .inr ⟨jV,v,u,hp,kF h fun env h=>kG jd (by rw [dM] at h;exact h) hK⟩
   ·cases h
  ·rename_i hg
   rw [hg]
   rw [ir] at h
   exact kG jd h hK
  ·cases h
theorem rU (jd:cx.Ok P):∀{d:D P N out base} {env:Env} {nx:Nat} {bl:aj} {ms:List Nat} {K:Kc (Option X)} {r:X} {Q:Ex->St->Prop},kE (gv X) cx bL d env nx bl ms K=some r ->
  (∀e env nx bl ms,K e env nx bl ms=some r->Q e ⟨env,⟨nx,bl⟩,ms⟩)->pU (fY P N out base) d.er ⟨env,⟨nx,bl⟩,ms⟩ Q:=by
 intro d
 induction d with
 |skip=>intro env nx bl ms K r Q h hK;exact hK _ _ _ _ _ h
 |dg is=>intro env nx bl ms K r Q h hK;exact nh jd h fun env nx bl h=>hK _ _ _ _ _ h
 |draw ps is =>
  intro env nx bl ms K r Q h hK
  refine kG jd h fun env bl bW h=>?_
  split at h
  ·rename_i hd
   rw [gO] at h
   exact ⟨hd,hK _ _ _ _ _ h⟩
  ·cases h
 |seq a b Ay zG =>
  intro env nx bl ms K r Q h hK
  refine Ay h fun e env nx bl ms h=>?_
  cases e with
  |normal=>exact zG h hK
  |exit id=>exact hK _ _ _ _ _ h
  |ret=>exact hK _ _ _ _ _ h
 |cond c a b Ay zG =>
  intro env nx bl ms K r Q h hK
  simp only [kE] at h
  simp only [D.er,pU]
  have hrw:∀x env,JQ c x ⟨env,⟨nx,bl⟩,ms⟩=⟨SL c x env,⟨nx,bl⟩,ms⟩:=fun x env=>by cases c<;>rfl
  split at h
  ·rename_i hc;rw [hc];exact Ay h hK
  ·rename_i hc;rw [hc];exact zG h hK
  ·rename_i x hc
   rw [hc]
   rcases eK h with ⟨e,h⟩|⟨e,h⟩
   ·refine ⟨fun _ => ?_, fun e' => by rw [e] at e'; cases e'⟩
    rw [hrw];exact Ay h hK
   ·refine ⟨fun e' => (by rw [e] at e'; cases e'), fun _ => ?_⟩
    rw [hrw];exact zG h hK
  ·rename_i x hc
   rw [hc]
   rcases eK h with ⟨e,h⟩|⟨e,h⟩
   ·obtain ⟨h1, h2⟩ := DE h
    exact ⟨fun _=>by rw [hrw];exact Ay h1 hK,by rw [hrw];exact zG h2 hK⟩
   ·exact ⟨fun e'=>(by rw [e] at e';cases e'),by rw [hrw];exact zG h hK⟩
  ·cases h
 |block id c ih =>
  intro env nx bl ms K r Q h hK
  refine ih h fun e env nx bl ms h=>?_
  cases e with
  |normal=>exact hK _ _ _ _ _ h
  |exit id' =>
   simp only at h ⊢
   split at h
   ·rename_i e;rw [e];exact hK _ _ _ _ _ h
   ·rename_i e;rw [e];exact hK _ _ _ _ _ h
  |ret=>exact hK _ _ _ _ _ h
 |loop l=>intro env nx bl ms K r Q h hK;exact vR h fun bl h=>l.ok h hK
 |exit id=>intro env nx bl ms K r Q h hK;exact hK _ _ _ _ _ h
 |ret=>intro env nx bl ms K r Q h hK;exact hK _ _ _ _ _ h
 |cA l=>intro env nx bl ms K r Q h hK;exact vR h fun bl h=>l.ok h hK
 |gD l=>intro env nx bl ms K r Q h hK;exact vR h fun bl h=>l.ok h hK
end
end Go.AM
end
section
namespace Go.AM
inductive CP where
 |any
 |tf (b:Bool)
 |ee
 |cw
 |ek
 |bK
 |hole (t:Ty)
 |bO (b:Nat) (t:Ty)
 |zH (b:Nat) (t:Ty)
 |ptr (b off:Nat)
 |yl (b:Nat)
 |bR (t:Ty)
 |fn0 (f:Nat)
 |DF (l:CP)
 |DG (l:CP)
 |fn (f:Nat) (a b:CP)
 |DH (t:Nat) (g:Bool) (l:CP)
 |mp (b:Nat)
 |dA
 |pa (b:Nat) (t:Ty) (n:Nat)
 |iN (t:Ty)
 |nil
 |cons (c l:CP)
inductive SP where
 |c (c:CP)
 |agg (cs:List CP)
 |cq (cs:List CP)
 |fn (f:Nat) (a b:List CP)
 |alt (a b:List CP)
def CP.T : CP → Type → Type
 | .hole t,A=>t.den×A
 | .bO _ _,A=>Nat×A
 | .zH _ _,A=>Nat×Nat×A
 | .bR t,A=>t.den×A
 | .iN t,A=>List t.den×A
 | .DH _ _ l,A=>l.T A
 | .mp _,A=>A
 | .dA,A=>A
 | .pa _ _ _,A=>A
 | .DF l,A=>l.T A
 | .DG l,A=>l.T A
 | .fn _ a b,A=>a.T (b.T A)
 | .cons c l,A=>c.T (l.T A)
 | .any,A=>A
 | .tf _,A=>A
 | .ee,A=>A
 | .cw,A=>A
 | .ek,A=>A
 | .bK,A=>A
 | .ptr _ _,A=>A
 | .yl _,A=>A
 | .fn0 _,A=>A
 | .nil,A=>A
def Zm : (t : Ty) → t.den → V
 | .unit,_=>.agg []
 | .bool,b=>.bool b
 | .str,s=>.str s
 | .int k,n=>.int k n
 | .list t,xs=>.dS t xs
 | .prod a b,x=>.agg (dF (.prod a b) x)
 | .cn d g t,x=>.cn d (dF.jY g (dF t x))
def CP.r : (c : CP) → {A : Type} → c.T A → A
 | .any,_,x=>x
 | .tf _,_,x=>x
 | .ee,_,x=>x
 | .cw,_,x=>x
 | .ek,_,x=>x
 | .bK,_,x=>x
 | .hole _,_,x=>x.2
 | .bO _ _,_,x=>x.2
 | .zH _ _,_,x=>x.2.2
 | .ptr _ _,_,x=>x
 | .yl _,_,x=>x
 | .bR _,_,x=>x.2
 | .iN _,_,x=>x.2
 | .DH _ _ l,_,x=>l.r x
 | .mp _,_,x=>x
 | .dA,_,x=>x
 | .pa _ _ _,_,x=>x
 | .fn0 _,_,x=>x
 | .DF l,_,x=>l.r x
 | .DG l,_,x=>l.r x
 | .fn _ a b,_,x=>b.r (a.r x)
 | .nil,_,x=>x
 | .cons c l,_,x=>l.r (c.r x)
def CP.vs : (c : CP) → {A : Type} → c.T A → List V
 | .any,_,_=>[.any]
 | .tf b,_,_=>[.tf b]
 | .ee,_,_=>[.ee]
 | .cw,_,_=>[.cw]
 | .ek,_,_=>[.ek]
 | .bK,_,_=>[.bK]
 | .hole t,_,x=>[Zm t x.1]
 | .bO b t,_,x=>[.sl b t 0 x.1]
 | .zH b t,_,x=>[.sl b t x.1 x.2.1]
 | .ptr b off,_,_=>[.ptr b off]
 | .yl b,_,_=>[.yl b]
 | .bR t,_,x=>[.bR (dF t x.1)]
 | .fn0 f,_,_=>[.fn f [] []]
 | .DF l,_,x=>[.bR (l.vs x)]
 | .DG l,_,x=>[.agg (l.vs x)]
 | .DH t g l,_,x=>[.cn t (dF.jY g (l.vs x))]
 | .mp b,_,_=>[.mp b]
 | .dA,_,_=>[.dA]
 | .pa b t n,_,_=>[.pa b t n]
 | .iN t,_,x=>[.iN t x.1]
 | .fn f a b,_,x=>[.fn f (a.vs x) (b.vs (a.r x))]
 | .nil,_,_=>[]
 | .cons c l,_,x=>c.vs x++l.vs (c.r x)
def Fe : List V → V
 |v::_=>v
 |[]=>.any
def CP.v {A:Type} (c:CP) (x:c.T A):V:=Fe (c.vs x)
def je : List CP → Type → Type
 |[],A=>A
 |c::r,A=>c.T (je r A)
def mo {A : Type} : (cs : List CP) → je cs A → List V
 |[],_=>[]
 |c::r,x=>c.v x::mo r (c.r x)
def nj {A : Type} : (cs : List CP) → je cs A → A
 |[],x=>x
 |c::r,x=>nj r (c.r x)
def SP.T : SP → Type → Type
 | .c q,A=>q.T A
 | .agg cs,A=>je cs A
 | .cq cs,A=>je cs A
 | .fn _ a b,A=>je a (je b A)
 | .alt a b,A=>je a A ⊕ je b A
def SP.v {A : Type} : (p : SP) → p.T A → V
 | .c q,x=>q.v x
 | .agg cs,x=>.agg (mo cs x)
 | .cq cs,x=>.cq (mo cs x)
 | .fn f a b,x=>.fn f (mo a x) (mo b (nj a x))
 | .alt a b,x=>match x with
  | .inl y=>.cq (mo a y)
  | .inr y=>.cq (mo b y)
def SP.r {A : Type} : (p : SP) → p.T A → A
 | .c q,x=>q.r x
 | .agg cs,x=>nj cs x
 | .cq cs,x=>nj cs x
 | .fn _ a b,x=>nj b (nj a x)
 | .alt a b,x=>match x with
  | .inl y=>nj a y
  | .inr y=>nj b y
def tC : List (Nat × SP) → Type → Type
 |[],A=>A
 |(_,p)::r,A=>p.T (tC r A)
def qa {A : Type} : (ps : List (Nat × SP)) → tC ps A → Env
 |[],_=>[]
 |(s,p)::r,x=>(s,p.v x)::qa r (p.r x)
def GN {A : Type} : (ps : List (Nat × SP)) → tC ps A → A
 |[],x=>x
 |(_,p)::r,x=>GN r (p.r x)
inductive BP where
 |arr (t:Ty) (fz:Bool)
 |cells (cs:List CP) (fz:Bool)
 |loop (st:lR) (j:Option Ex) (d:Nat) (env:List (Nat×SP)) (ps:List Nat) (as bd:C) (N:Nat)
 |gi
 |map (kt:Ty) (kg:Bool) (vt:Ty) (vg:Bool)
 |jo (t:Ty) (i:Nat) (p:List Bool) (c:CP)
def BP.T : BP → Type → Type
 | .arr t _,A=>List t.den×A
 | .cells cs _,A=>je cs A
 | .loop _ _ _ env _ _ _ _,A=>tC env A
 | .gi,A=>A
 | .map kt _ vt _,A=>List (kt.den×vt.den)×A
 | .jo t _ _ c,A=>List t.den×c.T A
def BP.v {A : Type} : (p : BP) → p.T A → js
 | .arr t fz,x=>.arr t x.1 fz
 | .cells cs fz,x=>.cells (mo cs x) fz
 | .loop st j d env ps as bd N,x=>.loop st j d (qa env x) ps as bd N
 | .gi,_=>.gi
 | .map kt kg vt vg,x=>.map kt kg vt vg x.1
 | .jo t i p c,x=>.jo t x.1 i p (c.v x.2)
def BP.r {A : Type} : (p : BP) → p.T A → A
 | .arr _ _,x=>x.2
 | .cells cs _,x=>nj cs x
 | .loop _ _ _ env _ _ _ _,x=>GN env x
 | .gi,x=>x
 | .map _ _ _ _,x=>x.2
 | .jo _ _ _ c,x=>c.r x.2
def JA : List (Nat × BP) → Type → Type
 |[],A=>A
 |(_,p)::r,A=>p.T (JA r A)
def DI {A : Type} : (ps : List (Nat × BP)) → JA ps A → aj
 |[],_=>[]
 |(s,p)::r,x=>(s,p.v x)::DI r (p.r x)
inductive Lc where
 |slot (s:Nat)
 |part (s k:Nat)
 |cell (b k:Nat)
 |old (i:Nat)
 |mark (j:Nat)
structure aC where
 env:List (Nat×SP)
 bl:List (Nat×BP)
 ff:List Lc
 ms:List Nat
def aC.T (p:aC):Type:=tC p.env (JA p.bl Unit)
def aC.E (p:aC) (x:p.T):Env:=qa p.env x
def aC.B (p:aC) (x:p.T):aj:=DI p.bl (GN p.env x)
def aC.st (base:Nat) (p:aC) (x:p.T):St:=⟨p.E x,⟨base+p.ff.length,p.B x⟩,p.ms⟩
def qb : List Nat → Nat → Option Nat
 |[],_=>none
 |i::_,0=>some i
 |_::r,n+1=>qb r n
def iJ : Bool → Bool → Bool
 |true,true=>true
 |false,false=>true
 |_,_=>false
def jf : (t t' : Ty) → Bool
 | .unit,.unit=>true
 | .bool,.bool=>true
 | .str,.str=>true
 | .int k,.int k'=>decide (k=k')
 | .list t,.list t'=>jf t t'
 | .prod a b,.prod a' b'=>match jf a a' with
  |true=>jf b b'
  |false=>false
 | .cn d g a,.cn d' g' a'=>match Nat.beq d d' with
  |true=>match iJ g g' with
   |true=>jf a a'
   |false=>false
  |false=>false
 |_,_=>false
def tD (π:List Nat) (b i:Nat):Bool:=match qb π b with
 |some j=>Nat.beq j i
 |none=>false
def vS : (t : Ty) → V → Option t.den
 | .bool,.bool b=>some b
 | .bool,.tf b=>some b
 | .str,.str s=>some s
 | .int k,.int k' n=>match decide (k=k') with
  |true=>some n
  |false=>none
 | .list t,.dS t' xs=>iP t' t xs
 | .list _,.bK=>some []
 | .prod a b,.agg cs=>match bk bL [] (.prod a b) cs with
  |some (x,_,[])=>some x
  |_=>none
 | .cn d g a,v=>match bk bL [] (.cn d g a) [v] with
  |some (x,_,[])=>some x
  |_=>none
 |_,_=>none
def CP.Zn {A:Type} (π:List Nat) (c:CP) (v:V):Option (A->c.T A) :=
 match c with
 | .any=>some fun a=>a
 | .tf b=>match v with
  | .tf b'=>match iJ b b' with
   |true=>some fun a=>a
   |false=>none
  |_=>none
 | .ee=>match v with
  | .ee=>some fun a=>a
  |_=>none
 | .cw=>match v with
  | .cw=>some fun a=>a
  |_=>none
 | .ek=>match v with
  | .ek=>some fun a=>a
  |_=>none
 | .bK=>match v with
  | .bK=>some fun a=>a
  |_=>none
 | .hole t=>match vS t v with
  |some x=>some fun a=>(x,a)
  |none=>none
 | .bO b t=>match v with
  | .sl i t' lo n=>match tD π b i with
   |true=>match jf t' t with
    |true=>match Nat.beq lo 0 with
     |true=>some fun a=>(n,a)
     |false=>none
    |false=>none
   |false=>none
  | .bK=>some fun a=>((0:Nat),a)
  |_=>none
 | .zH b t=>match v with
  | .sl i t' lo n=>match tD π b i with
   |true=>match jf t' t with
    |true=>some fun a=>(lo,n,a)
    |false=>none
   |false=>none
  | .bK=>some fun a=>((0:Nat),(0:Nat),a)
  |_=>none
 | .ptr b off=>match v with
  | .ptr i o=>match tD π b i with
   |true=>match Nat.beq o off with
    |true=>some fun a=>a
    |false=>none
   |false=>none
  |_=>none
 | .yl b=>match v with
  | .yl i=>match tD π b i with
   |true=>some fun a=>a
   |false=>none
  |_=>none
 | .bR t=>match v with
  | .bR cs=>match bk bL [] t cs with
   |some (x,_,[])=>some fun a=>(x,a)
   |_=>none
  |_=>none
 | .mp b=>match v with
  | .mp i=>match tD π b i with
   |true=>some fun a=>a
   |false=>none
  |_=>none
 | .dA=>match v with
  | .dA=>some fun a=>a
  |_=>none
 | .pa b t n=>match v with
  | .pa i t' n'=>match tD π b i with
   |true=>match jf t' t with
    |true=>match Nat.beq n' n with
     |true=>some fun a=>a
     |false=>none
    |false=>none
   |false=>none
  |_=>none
 | .iN t=>match v with
  | .iN t' xs=>match iP t' t xs with
   |some ys=>some fun a=>(ys,a)
   |none=>none
  |_=>none
 | .fn0 f=>match v with
  | .fn f' [] []=>match Nat.beq f' f with
   |true=>some fun a=>a
   |false=>none
  |_=>none
 |_=>none
def CP.jV (π : List Nat) : (c : CP) → {A : Type} → List V → Option ((A → c.T A) × List V)
 | .nil,_,vs=>some (fun a=>a,vs)
 | .cons c l,A,vs=>match c.jV π (A:=l.T A) vs with
  |some (f,vs')=>match l.jV π (A:=A) vs' with
   |some (g,TT)=>some (fun a=>f (g a),TT)
   |none=>none
  |none=>none
 | .DF l,A,vs=>match vs with
  | .bR cs::r=>match l.jV π (A:=A) cs with
   |some (f,[])=>some (f,r)
   |_=>none
  |_=>none
 | .DG l,A,vs=>match vs with
  | .agg cs::r=>match l.jV π (A:=A) cs with
   |some (f,[])=>some (f,r)
   |_=>none
  |_=>none
 | .DH t g l,A,vs=>match vs with
  | .cn t' v::r=>match Nat.beq t' t with
   |true=>match uZ g v with
    |some cs=>match l.jV π (A:=A) cs with
     |some (f,[])=>some (f,r)
     |_=>none
    |none=>none
   |false=>none
  |_=>none
 | .fn f a b,A,vs=>match vs with
  | .fn f' va vb::r=>match Nat.beq f' f with
   |true=>match a.jV π (A:=b.T A) va with
    |some (g,[])=>match b.jV π (A:=A) vb with
     |some (h,[])=>some (fun x=>g (h x),r)
     |_=>none
    |_=>none
   |false=>none
  |_=>none
 |c,_,vs=>match vs with
  |v::r=>match c.Zn π v with
   |some f=>some (f,r)
   |none=>none
  |[]=>none
def CP.rd {A:Type} (π:List Nat) (c:CP) (v:V):Option (A->c.T A):=match c.jV π (A:=A) [v] with
 |some (f,[])=>some f
 |_=>none
def dZ {A : Type} (π : List Nat) : (cs : List CP) → List V → Option (A → je cs A)
 |[],[]=>some fun a=>a
 |c::r,v::vs=>match CP.rd (A:=je r A) π c v with
  |some f=>match dZ (A:=A) π r vs with
   |some g=>some fun a=>f (g a)
   |none=>none
  |none=>none
 |_,_=>none
def SP.rd {A:Type} (π:List Nat) (p:SP) (v:V):Option (A->p.T A) :=
 match p with
 | .c q=>q.rd π v
 | .agg cs=>match v with
  | .agg vs=>dZ π cs vs
  |_=>none
 | .cq cs=>match v with
  | .cq vs=>dZ π cs vs
  |_=>none
 | .fn f a b=>match v with
  | .fn f' va vb=>match Nat.beq f' f with
   |true=>match dZ (A:=je b A) π a va with
    |some g=>match dZ (A:=A) π b vb with
     |some h=>some fun x=>g (h x)
     |none=>none
    |none=>none
   |false=>none
  |_=>none
 | .alt a b=>match v with
  | .cq vs=>match dZ (A:=A) π a vs with
   |some f=>some fun x=>.inl (f x)
   |none=>match dZ (A:=A) π b vs with
    |some f=>some fun x=>.inr (f x)
    |none=>none
  |_=>none
def SP.kv {R : Type} (kz : Kz R) : (p : SP) → p.T Unit → (V → R) → R
 | .alt a b,y,K=>kz.sm (A:=je a Unit) (B:=je b Unit) y (fun x=>K (.cq (mo a x))) (fun x=>K (.cq (mo b x)))
 | .c q,y,K=>K (SP.v (.c q) y)
 | .agg cs,y,K=>K (SP.v (.agg cs) y)
 | .cq cs,y,K=>K (SP.v (.cq cs) y)
 | .fn f a b,y,K=>K (SP.v (.fn f a b) y)
theorem SP.TU {X : Type} : ∀ (p : SP) (y : p.T Unit) (K : V → Option X), p.kv (gv X) y K = K (p.v y)
 | .alt _ _,.inl _,_=>rfl
 | .alt _ _,.inr _,_=>rfl
 | .c _,_,_=>rfl
 | .agg _,_,_=>rfl
 | .cq _,_,_=>rfl
 | .fn _ _ _,_,_=>rfl
def uy {A : Type} (π : List Nat) (env : Env) : (ps : List (Nat × SP)) → Option (A → tC ps A)
 |[]=>some fun a=>a
 |(s,p)::r=>match SP.rd (A:=tC r A) π p (get s env) with
  |some f=>match uy (A:=A) π env r with
   |some g=>some fun a=>f (g a)
   |none=>none
  |none=>none
mutual
def Kw : V → V → Bool
 | .any,.any=>true
 | .tf a,.tf b=>iJ a b
 | .bool a,.bool b=>iJ a b
 | .int k n,.int k' m=>match decide (k=k') with
  |true=>decide (n=m)
  |false=>false
 | .ee,.ee=>true
 | .cw,.cw=>true
 | .ek,.ek=>true
 | .dA,.dA=>true
 | .bK,.bK=>true
 | .str s,.str s'=>decide (s=s')
 | .fn f a b,.fn f' a' b'=>match Nat.beq f f' with
  |true=>match lI a a' with
   |true=>lI b b'
   |false=>false
  |false=>false
 | .agg a,.agg b=>lI a b
 |_,_=>false
def lI : List V → List V → Bool
 |[],[]=>true
 |a::r,b::s=>match Kw a b with
  |true=>lI r s
  |false=>false
 |_,_=>false
end
mutual
theorem B5 : ∀ {a b : V}, Kw a b = true → a = b
 |a,b,h=>by
  cases a<;>cases b<;>simp only [Kw,Bool.false_eq_true] at h<;>try rfl
  case tf.tf x y=>cases x<;>cases y<;>simp_all [iJ]
  case bool.bool x y=>cases x<;>cases y<;>simp_all [iJ]
  case int.int=>split at h<;>simp_all
  case str.str=>simp_all
  case fn.fn =>
   split at h<;>try (cases h;done)
   rename_i h1
   split at h<;>try (cases h;done)
   rename_i h2
   rw [Nat.eq_of_beq_eq_true h1,jg h2,jg h]
  case agg.agg=>rw [jg h]
theorem jg : ∀ {a b : List V}, lI a b = true → a = b
 |[],[],_=>rfl
 |a::r,b::s,h=>by
  simp only [lI] at h
  split at h<;>try (cases h;done)
  rename_i h1
  rw [B5 h1,jg h]
 |[],_::_,h=>by simp [lI] at h
 |_::_,[],h=>by simp [lI] at h
end
end Go.AM
end
section
namespace Go.AM
def an (a b:Bool):Bool:=match a with
 |true=>b
 |false=>false
theorem aQ {a b:Bool}:an a b=true↔a=true/\b=true:=by cases a<;>simp [an]
theorem dn {a b:Bool} (h:iJ a b=true):a=b:=by cases a<;>cases b<;>simp_all [iJ]
theorem iu:∀{t t':Ty},jf t t'=true->t=t':=by
 intro t
 induction t with
 |unit=>intro t' h;cases t'<;>simp [jf] at h ⊢
 |bool=>intro t' h;cases t'<;>simp [jf] at h ⊢
 |str=>intro t' h;cases t'<;>simp [jf] at h ⊢
 |int k=>intro t' h;cases t'<;>simp [jf] at h ⊢;exact h
 |list t ih=>intro t' h;cases t'<;>simp [jf] at h ⊢;exact ih h
 |prod a b Ay zG =>
  intro t' h
  cases t'<;>simp only [jf,Bool.false_eq_true] at h
  split at h<;>try (cases h;done)
  rename_i h1
  rw [Ay h1,zG h]
 |cn d g a ih =>
  intro t' h
  cases t'<;>simp only [jf,Bool.false_eq_true] at h
  split at h<;>try (cases h;done)
  rename_i h1
  split at h<;>try (cases h;done)
  rename_i h2
  rw [Nat.eq_of_beq_eq_true h1,dn h2,ih h]
def GO (a b:IntKind):Bool:=decide (a=b)
theorem GP {a b:IntKind} (h:GO a b=true):a=b:=by simpa [GO] using h
def GQ (a b:sZ):Bool:=decide (a=b)
theorem GR {a b:sZ} (h:GQ a b=true):a=b:=by simpa [GQ] using h
def GS : Kd → Kd → Bool
 | .b,.b=>true
 | .i,.i=>true
 | .s,.s=>true
 |_,_=>false
theorem GU {x y:Kd} (h:GS x y=true):x=y:=by cases x<;>cases y<;>simp_all [GS]
def gQ {α : Type} (f : α → α → Bool) : List α → List α → Bool
 |[],[]=>true
 |a::r,b::s=>match f a b with
  |true=>gQ f r s
  |false=>false
 |_,_=>false
theorem dN {α : Type} {f : α → α → Bool} (hf : ∀ {a b}, f a b = true → a = b) : ∀ {a b : List α}, gQ f a b = true → a = b
 |[],[],_=>rfl
 |a::r,b::s,h=>by
  simp only [gQ] at h
  split at h<;>try (cases h;done)
  rename_i h1
  rw [hf h1,dN hf h]
 |[],_::_,h=>by simp [gQ] at h
 |_::_,[],h=>by simp [gQ] at h
def NN:=gQ GS
theorem GV {a b:List Kd} (h:NN a b=true):a=b:=dN GU h
def GW:=gQ iJ
theorem yg {a b:List Bool} (h:GW a b=true):a=b:=dN dn h
def yh:=gQ Nat.beq
theorem nk {a b:List Nat} (h:yh a b=true):a=b:=dN Nat.eq_of_beq_eq_true h
def GX:=gQ yh
theorem DJ {a b:List (List Nat)} (h:GX a b=true):a=b:=dN nk h
def c9 : O → O → Bool
 | .t n,.t m=>Nat.beq n m
 | .c v,.c u=>Kw v u
 | .m n l,.m m k=>an (Nat.beq n m) (decide (l=k))
 |_,_=>false
theorem aT {a b:O} (h:c9 a b=true):a=b:=by
 cases a<;>cases b<;>simp only [c9,Bool.false_eq_true] at h
 ·rw [Nat.eq_of_beq_eq_true h]
 ·rw [B5 h]
 ·rw [aQ] at h;rw [Nat.eq_of_beq_eq_true h.1,of_decide_eq_true h.2]
def rV:=gQ c9
theorem jh {a b:List O} (h:rV a b=true):a=b:=dN aT h
def yj : Option O → Option O → Bool
 |none,none=>true
 |some a,some b=>c9 a b
 |_,_=>false
theorem rW {a b:Option O} (h:yj a b=true):a=b:=by
 cases a<;>cases b<;>simp only [yj,Bool.false_eq_true] at h
 ·rfl
 ·rw [aT h]
def Po : Nat × Nat × O → Nat × Nat × O → Bool
 |(a,b,x),(a',b',x')=>an (Nat.beq a a') (an (Nat.beq b b') (c9 x x'))
theorem Kx {p q:Nat×Nat×O} (h:Po p q=true):p=q:=by
 obtain ⟨a,b,c⟩:=p
 obtain ⟨a',b',c'⟩:=q
 simp only [Po,aQ] at h
 rw [Nat.eq_of_beq_eq_true h.1,Nat.eq_of_beq_eq_true h.2.1,aT h.2.2]
def NO:=gQ Po
theorem GY {a b:List (Nat×Nat×O)} (h:NO a b=true):a=b:=dN Kx h
def eE : I → I → Bool
 | .mv x0,.mv y0=>c9 x0 y0
 | .pick x0 x1 x2,.pick y0 y1 y2=>an (c9 x0 y0) (an (c9 x1 y1) (c9 x2 y2))
 | .alloc x0,.alloc y0=>lI x0 y0
 | .box x0,.box y0=>c9 x0 y0
 | .build x0 x1,.build y0 y1=>an (lI x0 y0) (NO x1 y1)
 | .dy x0 x1,.dy y0 y1=>an (jf x0 y0) (rV x1 y1)
 | .load x0 x1 x2,.load y0 y1 y2=>an (iJ x0 y0) (an (Nat.beq x1 y1) (c9 x2 y2))
 | .store x0 x1 x2,.store y0 y1 y2=>an (Nat.beq x0 y0) (an (c9 x1 y1) (c9 x2 y2))
 | .bin x0 x1 x2,.bin y0 y1 y2=>an (GQ x0 y0) (an (c9 x1 y1) (c9 x2 y2))
 | .JJ x0 x1 x2,.JJ y0 y1 y2=>an (iJ x0 y0) (an (c9 x1 y1) (c9 x2 y2))
 | .eqs x0 x1 x2 x3,.eqs y0 y1 y2 y3=>an (iJ x0 y0) (an (NN x1 y1) (an (c9 x2 y2) (c9 x3 y3)))
 | .neg x0,.neg y0=>c9 x0 y0
 | .not x0,.not y0=>c9 x0 y0
 | .conv x0 x1,.conv y0 y1=>an (GO x0 y0) (c9 x1 y1)
 | .eY x0 x1 x2,.eY y0 y1 y2=>an (Nat.beq x0 y0) (an (GW x1 y1) (c9 x2 y2))
 | .field x0 x1 x2 x3,.field y0 y1 y2 y3=>an (iJ x0 y0) (an (Nat.beq x1 y1) (an (Nat.beq x2 y2) (c9 x3 y3)))
 | .idx x0 x1 x2,.idx y0 y1 y2=>an (Nat.beq x0 y0) (an (c9 x1 y1) (c9 x2 y2))
 | .tc x0 x1 x2 x3,.tc y0 y1 y2 y3=>an (Nat.beq x0 y0) (an (Nat.beq x1 y1) (an (c9 x2 y2) (c9 x3 y3)))
 | .ext x0 x1,.ext y0 y1=>an (Nat.beq x0 y0) (c9 x1 y1)
 | .len x0,.len y0=>c9 x0 y0
 | .lens x0,.lens y0=>c9 x0 y0
 | .td x0,.td y0=>Nat.beq x0 y0
 | .append x0 x1 x2,.append y0 y1 y2=>an (Nat.beq x0 y0) (an (c9 x1 y1) (c9 x2 y2))
 | .fM x0 x1,.fM y0 y1=>an (jf x0 y0) (c9 x1 y1)
 | .nV x0 x1 x2,.nV y0 y1 y2=>an (Nat.beq x0 y0) (an (rV x1 y1) (rV x2 y2))
 | .slice x0 x1 x2 x3 x4,.slice y0 y1 y2 y3 y4=>an (Nat.beq x0 y0) (an (c9 x1 y1) (an (yj x2 y2) (an (yj x3 y3) (yj x4 y4))))
 | .cF x0 x1 x2,.cF y0 y1 y2=>an (iJ x0 y0) (an (c9 x1 y1) (rV x2 y2))
 | .ex x0 x1,.ex y0 y1=>an (decide (x0=y0)) (rV x1 y1)
 |_,_=>false
theorem Ky {a b:I} (h:eE a b=true):a=b:=by
 cases a<;>cases b<;>first|(simp only [eE,Bool.false_eq_true] at h;done)|skip
 case mv.mv=>simp only [eE,aQ] at h;rw [aT h]
 case pick.pick=>simp only [eE,aQ] at h;rw [aT h.1,aT h.2.1,aT h.2.2]
 case alloc.alloc=>simp only [eE,aQ] at h;rw [jg h]
 case box.box=>simp only [eE,aQ] at h;rw [aT h]
 case build.build=>simp only [eE,aQ] at h;rw [jg h.1,GY h.2]
 case dy.dy=>simp only [eE,aQ] at h;rw [iu h.1,jh h.2]
 case load.load=>simp only [eE,aQ] at h;rw [dn h.1,Nat.eq_of_beq_eq_true h.2.1,aT h.2.2]
 case store.store=>simp only [eE,aQ] at h;rw [Nat.eq_of_beq_eq_true h.1,aT h.2.1,aT h.2.2]
 case bin.bin=>simp only [eE,aQ] at h;rw [GR h.1,aT h.2.1,aT h.2.2]
 case JJ.JJ=>simp only [eE,aQ] at h;rw [dn h.1,aT h.2.1,aT h.2.2]
 case eqs.eqs=>simp only [eE,aQ] at h;rw [dn h.1,GV h.2.1,aT h.2.2.1,aT h.2.2.2]
 case neg.neg=>simp only [eE,aQ] at h;rw [aT h]
 case not.not=>simp only [eE,aQ] at h;rw [aT h]
 case conv.conv=>simp only [eE,aQ] at h;rw [GP h.1,aT h.2]
 case eY.eY=>simp only [eE,aQ] at h;rw [Nat.eq_of_beq_eq_true h.1,yg h.2.1,aT h.2.2]
 case field.field=>simp only [eE,aQ] at h;rw [dn h.1,Nat.eq_of_beq_eq_true h.2.1,Nat.eq_of_beq_eq_true h.2.2.1,aT h.2.2.2]
 case idx.idx=>simp only [eE,aQ] at h;rw [Nat.eq_of_beq_eq_true h.1,aT h.2.1,aT h.2.2]
 case tc.tc=>simp only [eE,aQ] at h;rw [Nat.eq_of_beq_eq_true h.1,Nat.eq_of_beq_eq_true h.2.1,aT h.2.2.1,aT h.2.2.2]
 case ext.ext=>simp only [eE,aQ] at h;rw [Nat.eq_of_beq_eq_true h.1,aT h.2]
 case len.len=>simp only [eE,aQ] at h;rw [aT h]
 case lens.lens=>simp only [eE,aQ] at h;rw [aT h]
 case td.td=>simp only [eE,aQ] at h;rw [Nat.eq_of_beq_eq_true h]
 case append.append=>simp only [eE,aQ] at h;rw [Nat.eq_of_beq_eq_true h.1,aT h.2.1,aT h.2.2]
 case fM.fM=>simp only [eE,aQ] at h;rw [iu h.1,aT h.2]
 case nV.nV=>simp only [eE,aQ] at h;rw [Nat.eq_of_beq_eq_true h.1,jh h.2.1,jh h.2.2]
 case slice.slice=>simp only [eE,aQ] at h;rw [Nat.eq_of_beq_eq_true h.1,aT h.2.1,rW h.2.2.1,rW h.2.2.2.1,rW h.2.2.2.2]
 case cF.cF=>simp only [eE,aQ] at h;rw [dn h.1,aT h.2.1,jh h.2.2]
 case ex.ex=>simp only [eE,aQ] at h;rw [of_decide_eq_true h.1,jh h.2]
def KA : Option (Nat × Bool) → Option (Nat × Bool) → Bool
 |none,none=>true
 |some (s,b),some (s',b')=>an (Nat.beq s s') (iJ b b')
 |_,_=>false
theorem B6 {p q:Option (Nat×Bool)} (h:KA p q=true):p=q:=by
 rcases p with _|⟨a,b⟩<;>rcases q with _|⟨a',b'⟩<;>simp only [KA,Bool.false_eq_true,aQ] at h
 ·rfl
 ·rw [Nat.eq_of_beq_eq_true h.1,dn h.2]
def GZ : Option Nat → Option Nat → Bool
 |none,none=>true
 |some a,some b=>Nat.beq a b
 |_,_=>false
theorem vT {a b:Option Nat} (h:GZ a b=true):a=b:=by
 cases a<;>cases b<;>simp only [GZ,Bool.false_eq_true] at h
 ·rfl
 ·rw [Nat.eq_of_beq_eq_true h]
def He : Option Ty → Option Ty → Bool
 |none,none=>true
 |some a,some b=>jf a b
 |_,_=>false
theorem Hf {a b:Option Ty} (h:He a b=true):a=b:=by
 cases a<;>cases b<;>simp only [He,Bool.false_eq_true] at h
 ·rfl
 ·rw [iu h]
def rX : dB → dB → Bool
 | .op d g i,.op d' g' i'=>an (GZ d d') (an (KA g g') (eE i i'))
 | .call d g f a t,.call d' g' f' a' t'=>an (GZ d d') (an (KA g g') (an (c9 f f') (an (rV a a') (gQ He t t'))))
 |_,_=>false
theorem ow {a b:dB} (h:rX a b=true):a=b:=by
 cases a<;>cases b<;>simp only [rX,Bool.false_eq_true,aQ] at h
 ·rw [vT h.1,B6 h.2.1,Ky h.2.2]
 ·rw [vT h.1,B6 h.2.1,aT h.2.2.1,jh h.2.2.2.1,dN Hf h.2.2.2.2]
def gd : C → C → Bool
 | .skip,.skip=>true
 | .dg is,.dg Zo=>gQ rX is Zo
 | .draw ps is,.draw ps' Zo=>an (GX ps ps') (gQ rX is Zo)
 | .seq a b,.seq a' b'=>an (gd a a') (gd b b')
 | .cond c a b,.cond c' a' b'=>an (c9 c c') (an (gd a a') (gd b b'))
 | .block id c,.block id' c'=>an (Nat.beq id id') (gd c c')
 | .loop c,.loop c'=>gd c c'
 | .exit id,.exit id'=>Nat.beq id id'
 | .ret,.ret=>true
 | .cA f ps a b,.cA f' ps' a' b'=>an (c9 f f') (an (yh ps ps') (an (gd a a') (gd b b')))
 | .gD p m i cl e kt kg vt vg d b,.gD p' m' i' cl' e' Fp Nq Fq Nr d' b'=>an (gQ rX p p') (an (c9 m m') (an (Nat.beq i i') (an (yh cl cl') (an (GZ e e') (an (jf kt Fp) (an (iJ kg Nq) (an (jf vt Fq) (an (iJ vg Nr) (an (Nat.beq d d') (gd b b'))))))))))
 |_,_=>false
theorem qp:∀{a b:C},gd a b=true->a=b:=by
 intro a
 induction a with
 |skip=>intro b h;cases b<;>simp [gd] at h ⊢
 |ret=>intro b h;cases b<;>simp [gd] at h ⊢
 |exit id=>intro b h;cases b<;>simp only [gd,Bool.false_eq_true] at h;rw [Nat.eq_of_beq_eq_true h]
 |dg is=>intro b h;cases b<;>simp only [gd,Bool.false_eq_true] at h;rw [dN ow h]
 |draw ps is=>intro b h;cases b<;>simp only [gd,Bool.false_eq_true,aQ] at h;rw [DJ h.1,dN ow h.2]
 |seq a b Ay zG=>intro b h;cases b<;>simp only [gd,Bool.false_eq_true,aQ] at h;rw [Ay h.1,zG h.2]
 |cond c a b Ay zG=>intro b h;cases b<;>simp only [gd,Bool.false_eq_true,aQ] at h;rw [aT h.1,Ay h.2.1,zG h.2.2]
 |block id c ih=>intro b h;cases b<;>simp only [gd,Bool.false_eq_true,aQ] at h;rw [Nat.eq_of_beq_eq_true h.1,ih h.2]
 |loop c ih=>intro b h;cases b<;>simp only [gd,Bool.false_eq_true] at h;rw [ih h]
 |gD p m i cl e kt kg vt vg d b ih =>
  intro b h
  cases b<;>simp only [gd,Bool.false_eq_true,aQ] at h
  obtain ⟨h1,h2,h3,h4,h5,h6,h7,h8,h9,YC,YB⟩:=h
  rw [dN ow h1,aT h2,Nat.eq_of_beq_eq_true h3,nk h4,vT h5,iu h6,dn h7,iu h8,dn h9,Nat.eq_of_beq_eq_true YC,ih YB]
 |cA f ps a b Ay zG=>intro b h;cases b<;>simp only [gd,Bool.false_eq_true,aQ] at h;rw [aT h.1,nk h.2.1,Ay h.2.2.1,zG h.2.2.2]
end Go.AM
end
section
namespace Go.AM
section
variable {π:List Nat}
theorem jF : ∀ (π : List Nat) (b : Nat), qb π b = π[b]?
 |[],_=>by simp [qb]
 |i::r,0=>by simp [qb]
 |i::r,n+1=>by simp [qb,jF r n]
theorem iw {b i:Nat} (h:tD π b i=true):π[b]?=some i:=by
 unfold tD at h
 split at h
 ·rename_i j e;rw [<-jF,e,Nat.eq_of_beq_eq_true h]
 ·cases h
theorem sX.append {as bs cs ds:List V} (h:sX π as bs) (h':sX π cs ds):sX π (as++cs) (bs++ds):=by
 induction as generalizing bs with
 |nil =>
  have:bs=[]:=List.eq_nil_of_length_eq_zero h.1.symm
  subst this;simpa using h'
 |cons a as ih =>
  cases bs with
  |nil=>exact absurd h.1 (by simp)
  |cons b bs=>exact .cons (h.2 0 a b rfl rfl) (ih ⟨by have:=h.1;simpa using this,fun i v u hv hu=>h.2 (i+1) v u (by simpa using hv) (by simpa using hu)⟩)
theorem ym {t t':Ty} {xs:List t.den} {ys:List t'.den} (h:iP t t' xs=some ys):V.dS t' ys=V.dS t xs:=by
 obtain ⟨e,he⟩:=dh h
 subst e;subst he;rfl
theorem yp {g:Bool} {v:V} {ds cs:List V} (h:uZ g v=some cs) (ah:sX π ds cs):EV π (dF.jY g ds) v:=by
 cases g with
 |true =>
  cases v<;>simp [uZ] at h
  subst h
  exact .agg _ _ ah.1 ah.2
 |false =>
  have:cs=[v]:=by cases v<;>simp_all [uZ,V.cells?]
  subst this
  match ds,ah with
  |[w],ah=>exact ah.2 0 w v rfl rfl
  |[],ah=>exact absurd ah.1 (by simp)
  |_::_::_,ah=>exact absurd ah.1 (by simp)
theorem k7 {ar : Ar} : ∀ {t : Ty} {vs : List V} {x : t.den} {u : cU} {r : List V}, bk ar [] t vs = some (x, u, r) → ∃ us, vs = us ++ r ∧ sX π (dF t x) us
 | .unit,vs,x,u,r,h=>by
  simp [bk] at h;obtain ⟨_,_,rfl⟩:=h;exact ⟨[],rfl,.nil⟩
 | .bool,vs,x,u,r,h=>by
  rcases vs with _|⟨v,r'⟩
  ·simp [bk] at h
  ·cases v <;> simp [bk] at h
   ·obtain ⟨rfl,_,rfl⟩:=h;exact ⟨[_],rfl,.cons (.Zi _) .nil⟩
   ·obtain ⟨rfl,_,rfl⟩:=h;exact ⟨[_],rfl,.cons (.bool _) .nil⟩
 | .str,vs,x,u,r,h=>by
  rcases vs with _|⟨v,r'⟩
  ·simp [bk] at h
  ·cases v <;> simp [bk] at h
   obtain ⟨rfl,_,rfl⟩:=h;exact ⟨[_],rfl,.cons (.str _) .nil⟩
 | .int k,vs,x,u,r,h=>by
  rcases vs with _|⟨v,r'⟩
  ·simp [bk] at h
  ·cases v <;> simp [bk] at h
   obtain ⟨rfl,rfl,_,rfl⟩:=h;exact ⟨[_],rfl,.cons (.int _ _) .nil⟩
 | .list t,vs,x,u,r,h=>by
  rcases vs with _|⟨v,r'⟩
  ·simp [bk] at h
  ·cases v <;> simp only [bk] at h <;> try (cases h; done)
   ·split at h <;> try (cases h; done)
    rename_i hc
    cases h
    exact ⟨[_],rfl,.cons (by rw [ym hc];exact .dS _ _) .nil⟩
   ·cases h;exact ⟨[.bK],rfl,.cons (.Pg _) .nil⟩
 | .prod a b,vs,x,u,r,h=>by
  simp only [bk] at h
  split at h<;>try (cases h;done)
  rename_i x1 u1 r1 h1
  split at h<;>try (cases h;done)
  rename_i y1 u2 r2 h2
  cases h
  obtain ⟨us,rfl,e1⟩:=k7 h1
  obtain ⟨Jv,rfl,e2⟩:=k7 h2
  exact ⟨us++Jv,by simp,e1.append e2⟩
 | .cn d g t,vs,x,u,r,h=>by
  cases vs with
  |nil=>simp [bk] at h
  |cons v vs =>
   cases v<;>simp only [bk] at h<;>try (cases h;done)
   rename_i d' v'
   split at h<;>try (cases h;done)
   rename_i e;subst e
   split at h<;>try (cases h;done)
   rename_i cs hun
   split at h<;>try (cases h;done)
   rename_i x0 ho
   cases h
   obtain ⟨us,e1,ah⟩:=k7 ho
   rw [List.append_nil] at e1
   exact ⟨[.cn d v'],rfl,.cons (.cn _ _ _ (yp hun (by rw [e1];exact ah))) .nil⟩
theorem KB : ∀ {t : Ty} {v : V} {x : t.den}, vS t v = some x → EV π (Zm t x) v
 | .unit,v,x,h=>by simp [vS] at h
 | .bool,v,x,h=>by
  cases v<;>simp [vS] at h
  ·subst h;exact .Zi _
  ·subst h;exact .bool _
 | .str,v,x,h=>by
  cases v<;>simp [vS] at h
  subst h;exact .str _
 | .int k,v,x,h=>by
  cases v<;>simp only [vS] at h<;>try (cases h;done)
  split at h<;>try (cases h;done)
  rename_i hk
  cases h
  have:=of_decide_eq_true hk
  subst this;exact .int _ _
 | .list t,v,x,h=>by
  cases v<;>simp only [vS] at h<;>try (cases h;done)
  ·show EV π (.dS t x) _
   rw [ym h];exact .dS _ _
  ·cases h;exact .Pg _
 | .prod a b,v,x,h=>by
  cases v<;>simp only [vS] at h<;>try (cases h;done)
  split at h<;>try (cases h;done)
  rename_i hc
  cases h
  obtain ⟨us,e,ah⟩:=k7 (π:=π) hc
  rw [List.append_nil] at e
  subst e
  exact .agg _ _ ah.1 ah.2
 | .cn d g t,v,x,h=>by
  simp only [vS] at h
  split at h<;>try (cases h;done)
  rename_i hc
  cases h
  obtain ⟨us,e,ah⟩:=k7 (π:=π) hc
  rw [List.append_nil] at e
  subst e
  exact ah.2 0 _ _ rfl rfl
variable {A:Type}
theorem CP.Pp {c:CP} {v:V} {f:A->c.T A} (h:c.Zn π v=some f) (a:A):sX π (c.vs (f a)) [v]/\c.r (f a)=a:=by
 cases c<;>simp only [CP.Zn] at h
 case any=>cases h;exact ⟨.cons (.any _) .nil,rfl⟩
 case tf b =>
  split at h<;>try (cases h;done)
  split at h<;>try (cases h;done)
  rename_i hb
  cases h
  rw [<-dn hb]
  exact ⟨.cons (.tf _) .nil,rfl⟩
 case ee=>split at h<;>cases h;exact ⟨.cons (.ee) .nil,rfl⟩
 case cw=>split at h<;>cases h;exact ⟨.cons (.cw) .nil,rfl⟩
 case ek=>split at h<;>cases h;exact ⟨.cons (.ek) .nil,rfl⟩
 case bK=>split at h<;>cases h;exact ⟨.cons (.bK) .nil,rfl⟩
 case hole t =>
  split at h<;>cases h
  rename_i hx
  exact ⟨.cons (KB hx) .nil,rfl⟩
 case bO b t =>
  split at h<;>try (cases h;done)
  ·rename_i i t' lo n
   split at h<;>try (cases h;done)
   rename_i h1
   split at h<;>try (cases h;done)
   rename_i h2
   split at h<;>try (cases h;done)
   rename_i h3
   cases h
   have e:=Nat.eq_of_beq_eq_true h3
   rw [iu h2,e]
   exact ⟨.cons (.sl _ _ _ _ _ (iw h1)) .nil,rfl⟩
  ·cases h;exact ⟨.cons (.Ph _ _ _) .nil,rfl⟩
 case zH b t =>
  split at h<;>try (cases h;done)
  ·rename_i i t' lo n
   split at h<;>try (cases h;done)
   rename_i h1
   split at h<;>try (cases h;done)
   rename_i h2
   cases h
   rw [iu h2]
   exact ⟨.cons (.sl _ _ _ _ _ (iw h1)) .nil,rfl⟩
  ·cases h;exact ⟨.cons (.Ph _ _ _) .nil,rfl⟩
 case ptr b off =>
  split at h<;>try (cases h;done)
  split at h<;>try (cases h;done)
  rename_i h1
  split at h<;>try (cases h;done)
  rename_i h2
  cases h
  rw [Nat.eq_of_beq_eq_true h2]
  exact ⟨.cons (.ptr _ _ _ (iw h1)) .nil,rfl⟩
 case yl b =>
  split at h<;>try (cases h;done)
  split at h<;>try (cases h;done)
  rename_i h1
  cases h
  exact ⟨.cons (.yl _ _ (iw h1)) .nil,rfl⟩
 case bR t =>
  split at h<;>try (cases h;done)
  split at h<;>try (cases h;done)
  rename_i hc
  cases h
  obtain ⟨us,e,ah⟩:=k7 (π:=π) hc
  rw [List.append_nil] at e
  subst e
  exact ⟨.cons (.bR _ _ ah.1 ah.2) .nil,rfl⟩
 case mp b =>
  split at h<;>try (cases h;done)
  split at h<;>try (cases h;done)
  rename_i h1
  cases h
  exact ⟨.cons (.mp _ _ (iw h1)) .nil,rfl⟩
 case dA=>split at h<;>cases h;exact ⟨.cons (.dA) .nil,rfl⟩
 case pa b t n =>
  split at h<;>try (cases h;done)
  split at h<;>try (cases h;done)
  rename_i h1
  split at h<;>try (cases h;done)
  rename_i h2
  split at h<;>try (cases h;done)
  rename_i h3
  cases h
  rw [iu h2,Nat.eq_of_beq_eq_true h3]
  exact ⟨.cons (.pa _ _ _ _ (iw h1)) .nil,rfl⟩
 case iN t =>
  split at h<;>try (cases h;done)
  split at h<;>try (cases h;done)
  rename_i ys hc
  cases h
  obtain ⟨e,he⟩:=dh hc
  subst e;subst he
  exact ⟨.cons (.iN _ _) .nil,rfl⟩
 case DH=>cases h
 case fn0 f' =>
  split at h<;>try (cases h;done)
  split at h<;>try (cases h;done)
  rename_i h1
  cases h
  rw [Nat.eq_of_beq_eq_true h1]
  exact ⟨.cons (.fn _ _ _ _ _ rfl (fun i v u hv=>by simp at hv) rfl (fun i v u hv=>by simp at hv)) .nil,rfl⟩
 case DF=>cases h
 case DG=>cases h
 case fn=>cases h
 case nil=>cases h
 case cons=>cases h
theorem CP.Pq:∀{c:CP} {A:Type} {vs r:List V} {f:A->c.T A},c.jV π vs=some (f,r)->∃us,vs=us++r/\∀a,sX π (c.vs (f a)) us/\c.r (f a)=a:=by
 intro c
 induction c with
 |nil=>intro A vs r f h;simp only [CP.jV] at h;cases h;exact ⟨[],rfl,fun a=>⟨.nil,rfl⟩⟩
 |cons c l ihc ihl =>
  intro A vs r f h
  simp only [CP.jV] at h
  split at h<;>try (cases h;done)
  rename_i f1 vs' h1
  split at h<;>try (cases h;done)
  rename_i g TT h2
  cases h
  obtain ⟨us,rfl,e1⟩:=ihc h1
  obtain ⟨Jv,rfl,e2⟩:=ihl h2
  refine ⟨us++Jv,by simp,fun a=>?_⟩
  obtain ⟨q1,q2⟩:=e1 (g a)
  obtain ⟨q3,q4⟩:=e2 a
  simp only [CP.vs,CP.r,q2]
  exact ⟨q1.append q3,q4⟩
 |DF l ih =>
  intro A vs r f h
  simp only [CP.jV] at h
  split at h<;>try (cases h;done)
  rename_i cs r'
  split at h<;>try (cases h;done)
  rename_i f1 h1
  cases h
  obtain ⟨us,e,e1⟩:=ih h1
  rw [List.append_nil] at e
  subst e
  refine ⟨[.bR cs],rfl,fun a=>?_⟩
  obtain ⟨q1,q2⟩:=e1 a
  exact ⟨.cons (.bR _ _ q1.1 q1.2) .nil,q2⟩
 |DG l ih =>
  intro A vs r f h
  simp only [CP.jV] at h
  split at h<;>try (cases h;done)
  rename_i cs r'
  split at h<;>try (cases h;done)
  rename_i f1 h1
  cases h
  obtain ⟨us,e,e1⟩:=ih h1
  rw [List.append_nil] at e
  subst e
  refine ⟨[.agg cs],rfl,fun a=>?_⟩
  obtain ⟨q1,q2⟩:=e1 a
  exact ⟨.cons (.agg _ _ q1.1 q1.2) .nil,q2⟩
 |DH t g l ih =>
  intro A vs r f h
  simp only [CP.jV] at h
  split at h<;>try (cases h;done)
  rename_i t' v r'
  split at h<;>try (cases h;done)
  rename_i ht
  split at h<;>try (cases h;done)
  rename_i cs hun
  split at h<;>try (cases h;done)
  rename_i f1 h1
  cases h
  obtain ⟨us,e,e1⟩:=ih h1
  rw [List.append_nil] at e
  subst e
  have e0:=Nat.eq_of_beq_eq_true ht
  subst e0
  refine ⟨[.cn t' v],rfl,fun a=>?_⟩
  obtain ⟨q1,q2⟩:=e1 a
  exact ⟨.cons (.cn _ _ _ (yp hun q1)) .nil,q2⟩
 |fn f0 a b Ay zG =>
  intro A vs r f h
  simp only [CP.jV] at h
  split at h<;>try (cases h;done)
  rename_i f' va vb r'
  split at h<;>try (cases h;done)
  rename_i hf
  split at h<;>try (cases h;done)
  rename_i g hg
  split at h<;>try (cases h;done)
  rename_i k hk
  cases h
  obtain ⟨us,e,e1⟩:=Ay hg
  rw [List.append_nil] at e
  subst e
  obtain ⟨Jv,e',e2⟩:=zG hk
  rw [List.append_nil] at e'
  subst e'
  have e0:=Nat.eq_of_beq_eq_true hf
  subst e0
  refine ⟨[.fn f' va vb],rfl,fun x=>?_⟩
  obtain ⟨q1,q2⟩:=e1 (k x)
  obtain ⟨q3,q4⟩:=e2 x
  simp only [CP.vs,CP.r,q2]
  exact ⟨.cons (.fn _ _ _ _ _ q1.1 q1.2 q3.1 q3.2) .nil,q4⟩
 |_ =>
  intro A vs r f h
  simp only [CP.jV] at h
  split at h<;>try (cases h;done)
  rename_i v r'
  split at h<;>try (cases h;done)
  rename_i f1 h1
  cases h
  exact ⟨[v],rfl,fun a=>CP.Pp h1 a⟩
theorem CP.nq {c:CP} {v:V} {f:A->c.T A} (h:c.rd π v=some f) (a:A):EV π (c.v (f a)) v/\c.r (f a)=a:=by
 unfold CP.rd at h
 split at h<;>try (cases h;done)
 rename_i f1 h1
 cases h
 obtain ⟨us,e,e1⟩:=CP.Pq h1
 rw [List.append_nil] at e
 subst e
 obtain ⟨q1,q2⟩:=e1 a
 refine ⟨?_,q2⟩
 unfold CP.v
 have hl:=q1.1
 cases hc:c.vs (f a) with
 |nil=>rw [hc] at hl;simp at hl
 |cons u r=>exact q1.2 0 u v (by rw [hc];rfl) rfl
theorem fU : ∀ {cs : List CP} {vs : List V} {f : A → je cs A}, dZ π cs vs = some f → ∀ a, sX π (mo cs (f a)) vs ∧ nj cs (f a) = a
 |[],[],f,h,a=>by cases h;exact ⟨.nil,rfl⟩
 |c::r,v::vs,f,h,a=>by
  simp only [dZ] at h
  split at h<;>try (cases h;done)
  rename_i f1 h1
  split at h<;>cases h
  rename_i g h2
  obtain ⟨q1,q2⟩:=CP.nq h1 (g a)
  obtain ⟨q3,q4⟩:=fU h2 a
  simp only [mo,nj,q2]
  exact ⟨.cons q1 q3,q4⟩
 |[],_::_,f,h,a=>by simp [dZ] at h
 |_::_,[],f,h,a=>by simp [dZ] at h
theorem SP.nq : ∀ {p : SP} {v : V} {f : A → p.T A}, p.rd π v = some f → ∀ (a : A), EV π (p.v (f a)) v ∧ p.r (f a) = a
 | .c q,v,f,h,a=>CP.nq (c:=q) h a
 | .agg cs,v,f,h,a=>by
  cases v<;>try (cases h;done)
  rename_i vs
  have h':dZ π cs vs=some f:=h
  obtain ⟨h1,h2⟩:=fU h' a
  exact ⟨.agg _ _ h1.1 h1.2,h2⟩
 | .cq cs,v,f,h,a=>by
  cases v<;>try (cases h;done)
  rename_i vs
  have h':dZ π cs vs=some f:=h
  obtain ⟨h1,h2⟩:=fU h' a
  exact ⟨.cq _ _ h1.1 h1.2,h2⟩
 | .fn f' x y,v,f,h,a=>by
  cases v with
  |fn f2 va vb =>
   have h':(match Nat.beq f2 f' with
    |true=>match dZ (A:=je y A) π x va with
     |some g=>match dZ (A:=A) π y vb with
      |some h=>some fun z=>g (h z)
      |none=>none
     |none=>none
    |false=>none)=some f:=h
   clear h
   cases hf:Nat.beq f2 f' with
   |false=>rw [hf] at h';cases h'
   |true =>
    rw [hf] at h'
    simp only at h'
    cases hg:dZ (A:=je y A) π x va with
    |none=>rw [hg] at h';cases h'
    |some g =>
     rw [hg] at h'
     simp only at h'
     cases hk:dZ (A:=A) π y vb with
     |none=>rw [hk] at h';cases h'
     |some k =>
      rw [hk] at h'
      have h2:(fun z=>g (k z))=f:=Option.some.inj h'
      obtain ⟨q1,q2⟩:=fU hg (k a)
      obtain ⟨q3,q4⟩:=fU hk a
      have e:=Nat.eq_of_beq_eq_true hf
      subst e
      have e2:SP.v (A:=A) (.fn f2 x y) (g (k a)) = .fn f2 (mo x (g (k a))) (mo y (k a)):=by
       show V.fn f2 _ (mo y (nj x (g (k a))))=_
       rw [q2]
      have e3:SP.r (A:=A) (.fn f2 x y) (g (k a))=a:=by
       show nj y (nj x (g (k a)))=a
       rw [q2,q4]
      have e4:f a=g (k a):=by rw [<-h2]
      rw [e4]
      exact ⟨by rw [e2];exact .fn _ _ _ _ _ q1.1 q1.2 q3.1 q3.2,e3⟩
  |_=>cases h
 | .alt x y,v,f,h,a=>by
  cases v with
  |cq vs =>
   have h':(match dZ (A:=A) π x vs with
    |some f=>some fun z=>(Sum.inl (f z):je x A ⊕ je y A)
    |none=>match dZ (A:=A) π y vs with
     |some f=>some fun z=>Sum.inr (f z)
     |none=>none)=some f:=h
   clear h
   cases hx:dZ (A:=A) π x vs with
   |some g =>
    rw [hx] at h'
    have h2:=Option.some.inj h'
    subst h2
    obtain ⟨h1,h2⟩:=fU hx a
    exact ⟨.cq _ _ h1.1 h1.2,h2⟩
   |none =>
    rw [hx] at h'
    simp only at h'
    cases hy:dZ (A:=A) π y vs with
    |none=>rw [hy] at h';cases h'
    |some g =>
     rw [hy] at h'
     have h2:=Option.some.inj h'
     subst h2
     obtain ⟨h1,h2⟩:=fU hy a
     exact ⟨.cq _ _ h1.1 h1.2,h2⟩
  |_=>cases h
theorem kH {env : Env} : ∀ {ps : List (Nat × SP)} {f : A → tC ps A}, uy π env ps = some f → ∀ a, EE π (qa ps (f a)) env ∧ GN ps (f a) = a
 |[],f,h,a=>by cases h;exact ⟨fun p hp=>by simp [qa] at hp,rfl⟩
 |(s,p)::r,f,h,a=>by
  simp only [uy] at h
  split at h<;>try (cases h;done)
  rename_i f1 h1
  split at h<;>cases h
  rename_i g h2
  obtain ⟨q1,q2⟩:=SP.nq h1 (g a)
  obtain ⟨q3,q4⟩:=kH h2 a
  simp only [qa,GN,q2]
  refine ⟨fun x hx=>?_,q4⟩
  rcases List.mem_cons.1 hx with rfl|hx
  ·exact q1
  ·exact q3 x hx
def Hg : lR → lR → Bool
 | .ready,.ready=>true
 | .busy,.busy=>true
 | .done,.done=>true
 | .exhausted,.exhausted=>true
 |_,_=>false
theorem Hh {a b:lR} (h:Hg a b=true):a=b:=by cases a<;>cases b<;>simp_all [Hg]
def Pr : Option Ex → Option Ex → Bool
 |none,none=>true
 |some .normal,some .normal=>true
 |some (.exit a),some (.exit b)=>Nat.beq a b
 |some .ret,some .ret=>true
 |_,_=>false
theorem KC {a b:Option Ex} (h:Pr a b=true):a=b:=by
 rcases a with _|(_|_|_)<;>rcases b with _|(_|_|_)<;>simp only [Pr,Bool.false_eq_true] at h<;>try rfl
 rw [Nat.eq_of_beq_eq_true h]
def BP.rd (π:List Nat) (nx:Nat) (bl:aj) (id:Nat) (p:BP):Option (A->p.T A) :=
 match qb π id with
 |none=>none
 |some i=>match p with
  | .arr t fz=>match aq i bl with
   |some (.arr t' xs TV)=>match iP t' t xs with
    |some ys=>match iJ TV fz with
     |true=>some fun a=>(ys,a)
     |false=>none
    |none=>none
   |none=>match Nat.ble nx i with
    |true=>some fun a=>(([]:List t.den),a)
    |false=>none
   |_=>none
  | .cells cs fz=>match aq i bl with
   |some (.cells vs TV)=>match iJ TV fz with
    |true=>dZ π cs vs
    |false=>none
   |_=>none
  | .loop st j d env ps as bd N=>match aq i bl with
   |some (.loop st' j' d' env' ps' as' NJ N')=>match an (Hg st' st) (an (Pr j' j)<|an (tD π d d') (an (yh ps' ps) (an (Nat.beq N' N) (an (gd as' as) (gd NJ bd))))) with
    |true=>uy π env' env
    |false=>none
   |_=>none
  | .gi=>match aq i bl with
   |some .gi=>some fun a=>a
   |_=>none
  | .map kt kg vt vg=>match aq i bl with
   |some (.map Fp Nq Fq Nr es)=>match an (iJ Nq kg) (iJ Nr vg) with
    |true=>match Bu Fp Fq kt vt es with
     |some fs=>some fun a=>(fs,a)
     |none=>none
    |false=>none
   |_=>none
  | .jo t k q c=>match aq i bl with
   |some (.jo t' xs k' q' v)=>match an (Nat.beq k' k) (GW q' q) with
    |true=>match iP t' t xs with
     |some ys=>match CP.rd π c v with
      |some f=>some fun a=>(ys,f a)
      |none=>none
     |none=>none
    |false=>none
   |_=>none
theorem BP.nq {nx:Nat} {bl:aj} {id:Nat} {p:BP} {f:A->p.T A} (h:p.rd π nx bl id=some f) (a:A):Kv π nx bl id (p.v (f a))/\p.r (f a)=a:=by
 unfold BP.rd at h
 split at h
 ·cases h
 ·rename_i i hi
  rw [jF] at hi
  cases p<;>simp only at h
  case arr t fz =>
   split at h
   ·rename_i t' xs TV hb
    split at h<;>try (cases h;done)
    rename_i ys hc
    split at h<;>cases h
    rename_i hfz
    refine ⟨⟨i,hi,.inl ?_⟩,rfl⟩
    obtain ⟨e,he⟩:=dh hc
    subst e;subst he
    rw [hb,dn hfz]
   ·rename_i hb
    split at h<;>cases h
    rename_i hle
    exact ⟨⟨i,hi,.inr ⟨rfl,Nat.le_of_ble_eq_true hle⟩⟩,rfl⟩
   ·cases h
  case cells cs fz =>
   split at h<;>try (cases h;done)
   rename_i vs TV hb
   split at h<;>try (cases h;done)
   rename_i hfz
   obtain ⟨h1,h2⟩:=fU h a
   refine ⟨⟨i,hi,vs,?_,h1⟩,h2⟩
   rw [hb,dn hfz]
  case loop st j d env ps as bd N =>
   split at h<;>try (cases h;done)
   rename_i st' j' d' env' ps' as' NJ N' hb
   split at h<;>try (cases h;done)
   rename_i hc
   simp only [aQ] at hc
   obtain ⟨c1,cj,c2,c3,c4,c5,c6⟩:=hc
   obtain ⟨h1,h2⟩:=kH h a
   refine ⟨⟨i,hi,d',env',?_,iw c2,h1⟩,h2⟩
   rw [hb,Hh c1,KC cj,nk c3,Nat.eq_of_beq_eq_true c4,qp c5,qp c6]
  case gi =>
   split at h<;>cases h
   rename_i hb
   exact ⟨⟨i,hi,hb⟩,rfl⟩
  case map kt kg vt vg =>
   split at h<;>try (cases h;done)
   rename_i Fp Nq Fq Nr es hb
   split at h<;>try (cases h;done)
   rename_i hg
   split at h<;>try (cases h;done)
   rename_i fs hc
   cases h
   simp only [aQ] at hg
   rw [dn hg.1,dn hg.2] at hb
   unfold Bu at hc
   split at hc<;>try (cases hc;done)
   rename_i he
   obtain ⟨rfl,rfl⟩:=he
   cases hc
   exact ⟨⟨i,hi,hb⟩,rfl⟩
  case jo t k q c =>
   split at h<;>try (cases h;done)
   rename_i t' xs k' q' v hb
   split at h<;>try (cases h;done)
   rename_i hc
   simp only [aQ] at hc
   split at h<;>try (cases h;done)
   rename_i ys hy
   split at h<;>try (cases h;done)
   rename_i f' hf
   cases h
   obtain ⟨e,he⟩:=dh hy
   subst e;subst he
   obtain ⟨h1,h2⟩:=CP.nq hf a
   refine ⟨⟨i,hi,v,?_,h1⟩,h2⟩
   rw [hb,Nat.eq_of_beq_eq_true hc.1,yg hc.2]
def Hi (π : List Nat) (nx : Nat) (bl : aj) : (ps : List (Nat × BP)) → Option (A → JA ps A)
 |[]=>some fun a=>a
 |(id,p)::r=>match BP.rd (A:=JA r A) π nx bl id p with
  |some f=>match Hi π nx bl r with
   |some g=>some fun a=>f (g a)
   |none=>none
  |none=>none
theorem qq {nx : Nat} {bl : aj} : ∀ {ps : List (Nat × BP)} {f : A → JA ps A}, Hi π nx bl ps = some f → ∀ a, (∀ p ∈ DI ps (f a), Kv π nx bl p.1 p.2) ∧ (DI ps (f a)).map (·.1) = ps.map (·.1)
 |[],f,h,a=>by cases h;exact ⟨fun p hp=>by simp [DI] at hp,rfl⟩
 |(s,p)::r,f,h,a=>by
  simp only [Hi] at h
  split at h<;>try (cases h;done)
  rename_i f1 h1
  split at h<;>cases h
  rename_i g h2
  obtain ⟨q1,q2⟩:=BP.nq h1 (g a)
  obtain ⟨q3,q4⟩:=qq h2 a
  simp only [DI,q2]
  refine ⟨fun x hx=>?_,by simp [q4]⟩
  rcases List.mem_cons.1 hx with rfl|hx
  ·exact q1
  ·exact q3 x hx
def DK (nx b : Nat) : V → Option Nat
 | .sl i _ _ _=>some i
 | .ptr i _=>some i
 | .yl i=>some i
 | .mp i=>some i
 | .pa i _ _=>some i
 | .ep i _ _ _=>some i
 | .bK=>some (nx+b)
 | .cn _ (.ptr i _)=>some i
 |_=>none
def Hj : List V → Nat → Option V
 |[],_=>none
 |v::_,0=>some v
 |_::r,n+1=>Hj r n
def Pu (π : List Nat) (env : Env) (nx : Nat) (bl : aj) (ms : List Nat) (b : Nat) : Lc → Option Nat
 | .slot s=>DK nx b (get s env)
 | .part s k=>match get s env with
  | .agg cs=>match Hj cs k with
   |some v=>DK nx b v
   |none=>none
  | .fn _ a c=>match Hj (a++c) k with
   |some v=>DK nx b v
   |none=>none
  | .cq cs=>match Hj cs k with
   |some v=>DK nx b v
   |none=>none
  |_=>none
 | .cell b' k=>match qb π b' with
  |some i=>match aq i bl with
   |some (.cells cs _)=>match Hj cs k with
    |some v=>DK nx b v
    |none=>none
   |some (.jo _ _ _ _ v)=>DK nx b v
   |_=>none
  |none=>none
 | .old i=>some i
 | .mark j=>qb ms j
def snoc {R : Type} : List Nat → Nat → (List Nat → R) → R
 |[],i,k=>k [i]
 |j::r,i,k=>snoc r i fun r'=>k (j::r')
theorem qs {R : Type} : ∀ (l : List Nat) (i : Nat) (k : List Nat → R), snoc l i k = k (l ++ [i])
 |[],_,_=>rfl
 |j::r,i,k=>by simp only [snoc,qs r];rfl
def jP {R : Type} (no : R) (env : Env) (nx : Nat) (bl : aj) (ms : List Nat) : List Lc → List Nat → Nat → (List Nat → R) → R
 |[],π,_,k=>k π
 |l::r,π,b,k=>match Pu π env nx bl ms b l with
  |some i=>fN i fun i=>snoc π i fun π=>fN (b+1) fun b=>jP no env nx bl ms r π b k
  |none=>no
theorem rY {X:Type} {no:Option X} {env:Env} {nx:Nat} {bl:aj} {ms:List Nat}:∀{ls:List Lc} {π:List Nat} {b:Nat} {k:List Nat->Option X} {x:X},jP no env nx bl ms ls π b k=some x ->
  no=some x\/∃r,r.length=ls.length/\k (π++r)=some x
 |[],π,b,k,x,h=>.inr ⟨[],rfl,by simpa [jP] using h⟩
 |l::ls,π,b,k,x,h=>by
  simp only [jP] at h
  split at h
  ·rename_i i hi
   rw [gO,qs,gO] at h
   rcases rY h with h|⟨r,h1,h2⟩
   ·exact .inl h
   ·exact .inr ⟨i::r,by simp [h1],by simpa using h2⟩
  ·exact .inl h
def Hl (π:List Nat) (a b:Nat):Bool:=match qb π a with
 |some i=>match qb π b with
  |some j=>match Nat.beq i j with
   |true=>false
   |false=>true
  |none=>false
 |none=>false
def vU (π : List Nat) (a : Nat) : List (Nat × BP) → Bool
 |[]=>true
 |(b,_)::r=>match Hl π a b with
  |true=>vU π a r
  |false=>false
def rZ (π : List Nat) : List (Nat × BP) → Bool
 |[]=>true
 |(a,_)::r=>match vU π a r with
  |true=>rZ π r
  |false=>false
theorem Ho {a b:Nat} (h:Hl π a b=true):π[a]?≠π[b]?:=by
 unfold Hl at h
 split at h<;>try (cases h;done)
 rename_i i hi
 split at h<;>try (cases h;done)
 rename_i j hj
 split at h<;>try (cases h;done)
 rename_i hij
 rw [<-jF,<-jF,hi,hj]
 intro e;cases e
 rw [Nat.beq_refl] at hij;cases hij
theorem ox {a : Nat} : ∀ {r : List (Nat × BP)}, vU π a r = true → ∀ b ∈ r.map (·.1), π[a]? ≠ π[b]?
 |[],_,b,hb=>by simp at hb
 |(c,_)::r,h,b,hb=>by
  simp only [vU] at h
  split at h<;>try (cases h;done)
  rename_i hd
  simp only [List.map_cons,List.mem_cons] at hb
  rcases hb with rfl|hb
  ·exact Ho hd
  ·exact ox h b hb
theorem r8 : ∀ {r : List (Nat × BP)}, rZ π r = true → ∀ a ∈ r.map (·.1), ∀ b ∈ r.map (·.1), π[a]? = π[b]? → a = b
 |[],_,a,ha=>by simp at ha
 |(c,_)::r,h,a,ha=>by
  simp only [rZ] at h
  split at h<;>try (cases h;done)
  rename_i hd
  intro b hb e
  simp only [List.map_cons,List.mem_cons] at ha hb
  rcases ha with rfl|ha<;>rcases hb with rfl|hb
  ·rfl
  ·exact absurd e (ox hd b hb)
  ·exact absurd e.symm (ox hd a ha)
  ·exact r8 h a ha b hb e
def DL (π : List Nat) : List Nat → List Nat → Bool
 |[],[]=>true
 |a::r,i::s=>match tD π a i with
  |true=>DL π r s
  |false=>false
 |_,_=>false
theorem B7 : ∀ {ps ms : List Nat}, DL π ps ms = true → ps.map (fun i => π[i]?) = ms.map some
 |[],[],_=>rfl
 |a::r,i::s,h=>by
  simp only [DL] at h
  split at h<;>try (cases h;done)
  rename_i ha
  simp [iw ha,B7 h]
 |[],_::_,h=>by simp [DL] at h
 |_::_,[],h=>by simp [DL] at h
def aC.rd {R:Type} (no:R) (pre:List Nat) (base:Nat) (p:aC) (env:Env) (nx:Nat) (bl:aj) (ms:List Nat) (k:p.T->R):R :=
 jP no env nx bl ms p.ff pre base fun π=>match an (DL π p.ms ms) (rZ π p.bl) with
  |true=>match uy (A:=JA p.bl Unit) π env p.env with
   |some f=>match Hi (A:=Unit) π nx bl p.bl with
    |some g=>k (f (g ()))
    |none=>no
   |none=>no
  |false=>no
theorem aC.B8 {X:Type} {no:Option X} {base:Nat} {p:aC} {env:Env} {nx:Nat} {bl:aj} {ms:List Nat} {k:p.T->Option X} {r:X} (h:p.rd no (List.range base) base env nx bl ms k=some r) :
  no=some r\/∃x π,k x=some r/\ou base π ⟨env,⟨nx,bl⟩,ms⟩ (p.st base x):=by
 rcases rY h with h|⟨rr,hlen,h⟩
 ·exact .inl h
 split at h
 ·rename_i hc
  rw [aQ] at hc
  split at h
  ·rename_i f hf
   split at h
   ·rename_i g hg
    obtain ⟨h1,h2⟩:=kH hf (g ())
    obtain ⟨h3,h4⟩:=qq hg ()
    refine .inr ⟨f (g ()),List.range base++rr,h,?_⟩
    constructor
    ·simp
    ·simp [aC.st,hlen]
    ·exact B7 hc.1
    ·exact h1
    ·simp only [aC.st,aC.B,h2];exact h3
    ·simp only [aC.st, aC.B, h2]
     intro q hq s hs e
     refine r8 hc.2 q.1 ?_ s.1 ?_ e
     ·rw [<-h4];exact List.mem_map_of_mem hq
     ·rw [<-h4];exact List.mem_map_of_mem hs
   ·exact .inl h
  ·exact .inl h
 ·exact .inl h
theorem aC.gR {X:Type} {base:Nat} {p:aC} {env:Env} {nx:Nat} {bl:aj} {ms:List Nat} {k:p.T->Option X} {r:X} (h:p.rd none (List.range base) base env nx bl ms k=some r) :
  ∃x π,k x=some r/\ou base π ⟨env,⟨nx,bl⟩,ms⟩ (p.st base x):=by
 rcases aC.B8 h with h|h
 ·cases h
 ·exact h
end
end Go.AM
end
section
namespace Go.AM
@[reducible] def cS (k:IntKind) (z:Int):Bool:=k.min<=z&&z<=k.max
@[reducible] def cR (i n:Int):Bool:=decide (0<=i/\i<n)
@[reducible] def en (a b:Int):Int:=if b<a then b else a
@[reducible] def imax (a b:Int):Int:=if b > a then b else a
@[reducible] def seq (a b:ByteArray):Bool:=a.toList==b.toList
@[reducible] def slt (a b:ByteArray):Bool:=Op.bytesLess a.toList b.toList
@[reducible] def C8 (c a b:Bool):Bool:=if c then a else b
def Hp : Ex → Ex → Bool
 | .normal,.normal=>true
 | .exit a,.exit b=>Nat.beq a b
 | .ret,.ret=>true
 |_,_=>false
theorem B9 {a b:Ex} (h:Hp a b=true):a=b:=by
 cases a<;>cases b<;>simp only [Hp,Bool.false_eq_true] at h<;>try rfl
 rw [Nat.eq_of_beq_eq_true h]
abbrev aX:=List (Ex×aC)
def aX.T : aX → Type
 |[]=>Empty
 |[(_,p)]=>p.T
 |(_,p)::q::r=>p.T ⊕ aX.T (q::r)
def aX.st (base : Nat) : (xs : aX) → xs.T → Ex × St
 |[],x=>nomatch x
 |[(e,p)],x=>(e,p.st base x)
 |(_,_)::q::r,.inr y=>aX.st base (q::r) y
 |(e,p)::_::_,.inl x=>(e,p.st base x)
section
variable {R:Type}
def Pv : List V → (List V → R) → R
 |[],k=>k []
 |v::r,k=>fV v fun v=>Pv r fun r=>k (v::r)
theorem r9 : ∀ (l : List V) (k : List V → R), Pv l k = k l
 |[],k=>rfl
 |v::r,k=>by simp only [Pv,jO,r9 r]
def Hq : Env → (Env → R) → R
 |[],k=>k []
 |(s,v)::r,k=>fV v fun v=>Hq r fun r=>k ((s,v)::r)
theorem vV : ∀ (l : Env) (k : Env → R), Hq l k = k l
 |[],k=>rfl
 |(s,v)::r,k=>by simp only [Hq,jO,vV r]
def Pw (b:js) (k:js->R):R:=match b with
 | .cells cs fz=>Pv cs fun cs=>k (.cells cs fz)
 | .arr t xs fz=>k (.arr t xs fz)
 | .loop st j d env ps as bd N=>Hq env fun env=>k (.loop st j d env ps as bd N)
 | .gi=>k .gi
 | .map kt kg vt vg es=>k (.map kt kg vt vg es)
 | .jo t xs i p v=>fV v fun v=>k (.jo t xs i p v)
theorem KE (b:js) (k:js->R):Pw b k=k b:=by cases b<;>simp only [Pw,r9,vV,jO]
def SM : aj → (aj → R) → R
 |[],k=>k []
 |(s,b)::r,k=>Pw b fun b=>SM r fun r=>k ((s,b)::r)
theorem vW : ∀ (l : aj) (k : aj → R), SM l k = k l
 |[],k=>rfl
 |(s,b)::r,k=>by simp only [SM,KE,vW r]
def aC.go (p:aC) (nx:Nat) (x:p.T) (k:Env->Nat->aj->List Nat->R):R:=Hq (p.E x) fun env=>SM (p.B x) fun bl=>k env nx bl p.ms
theorem aC.go_eq (p:aC) (nx:Nat) (x:p.T) (k:Env->Nat->aj->List Nat->R):p.go nx x k=k (p.E x) nx (p.B x) p.ms:=by
 unfold aC.go;rw [vV,vW]
def aX.go (kz : Kz R) (base : Nat) : (xs : aX) → xs.T → Kc R → R
 |[],x,_=>nomatch x
 |[(e,p)],x,k=>fN (base+p.ff.length) fun nx=>p.go nx x (k e)
 |(e,p)::q::r,x,k=>kz.sm x (fun x=>fN (base+p.ff.length) fun nx=>p.go nx x (k e)) fun y=>aX.go kz base (q::r) y k
end
theorem aX.Hr {X:Type} {base:Nat}:∀{xs:aX} {x:xs.T} {k:Kc (Option X)} {r:X},xs.go (gv X) base x k=some r ->
  k (xs.st base x).1 (xs.st base x).2.env (xs.st base x).2.H.next (xs.st base x).2.H.bl (xs.st base x).2.ms=some r
 |[],x,_,_,_=>nomatch x
 |[(e,p)],x,k,r,h=>by
  simp only [aX.go,gO] at h
  exact (aC.go_eq p _ (show p.T from x) (k e)).symm.trans h
 |(e,p)::q::s,x,k,r,h=>by
  simp only [aX.go,gv] at h
  cases x with
  |inl x =>
   simp only [gO] at h
   rw [aC.go_eq] at h
   exact h
  |inr y=>exact aX.Hr (xs:=q::s) (x:=y) h
def aX.rd {R : Type} (no : R) (pre : List Nat) (base : Nat) : (xs : aX) → Ex → Env → Nat → aj → List Nat → (xs.T → R) → R
 |[],_,_,_,_,_,_=>no
 |[(e',p)],e,env,nx,bl,ms,k=>match Hp e' e with
  |true=>p.rd no pre base env nx bl ms k
  |false=>no
 |(e',p)::q::r,e,env,nx,bl,ms,k=>match Hp e' e with
  |true=>p.rd (aX.rd no pre base (q::r) e env nx bl ms fun x=>k (.inr x)) pre base env nx bl ms fun x=>k (.inl x)
  |false=>aX.rd no pre base (q::r) e env nx bl ms fun x=>k (.inr x)
theorem aX.gR {X:Type} {base:Nat} {env:Env} {nx:Nat} {bl:aj} {ms:List Nat}:∀{xs:aX} {e:Ex} {k:xs.T->Option X} {r:X},xs.rd none (List.range base) base e env nx bl ms k=some r ->
  ∃x π,k x=some r/\e=(xs.st base x).1/\ou base π ⟨env,⟨nx,bl⟩,ms⟩ (xs.st base x).2
 |[],_,_,_,h=>by simp [aX.rd] at h
 |[(e',p)],e,k,r,h=>by
  simp only [aX.rd] at h
  split at h<;>try (cases h;done)
  rename_i he
  obtain ⟨x,π,h1,h2⟩:=aC.gR h
  exact ⟨x,π,h1,(B9 he).symm,h2⟩
 |(e',p)::q::s,e,k,r,h=>by
  simp only [aX.rd] at h
  split at h
  ·rename_i he
   rcases aC.B8 h with h|⟨x,π,h1,h2⟩
   ·obtain ⟨x, π, h1, h2, h3⟩ := aX.gR (xs := q :: s) h
    exact ⟨.inr x,π,h1,h2,h3⟩
   ·exact ⟨.inl x,π,h1,(B9 he).symm,h2⟩
  ·obtain ⟨x, π, h1, h2, h3⟩ := aX.gR (xs := q :: s) h
   exact ⟨.inr x,π,h1,h2,h3⟩
def NP {R:Type} (no:R) (pre:List Nat) (base:Nat) (p:aC) (xs:aX) (inl:p.T->R) (inr:xs.T->R):Kc R:=fun e env nx bl ms=>match e with
 | .normal=>p.rd no pre base env nx bl ms inl
 | .exit i=>xs.rd no pre base (.exit i) env nx bl ms inr
 | .ret=>xs.rd no pre base .ret env nx bl ms inr
def jG {P:Program} {N:Nat} {out:Option Nat} {base:Nat} {R:Type} (kz:Kz R) (cx:Cx) (ar:Ar) (pre:List Nat) (p:aC) (xs:aX) (body:D P N out base) (inl:p.T->R) (inr:xs.T->R) (x:p.T):R :=
 fN (base+p.ff.length) fun nx=>p.go nx x fun env nx bl ms=>kE kz cx ar body env nx bl ms (NP kz.no pre base p xs inl inr)
section
variable {P:Program} {N:Nat} {out:Option Nat} {base:Nat}
noncomputable def aR (mixed : P.follows .mixedOrders = true) (cx : Cx) (jd : cx.Ok P) (pre : List Nat) (hpre : pre = List.range base) (p : aC) (xs : aX) (hxs : xs.all (fun p => !Hp p.1 .normal) = true) (body : D P N out base)
  (step:p.T->Option (p.T ⊕ xs.T)) (hstep:∀x,jG (gv (p.T ⊕ xs.T)) cx bL pre p xs body (fun y=>some (.inl y)) (fun b=>some (.inr b)) x=step x):bp P N out base where
 c:=body.er
 run kz env nx bl ms K:=p.rd kz.no pre base env nx bl ms fun x=>kz.bd (iter step x) fun b=>xs.go kz base b K
 ok:=by
  intro X env nx bl ms K r h Q hQ
  subst hpre
  obtain ⟨x,π,h1,h2⟩:=aC.gR h
  obtain ⟨b,h3,h4⟩:=B4 h1
  have h5:=aX.Hr h4
  refine DD (ot mixed) (I:=p.st base) (X:=xs.st base) (step:=step) (fun x r hx=>?_) h3 h2 (hQ _ _ _ _ _ h5)
  rw [<-hstep x] at hx
  unfold jG at hx
  rw [gO,aC.go_eq] at hx
  refine rU jd hx fun e env nx bl ms hk=>?_
  unfold NP at hk
  cases e with
  |normal =>
   obtain ⟨y,π,q1,q2⟩:=aC.gR hk
   cases q1
   exact ⟨rfl,π,q2⟩
  |exit i =>
   obtain ⟨y,π,q1,q2,q3⟩:=aX.gR hk
   cases q1
   exact ⟨by simp,q2,π,q3⟩
  |ret =>
   obtain ⟨y,π,q1,q2,q3⟩:=aX.gR hk
   cases q1
   exact ⟨by simp,q2,π,q3⟩
def mw : List SP → Type → Type
 |[],A=>A
 |p::r,A=>p.T (mw r A)
def yq {A : Type} : (ps : List SP) → mw ps A → List V
 |[],_=>[]
 |p::r,x=>p.v x::yq r (p.r x)
def Px {A : Type} : (ps : List SP) → mw ps A → A
 |[],x=>x
 |p::r,x=>Px r (p.r x)
def uz {A : Type} (π : List Nat) : (ps : List SP) → List V → Option (A → mw ps A)
 |[],[]=>some fun a=>a
 |p::r,v::vs=>match SP.rd (A:=mw r A) π p v with
  |some f=>match uz π r vs with
   |some g=>some fun a=>f (g a)
   |none=>none
  |none=>none
 |_,_=>none
theorem yu {π : List Nat} {A : Type} : ∀ {ps : List SP} {vs : List V} {f : A → mw ps A}, uz π ps vs = some f → ∀ a, sX π (yq ps (f a)) vs ∧ Px ps (f a) = a
 |[],[],f,h,a=>by cases h;exact ⟨.nil,rfl⟩
 |c::r,v::vs,f,h,a=>by
  simp only [uz] at h
  split at h<;>try (cases h;done)
  rename_i f1 h1
  split at h<;>cases h
  rename_i g h2
  obtain ⟨q1,q2⟩:=SP.nq h1 (g a)
  obtain ⟨q3,q4⟩:=yu h2 a
  simp only [yq,Px,q2]
  exact ⟨.cons q1 q3,q4⟩
 |[],_::_,f,h,a=>by simp [uz] at h
 |_::_,[],f,h,a=>by simp [uz] at h
structure Ct where
 f:Nat
 ps:List SP
 res:SP
 fn:mw ps Unit->Option (res.T Unit)
def Ct.Ok (P:Program) (ct:Ct):Prop:=∀x y,ct.fn x=some y->gY P ct.f (yq ct.ps x) (ct.res.v y)
theorem yw {π:List Nat}:Mu.jq (fun _=>none) π=fun _=>none:=by
 funext i;simp only [Mu.jq];cases π[i]?<;>rfl
theorem vX {f:Nat} {vs vs':List V} {v:V} {nx:Nat} {bl:aj} (h:gY P f vs' v) (hm:cM (fin bL bl 8) vs=some vs') (hs:xB v=true) {Q:V->aK->Prop} (hQ:Q v ⟨nx,bl⟩):eI P f vs ⟨nx,bl⟩ Q:=by
 refine ⟨h.1,fun Y ι μ w as hI hl=>?_⟩
 refine (h.2 (ι.all Y.own w) w as (hI.jL.mono (aA.vA hI.rd)) (fun b o x hx=>?_) (fT (fun v r x h hr=>qm (fun _ _ _=>rfl) hI h hr) hm hl)).mono ?_
 ·exact aA.Al hI.rd hx
 ·rintro e w' ⟨x, ι', rfl, _, _, _, gr, vw⟩
  exact ⟨x,ι,μ,v,_,rfl,aA.le_refl _,Mu.le_refl _,hI.called (aA.le_refl _) (fun _ _ _=>rfl) (eZ.kept (fun b o x hx=>hI.rd b o x hx) gr) gr,x6 hs vw,hQ⟩
def vY {R : Type} (kz : Kz R) (f : Nat) (vs : List V) (K : V → R) : List Ct → R
 |[]=>kz.no
 |ct::r=>match Nat.beq ct.f f with
  |true=>match uz (A:=Unit) [] ct.ps vs with
   |some g=>kz.bd (ct.fn (g ())) fun y=>ct.res.kv kz y K
   |none=>vY kz f vs K r
  |false=>vY kz f vs K r
def yx (P : Program) : List Ct → Prop
 |[]=>True
 |c::r=>c.Ok P/\yx P r
theorem k8 {X : Type} {f : Nat} {vs : List V} {K : V → Option X} {r : X} : ∀ {qt : List Ct}, yx P qt → vY (gv X) f vs K qt = some r → ∃ v, gY P f vs v ∧ K v = some r
 |[],_,hk=>by cases hk
 |ct::qt,h,hk=>by
  simp only [vY] at hk
  split at hk
  ·rename_i hf
   have e:=Nat.eq_of_beq_eq_true hf
   subst e
   split at hk
   ·rename_i g hg
    obtain ⟨y,hy,hk⟩:=cO hk
    rw [SP.TU] at hk
    obtain ⟨q1,_⟩:=yu hg ()
    refine ⟨_,?_,hk⟩
    have hp:=h.1 _ _ hy
    exact ⟨hp.1, fun ι w as TW hrd hl => hp.2 ι w as TW hrd (by
     have:=aG.jq (π:=[]) q1.1 (fun i v u hv hu=>fun {x} hr=>(q1.2 i v u hv hu).rel hr) hl
     rwa [yw] at this)⟩
   ·exact k8 h.2 hk
  ·exact k8 h.2 hk
theorem DM {f:Nat} {vs vs':List V} {v:V} {nx:Nat} {bl bG:aj} (h:gY P f vs' v) (hm:cM (fin bL bl 8) vs=some vs') (hb:pz (gj bl vs) bl=some bG) {Q:V->aK->Prop} (hQ:Q v ⟨nx,bG⟩):eI P f vs ⟨nx,bl⟩ Q:=by
 refine ⟨h.1,fun Y ι μ w as hI hl=>?_⟩
 obtain ⟨ι',h1,h2,h3⟩:=qo hI hb
 have hl':aG ι' (fun _=>none) vs' as.toList:=by
  have key:∀{vs vs':List V} {xs:List Value},cM (fin bL bl 8) vs=some vs'->(∀id∈gj bl vs,tA ι' μ id (aq id bl))->aG ι μ vs xs->aG ι' (fun _=>none) vs' xs:=by
   intro vs
   induction vs with
   |nil=>intro vs' xs hm _ hl;cases hm;rw [hl.of_nil];exact .nil
   |cons v r ih =>
    intro vs' xs hm hfz hl
    unfold cM at hm
    split at hm<;>try (cases hm;done)
    rename_i u hu
    split at hm<;>cases hm
    rename_i us BM
    obtain ⟨x,xs',rfl,r1,r2⟩:=hl.bF
    simp only [gj,List.flatMap_cons,List.mem_append] at hfz
    exact .cons (vD hu (fun id hid=>hfz id (.inl hid)) (r1.mono h1 (Mu.le_refl _))) (ih BM (fun id hid=>hfz id (.inr hid)) r2)
  exact key hm h3 hl
 refine (h.2 ι' w as h2.jL (fun b o x hx=>h2.rd b o x hx) hl').mono ?_
 rintro e w' ⟨x,ι2,rfl,hi,Gi,hrd,gr,vw⟩
 exact ⟨x,ι2,μ,v,_,rfl,aA.le_trans h1 hi,Mu.le_refl _,h2.called hi Gi hrd gr,vw.mono (aA.le_refl _) (fun _ _ h=>by cases h),hQ⟩
def KF {R:Type} (qt:List Ct) (kz:Kz R) (f:Nat) (vs:List V) (nx:Nat) (bl:aj) (K:V->Nat->aj->R):R:=match vs.all (cV 8) with
 |true=>vY kz f vs (fun v=>K v nx bl) qt
 |false=>match cM (fin bL bl 8) vs with
  |some vs'=>vY kz f vs' (fun v=>match xB v with
   |true=>K v nx bl
   |false=>match pz (gj bl vs) bl with
    |some bG=>SM bG fun bG=>K v nx bG
    |none=>kz.no) qt
  |none=>kz.no
def TX (qt:List Ct):Cx where
 pc kz f vs K:=vY kz f vs K qt
 ca kz f vs nx bl K:=KF qt kz f vs nx bl K
 rd kz _ _ _ _ _:=kz.no
theorem KG {qt:List Ct} (h:yx P qt):(TX qt).Ok P where
 SK hk:=k8 h hk
 Pk:=by
  intro X f vs nx bl K r hk Q hQ
  simp only [TX,KF] at hk
  split at hk
  ·rename_i hd
   obtain ⟨v,hp,hk⟩:=k8 h hk
   exact Ap hp hd (hQ _ _ _ hk)
  ·split at hk <;> try (cases hk; done)
   rename_i vs' hm
   obtain ⟨v,hp,hk⟩:=k8 h hk
   split at hk
   ·rename_i hs
    exact vX hp hm hs (hQ _ _ _ hk)
   ·split at hk <;> try (cases hk; done)
    rename_i bG hb
    rw [vW] at hk
    exact DM hp hm hb (hQ _ _ _ hk)
 X6 hk:=by cases hk
 TS hk:=.inl hk
def Py {R:Type} (kz:Kz R) (ar:Ar) (rs:List RV) (tys:List (Option Ty)) (res:SP) (k:res.T Unit->R):Kc R:=fun e env nx bl ms=>match e with
 | .exit _=>kz.no
 | .normal=>go env nx bl ms
 | .ret=>go env nx bl ms
where go (env:Env) (nx:Nat) (bl:aj) (ms:List Nat):R:=match dz ms bl with
 |some bl=>match pX ar ⟨env,⟨nx,bl⟩,[]⟩ rs with
  |some vs=>match fin ar bl 8 (o9 (bX tys vs)) with
   |some v=>match SP.rd (A:=Unit) [] res v with
    |some f=>k (f ())
    |none=>kz.no
   |none=>kz.no
  |none=>kz.no
 |none=>kz.no
def fnE {R:Type} (kz:Kz R) (cx:Cx) (ar:Ar) (rs:List RV) (tys:List (Option Ty)) (ps:List SP) (res:SP) (body:D P N none 0) (k:res.T Unit->R) (x:mw ps Unit):R :=
 Pv (yq ps x) fun vs=>kE kz cx ar body (args 0 vs) 0 [] [] (Py kz ar rs tys res k)
theorem DN {f : Nat} {func : Func} {fn : Fn} (hf : P.funcs[f]? = some func) (jA : cD P func = some fn) (fc : fI P f) (gL : lZ P fn.N none 0) {vs : List V} {r : V} (hlen : vs.length ≤ fn.np)
  (h:pU (fY P fn.N none 0) fn.body ⟨args 0 vs,⟨0,[]⟩,[]⟩ (Dn (fY P fn.N none 0) fn.res fn.tys (fun r'=>EV [] r r'))):gY P f vs r:=by
 refine ⟨fc,fun ι w as TW hrd hr=>?_⟩
 let Y:Ctx:=⟨w,ι,fun _=>none,none,fun _=>False,[]⟩
 have hI:Inv P Y ι (fun _=>none) ⟨0,[]⟩ w:=⟨E5.refl _ _,aA.le_refl _,fun _ _ _ _=>rfl,hrd,fun id L h=>h,fun _ _=>rfl,fun id B h=>by simp [aq] at h,fun id id' B B' L L' h=>by simp [aq] at h,fun id B h=>by simp [aq] at h,TW⟩
 have hres:FB P func.results.toList=some fn.res:=by
  unfold cD at jA
  split at jA<;>try (cases jA;done)
  split at jA<;>try (cases jA;done)
  rename_i X2
  split at jA<;>try (cases jA;done)
  cases jA;exact X2
 refine BU (Y:=Y) hf jA gL hlen h rfl rfl (fun _ _=>rfl) hI hr fun Y1 ι' μ' S' a' w' e' hY hR hq=>?_
 have key:Dn.mb (fY P fn.N none 0) fn.res fn.tys (fun r'=>EV [] r r') S'->LeavesInM Fence.wide 0 P func a'.tmps (fun e w'=>∃v ι',e = .returned v/\ι.le ι'/\(∀b o,b<w.heap.size->ι' b o=ι b o)/\eZ ι' w' /\
   Dw w w'/\Rel ι' (fun _=>none) r v) a'.defers .returning w':=by
  intro hs
  unfold Dn.mb at hs
  split at hs<;>try (exact hs.elim)
  rename_i bl tn
  split at hs<;>try (exact hs.elim)
  rename_i vs' hvs
  split at hs<;>try (exact hs.elim)
  rename_i r' Zp
  refine oe hres (n:=S'.H.next) (bl:=S'.H.bl) hY rfl hR.inv hR.env hR.ms tn hvs fun x w2 lV hx=>?_
  refine ⟨x,ι'.all Y.own w2,rfl,aA.le_trans lV.i0 (aA.vA lV.rd),fun b o hb=>?_,fun b o y hy=>?_,lV.below.to (fun _ h=>h),?_⟩
  ·rw [aA.J9 (fun h=>by rcases h with h|h;exact absurd hb (Nat.not_lt.2 h);exact h)];exact lV.iB b o hb (fun h=>h)
  ·exact aA.Al lV.rd hy
  ·have := hs.rel (qm (Y := Y) (ar := fY P fn.N none 0) (fun _ _ _ => rfl) lV Zp (hx fn.tys))
   rwa [yw] at this
 cases e' with
 |exit id=>exact hq.elim
 |normal=>exact ⟨.inl rfl,key hq⟩
 |ret=>exact ⟨.inr rfl,key hq⟩
theorem bh (mixed : P.follows .mixedOrders = true) {cx : Cx} (jd : cx.Ok P) {func : Func} {fn : Fn} {ct : Ct} (hf : P.funcs[ct.f]? = some func) (jA : cD P func = some fn) (fc : fI P ct.f)
  (body:D P fn.N none 0) (hbody:body.er=fn.body) (hnp:Nat.ble ct.ps.length fn.np=true) (hfn:∀x,fnE (gv (ct.res.T Unit)) cx bL fn.res fn.tys ct.ps ct.res body some x=ct.fn x):ct.Ok P:=by
 intro x y hxy
 rw [<-hfn x] at hxy
 unfold fnE at hxy
 rw [r9] at hxy
 have hlen:∀(ps:List SP) (x:mw ps Unit),(yq ps x).length=ps.length:=by
  intro ps
  induction ps with
  |nil=>intro x;rfl
  |cons p r ih=>intro x;simp [yq,ih]
 have hwp:=rU (Q:=Dn (fY P fn.N none 0) fn.res fn.tys (fun r=>EV [] (ct.res.v y) r)) jd hxy (fun e env nx bl ms hk=>by
  have key:Py.go (gv (ct.res.T Unit)) bL fn.res fn.tys ct.res some env nx bl ms=some y->Dn.mb (fY P fn.N none 0) fn.res fn.tys (fun r=>EV [] (ct.res.v y) r) ⟨env,⟨nx,bl⟩,ms⟩:=by
   intro hg
   unfold Py.go at hg
   unfold Dn.mb
   split at hg<;>try (cases hg;done)
   rename_i bG h1
   rw [h1]
   simp only
   split at hg<;>try (cases hg;done)
   rename_i vs h2
   rw [h2]
   simp only
   have e:fin (fY P fn.N none 0) bG 8 (o9 (bX fn.tys vs))=fin bL bG 8 (o9 (bX fn.tys vs)):=by unfold fY;exact rJ
   rw [e]
   split at hg<;>try (cases hg;done)
   rename_i v h3
   rw [h3]
   simp only
   split at hg<;>try (cases hg;done)
   rename_i f h4
   cases hg
   exact (SP.nq h4 ()).1
  cases e with
  |exit i=>cases hk
  |normal=>exact key hk
  |ret=>exact key hk)
 rw [hbody] at hwp
 exact DN hf jA fc (ot mixed) (by rw [hlen];exact Nat.le_of_ble_eq_true hnp) hwp
end
end Go.AM
end
section
namespace Go.AM
section
variable {P:Program} {N:Nat} {out:Option Nat} {base:Nat} {π:List Nat}
theorem KH {c:Code} {S S':St} {Q:Ex->St->Prop} (h:Ga P N out base c S' Q) (he:ou base π S S'):Ga P N out base c S Q :=
 fun Y ι μ a w ho hb hR=>h Y ι _ a w ho hb (he.rep hb hR)
theorem Hs {c:Code} {S:St} {Q:Ex->St->Prop} (h:Ga P N out base c S fun e S'=>∃JB π,ou base π S' JB/\Q e JB):Ga P N out base c S Q :=
 fun Y ι μ a w ho hb hR=>wpIn_mono (h Y ι μ a w ho hb hR) fun e a w hp=>by
  obtain ⟨Y1,hY,ι,μ,S',e',h1,h2,JB,π,h3,h4⟩:=hp
  exact ⟨Y1,hY,ι,_,JB,e',h3.rep (hY.BO hb) h1,h2,h4⟩
def vZ {R : Type} : List Nat → List V → Env → (Env → R) → R
 |p::ps,v::vs,env,k=>fV v fun v=>vZ ps vs ((p,v)::env) k
 |_,_,env,k=>k env
theorem uA {R : Type} : ∀ (ps : List Nat) (vs : List V) (env : Env) (k : Env → R), vZ ps vs env k = k (pF ps vs env)
 |[],vs,env,k=>by cases vs<;>rfl
 |p::ps,[],env,k=>rfl
 |p::ps,v::vs,env,k=>by simp only [vZ,jO];rw [uA ps vs];rfl
def Hu {R:Type} (kz:Kz R) (qc:Nat) (K:V->Nat->aj->R):Kc R:=fun e _ nx bl _=>match aq qc bl with
 |some (.loop .busy _ d env ps as bd N)=>lH qc bl fun bl=>match e with
  | .normal=>K (.tf true) nx ((qc,.loop .ready none d env ps as bd N)::bl)
  | .exit i=>K (.tf false) nx ((qc,.loop .done (some (.exit i)) d env ps as bd N)::bl)
  | .ret=>K (.tf false) nx ((qc,.loop .done (some .ret) d env ps as bd N)::bl)
 |_=>kz.no
theorem Hv {X : Type} {qc : Nat} {K : V → Nat → aj → Option X} {r : X} {e : Ex} {env : Env} {nx : Nat} {bl : aj} {ms : List Nat} (h : Hu (gv X) qc K e env nx bl ms = some r) {Q : V → aK → Prop}
  (hQ:∀v nx bl,K v nx bl=some r->Q v ⟨nx,bl⟩):m7 qc Q e ⟨env,⟨nx,bl⟩,ms⟩:=by
 unfold Hu at h
 unfold m7
 simp only
 split at h<;>try (cases h;done)
 rename_i hb
 try rw [hb]
 try simp only
 rw [gP] at h
 cases e<;>exact hQ _ _ _ h
def Pz {R:Type} (kz:Kz R) (cx:Cx) (ar:Ar) (qc yy:Nat) (ps:List Nat) (X7 X8:D P N (some qc) yy) (id:Nat) (vs:List V) (nx:Nat) (bl:aj) (K:V->Nat->aj->R):R :=
 match an (Nat.beq id qc) (Nat.beq nx yy) with
 |true=>match aq qc bl with
  |some (.loop .ready none _ env ps' as bd N')=>match an (Nat.beq vs.length ps'.length) (an (Nat.beq N' N) (an (gd as X7.er) (gd bd X8.er))) with
   |true=>vZ ps' vs env fun env=>kE kz cx ar X7 env nx bl [] fun e env nx bl ms=>match e with
    | .normal=>match aq qc bl with
     |some (.loop .ready none d' env' ps' as' NJ N')=>lH qc bl fun bl=>kE kz cx ar X8 env nx ((qc,.loop .busy none d' env' ps' as' NJ N')::bl) ms (Hu kz qc K)
     |_=>kz.no
    |_=>kz.no
   |false=>kz.no
  |_=>kz.no
 |false=>kz.no
theorem sg (mixed : P.follows .mixedOrders = true) {cx : Cx} (jd : cx.Ok P) {qc yy : Nat} {ps : List Nat} {X7 X8 : D P N (some qc) yy} {id : Nat} {vs : List V} {nx : Nat} {bl : aj} {X : Type}
  {K:V->Nat->aj->Option X} {r:X} (h:Pz (gv X) cx bL qc yy ps X7 X8 id vs nx bl K=some r) {Q:V->aK->Prop} (hQ:∀v nx bl,K v nx bl=some r->Q v ⟨nx,bl⟩):around P id vs ⟨nx,bl⟩ Q:=by
 unfold Pz at h
 split at h<;>try (cases h;done)
 rename_i h1
 rw [aQ] at h1
 have e1:=Nat.eq_of_beq_eq_true h1.1
 have e2:=Nat.eq_of_beq_eq_true h1.2
 subst e1;subst e2
 split at h<;>try (cases h;done)
 rename_i d env ps' as bd N' hb
 split at h<;>try (cases h;done)
 rename_i h2
 simp only [aQ] at h2
 obtain ⟨c1,c2,c3,c4⟩:=h2
 have e3:=Nat.eq_of_beq_eq_true c2
 have e4:=qp c3
 have e5:=qp c4
 have e6:=Nat.eq_of_beq_eq_true c1
 subst e3;subst e4;subst e5
 refine Dz (fun N=>ot mixed) ?_
 unfold Au
 simp only
 rw [hb]
 simp only
 refine ⟨e6,?_⟩
 rw [uA] at h
 refine rU jd h fun e env nx bl ms h=>?_
 cases e with
 |exit i=>cases h
 |ret=>cases h
 |normal =>
  simp only at h ⊢
  split at h<;>try (cases h;done)
  rename_i d' env' ps2 as' NJ N2 iF
  try rw [iF]
  try simp only
  rw [gP] at h
  exact rU jd h fun e env nx bl ms h=>Hv h hQ
def DO (cx:Cx) (rd:{R:Type}->Kz R->Nat->List V->Nat->aj->(V->Nat->aj->R)->R):Cx where
 pc:=cx.pc
 ca:=cx.ca
 rd:=rd
 gc:=cx.gc
theorem nr {cx : Cx} (jd : cx.Ok P) {rd : {R : Type} → Kz R → Nat → List V → Nat → aj → (V → Nat → aj → R) → R}
  (h:∀{X:Type} {id:Nat} {vs:List V} {nx:Nat} {bl:aj} {K:V->Nat->aj->Option X} {r:X},rd (gv X) id vs nx bl K=some r->∀{Q:V->aK->Prop},(∀v nx bl,K v nx bl=some r->Q v ⟨nx,bl⟩)->around P id vs ⟨nx,bl⟩ Q) :
  (DO cx rd).Ok P:=⟨fun hk=>jd.SK hk,fun hk=>jd.Pk hk,fun hk=>h hk,fun hk=>jd.TS hk⟩
def yz {R:Type} (kz:Kz R) (rs:List RV) (K:Nat->aj->R):Kc R:=fun e env nx bl ms=>match e with
 | .exit _=>kz.no
 | .normal=>go env nx bl ms
 | .ret=>go env nx bl ms
where go (env:Env) (nx:Nat) (bl:aj) (ms:List Nat):R:=match dz ms bl with
 |some bl=>match pX bL ⟨env,⟨nx,bl⟩,[]⟩ rs with
  |some _=>K nx bl
  |none=>kz.no
 |none=>kz.no
theorem yA {X : Type} {rs : List RV} {tys : List (Option Ty)} {K : Nat → aj → Option X} {r : X} {e : Ex} {env : Env} {nx : Nat} {bl : aj} {ms : List Nat} (h : yz (gv X) rs K e env nx bl ms = some r) {Q : V → aK → Prop}
  (hQ:∀v nx bl,K nx bl=some r->Q v ⟨nx,bl⟩):vz rs tys Q e ⟨env,⟨nx,bl⟩,ms⟩:=by
 have key:yz.go (gv X) rs K env nx bl ms=some r->vz.mb rs tys Q ⟨env,⟨nx,bl⟩,ms⟩:=fun hg=>by
  unfold yz.go at hg
  unfold vz.mb
  split at hg<;>try (cases hg;done)
  rename_i bG h1
  simp only
  rw [h1]
  simp only
  split at hg<;>try (cases hg;done)
  rename_i vs h2
  rw [h2]
  exact hQ _ _ _ hg
 cases e with
 |exit i=>cases h
 |normal=>exact key h
 |ret=>exact key h
def Ca {R : Type} (no : R) : List Nat → aj → (aj → R) → R
 |[],bl,K=>K bl
 |id::r,bl,K=>match aq id bl with
  |some .gi=>lH id bl fun bl=>Ca no r bl K
  |_=>no
theorem yB {X : Type} {no : Option X} {r : X} (hno : no = none) : ∀ {sh : List Nat} {bl : aj} {K : aj → Option X}, Ca no sh bl K = some r → ∃ bG, dz sh bl = some bG ∧ K bG = some r
 |[],bl,K,h=>⟨bl,rfl,h⟩
 |id::sh,bl,K,h=>by
  simp only [Ca] at h
  simp only [dz]
  split at h
  ·rename_i hb
   rw [gP] at h
   rw [hb]
   exact yB hno h
  ·rw [hno] at h;cases h
def KI {R:Type} (kz:Kz R) (qc:Nat) (env:Env) (sh ms:List Nat) (K:Kc R) (nx:Nat) (bl:aj):R:=match aq qc bl with
 |some (.loop st j _ _ _ _ _ _)=>match st with
  | .busy=>kz.no
  |_=>lH qc bl fun bl=>Ca kz.no sh bl fun bl=>match j with
   |none=>K .normal env nx bl ms
   |some (.exit i)=>K (.exit i) env nx bl ms
   |some .ret=>K .ret env nx bl ms
   |some .normal=>kz.no
 |_=>kz.no
theorem Cb {X : Type} {qc : Nat} {S : St} {sh : List Nat} {K : Kc (Option X)} {nx : Nat} {bl : aj} {r : X} (h : KI (gv X) qc S.env sh S.ms K nx bl = some r) {Q : Ex → St → Prop}
  (hQ:∀e env nx bl ms,K e env nx bl ms=some r->Q e ⟨env,⟨nx,bl⟩,ms⟩):gB qc sh S Q ⟨nx,bl⟩:=by
 unfold KI at h
 unfold gB
 simp only
 split at h<;>try (cases h;done)
 rename_i st j _ _ _ _ _ _ hb
 try rw [hb]
 try simp only
 split at h
 ·cases h
 ·rename_i hst
  rw [gP] at h
  obtain ⟨bG,hs,h⟩:=yB rfl h
  have:BX j ⟨S.env,⟨nx,bG⟩,S.ms⟩ Q:=by
   split at h
   ·exact hQ _ _ _ _ _ h
   ·exact hQ _ _ _ _ _ h
   ·exact hQ _ _ _ _ _ h
   ·cases h
  rw [hs]
  cases st<;>first|exact this|exact absurd rfl hst
def Az {R:Type} (kz:Kz R) (cx:Cx) (ar:Ar) (pre:List Nat) (p:aC) (xs:aX) (f:O) (ps:List Nat) (as bd:C) (rs:List RV) (np:Nat) (fid:Nat) {Nit lJ:Nat} (KJ:D P Nit none lJ) (inr:xs.T->R) (x:p.T):R :=
 fN (base+p.ff.length) fun nx=>p.go nx x fun env nx bl ms=>match f.ev env with
 | .fn PA first cap=>match an (Nat.beq PA fid) (Nat.ble (first++[V.any]++cap).length np) with
  |true=>match out with
   |none=>match ms with
    |_::_=>kz.no
    | [] => Pv (first ++ [.yl (nx + 1)] ++ cap) fun vs => kE kz cx ar KJ (args 0 vs) lJ ((nx + 1, .loop .ready none nx env ps as bd N) :: (nx, .gi) :: bl) []
     (yz kz rs (KI kz (nx+1) env [nx] [] fun e env nx bl ms=>xs.rd kz.no pre base e env nx bl ms inr))
   |some SF=>match aq SF bl with
    | some (.loop _ _ d _ _ _ _ _) => Pv (first ++ [.yl nx] ++ cap) fun vs => kE kz cx ar KJ (args 0 vs) lJ ((nx, .loop .ready none d env ps as bd N) :: bl) []
     (yz kz rs (KI kz nx env [] ms fun e env nx bl ms=>xs.rd kz.no pre base e env nx bl ms inr))
    |_=>kz.no
  |false=>kz.no
 |_=>kz.no
def Hw (c:C):bp P N out base where
 c:=c
 run kz _ _ _ _ _:=kz.no
 ok h:=by cases h
def DP (f:O) (ps:List Nat) (a b:C):iI P N out base where
 f:=f
 ps:=ps
 a:=a
 b:=b
 run kz _ _ _ _ _:=kz.no
 ok h:=by cases h
def KK (pre:List dB) (m:O) (it:Nat) (cl:List Nat) (e:Option Nat) (kt:Ty) (kg:Bool) (vt:Ty) (vg:Bool) (Ju:Nat) (b:C):Pm P N out base where
 pre:=pre
 m:=m
 it:=it
 cl:=cl
 e:=e
 kt:=kt
 kg:=kg
 vt:=vt
 vg:=vg
 Ju:=Ju
 b:=b
 run kz _ _ _ _ _:=kz.no
 ok h:=by cases h
noncomputable def Hx (mixed : P.follows .mixedOrders = true) (cx : Cx) (jd : cx.Ok P) (pre : List Nat) (hpre : pre = List.range base) (p : aC) (xs : aX) (f : O) (ps : List Nat) (hps : ps.all (Nat.blt · N) = true) (as bd : C)
  (fid:Nat) {func:Func} {fn:Fn} (hf:P.funcs[fid]?=some func) (jA:cD P func=some fn) (fc:fI P fid) (lJ:Nat) (oy:lJ=base+p.ff.length+(match out with|none=>2|some _=>1))
  (KJ:D P fn.N none lJ) (hit:KJ.er=fn.body) (RF:p.T->Option xs.T)
  (Zq:∀x,Az (N:=N) (out:=out) (base:=base) (gv xs.T) cx bL pre p xs f ps as bd fn.res fn.np fid KJ some x=RF x):Aw P N out base f ps as bd where
 run kz env nx bl ms K:=p.rd kz.no pre base env nx bl ms fun x=>kz.bd (RF x) fun b=>xs.go kz base b K
 ok:=by
  intro X env nx bl ms K r h Q hQ
  subst hpre
  obtain ⟨x,π,h1,h2⟩:=aC.gR h
  obtain ⟨b,h3,h4⟩:=B4 h1
  have h5:=aX.Hr h4
  have hq:=hQ _ _ _ _ _ h5
  rw [<-Zq x] at h3
  unfold Az at h3
  rw [gO,aC.go_eq] at h3
  intro fo zE ao bo q1 q2 q3 q4
  refine KH (Hs ?_) h2
  refine yc (K:=fun e S'=>∃JB π,ou base π S' JB/\Q e JB) ?_ fo zE ao bo q1 q2 q3 q4
  refine ⟨hps,?_⟩
  cases kY:f.ev (p.E x) with
  |fn PA first cap=>?_
  |_=>rw [kY] at h3;cases h3
  have Zr:f.ev (p.st base x).env = .fn PA first cap:=kY
  rw [Zr]
  rw [kY] at h3
  simp only at h3 ⊢
  split at h3<;>try (cases h3;done)
  rename_i hc
  rw [aQ] at hc
  have e1:=Nat.eq_of_beq_eq_true hc.1
  have e2:=Nat.le_of_ble_eq_true hc.2
  subst e1
  have hlen:∀v:V,(first++[v]++cap).length<=fn.np:=fun v=>by simpa using e2
  have hout:∀e env nx bl ms,xs.rd none (List.range base) base e env nx bl ms some=some b->∃JB π,ou base π ⟨env,⟨nx,bl⟩,ms⟩ JB/\Q e JB:=fun e env nx bl ms hk=>by
   obtain ⟨y,π,r1,r2,r3⟩:=aX.gR hk
   cases r1
   exact ⟨_,π,r3,by rw [r2];exact hq⟩
  cases out with
  |none =>
   simp only at h3 oy ⊢
   split at h3
   ·cases h3
   rename_i X0
   rw [r9] at h3
   refine ⟨X0,?_⟩
   subst oy
   refine rP hf jA fc (ot mixed) (hlen _) ?_
   rw [<-hit]
   refine rU jd h3 fun e env nx bl ms hk=>?_
   exact yA hk fun v nx bl hk => Cb (S := p.st base x) (by
    have e:(p.st base x).ms=[]:=X0
    rw [e];exact hk) hout
  |some SF =>
   simp only at h3 oy ⊢
   split at h3<;>try (cases h3;done)
   rename_i hb
   rw [r9] at h3
   have hb':aq SF (p.st base x).H.bl=_:=hb
   simp only [aC.st] at hb' ⊢
   rw [hb']
   simp only
   subst oy
   refine rP hf jA fc (ot mixed) (hlen _) ?_
   rw [<-hit]
   refine rU jd h3 fun e env nx bl ms hk=>?_
   exact yA hk fun v nx bl hk=>Cb (S:=p.st base x) hk hout
noncomputable def nt (mixed : P.follows .mixedOrders = true) (cx : Cx) (jd : cx.Ok P) (pre : List Nat) (hpre : pre = List.range base) (p : aC) (xs : aX) (f : O) (ps : List Nat) (hps : ps.all (Nat.blt · N) = true) (as bd : C)
  (fid:Nat) {func:Func} {fn:Fn} (hf:P.funcs[fid]?=some func) (jA:cD P func=some fn) (fc:fI P fid) (lJ:Nat) (oy:lJ=base+p.ff.length+(match out with|none=>2|some _=>1))
  (KJ:D P fn.N none lJ) (hit:KJ.er=fn.body) (RF:p.T->Option xs.T)
  (Zq:∀x,Az (N:=N) (out:=out) (base:=base) (gv xs.T) cx bL pre p xs f ps as bd fn.res fn.np fid KJ some x=RF x):iI P N out base :=
 (Hx mixed cx jd pre hpre p xs f ps hps as bd fid hf jA fc lJ oy KJ hit RF Zq).s
end
end Go.AM
end
section
namespace Go.AM
theorem si {σ : List Nat} {ι : aA} {μ μ' : Mu} (hσ : ∀ j i L, σ[j]? = some i → μ j = some L → μ' i = some L) : ∀ {n : Nat} {v u : V} {x : Value}, iZ σ n v = some u → Rel ι μ v x → Rel ι μ' u x
 |0,v,u,x,h,_=>by cases h
 |n+1,v,u,x,h,hr=>by
  have g:∀v u x,iZ σ n v=some u->Rel ι μ v x->Rel ι μ' u x:=fun v u x h hr=>si hσ h hr
  have lift:∀{cs ds:List V} {xs:Array Value},cM (iZ σ n) cs=some ds->cs.length=xs.size->(∀(i:Nat) v x,cs[i]?=some v->xs[i]?=some x->Rel ι μ v x)->aG ι μ' ds xs.toList :=
   fun hm h1 h2=>fT g hm ⟨by simpa using h1,fun i v x hv hx=>h2 i v x hv (by simpa using hx)⟩
  cases hr<;>simp only [iZ] at h
  case any=>cases h;exact .any _
  case tf=>cases h;exact .tf _
  case bool=>cases h;exact .bool _
  case int=>cases h;exact .int _ _
  case str=>cases h;exact .str _
  case ee=>cases h;exact .ee
  case cw=>cases h;exact .cw
  case ek=>cases h;exact .ek
  case dS t xs hd=>cases h;exact .dS t xs _ hd
  case bK=>cases h;exact .bK _
  case sl id t lo m cap L hL h1 h2 h3 =>
   split at h<;>try (cases h;done)
   rename_i i hi;cases h
   exact .sl i t lo m cap L (hσ _ _ _ hi hL) h1 h2 h3
  case bO id t lo a =>
   split at h<;>try (cases h;done)
   cases h;exact .bO _ _ _ _
  case ptr id off L hL =>
   split at h<;>try (cases h;done)
   rename_i i hi;cases h
   exact .ptr i off L (hσ _ _ _ hi hL)
  case ep id t j p L hL =>
   split at h<;>try (cases h;done)
   rename_i i hi;cases h
   exact .ep i t j p L (hσ _ _ _ hi hL)
  case yl id L hL =>
   split at h<;>try (cases h;done)
   rename_i i hi;cases h
   exact .yl i L (hσ _ _ _ hi hL)
  case bR cs b o gf h1 h2 h3 =>
   split at h<;>try (cases h;done)
   rename_i ds hds;cases h
   have hR:aG ι μ cs ((List.range cs.length).map gf):=⟨by simp,fun i v x hv hx=>by
    have hi:=(List.getElem?_eq_some_iff.1 hv).1
    simp [hi] at hx;subst hx;exact h2 i v hv⟩
   have fy:=fT g hds hR
   have hl:ds.length=cs.length:=by have:=fy.1;simpa using this
   exact .bR ds b o gf (fun i hi => h1 i (by omega)) (fun i v hv => fy.2 i v (gf i) hv (by
    have hi:=(List.getElem?_eq_some_iff.1 hv).1
    simp [show i<cs.length by omega])) h3
  case ip t y b o us h1 h2=>cases h;exact .ip t y b o us h1 h2
  case fn f fs cs xs ys h1 h2 h3 h4 =>
   split at h<;>try (cases h;done)
   rename_i as ha
   split at h<;>try (cases h;done)
   rename_i bs hb;cases h
   have r1:=lift ha h1 h2
   have r2:=lift hb h3 h4
   exact .fn f as bs xs ys (by simpa using r1.1) (fun i v x hv hx=>r1.2 i v x hv (by simpa using hx)) (by simpa using r2.1) (fun i v x hv hx=>r2.2 i v x hv (by simpa using hx))
  case agg cs xs h1 h2 h3 =>
   split at h<;>try (cases h;done)
   rename_i ds hds;cases h
   have r1:=lift hds h1 h2
   exact .agg ds xs (by simpa using r1.1) (fun i v x hv hx=>r1.2 i v x hv (by simpa using hx)) h3
  case cq cs xs h1 h2 =>
   split at h<;>try (cases h;done)
   rename_i ds hds;cases h
   have r1:=lift hds h1 h2
   exact .cq ds xs (by simpa using r1.1) (fun i v x hv hx=>r1.2 i v x hv (by simpa using hx))
  case cn t v x hv =>
   split at h<;>try (cases h;done)
   rename_i u' hu;cases h
   exact .cn t u' x (g _ _ _ hu hv)
  case cb c b hc=>cases h;exact .cb c b hc
  case mp id L hL =>
   split at h<;>try (cases h;done)
   rename_i i hi;cases h
   exact .mp i L (hσ _ _ _ hi hL)
  case dA=>cases h;exact .dA
  case sp=>cases h
  case pa id t m L hL hm =>
   split at h<;>try (cases h;done)
   rename_i i hi;cases h
   exact .pa i t m L (hσ _ _ _ hi hL) hm
  case iN t xs b o us h1 h2=>cases h;exact .iN t xs b o us h1 h2
def gS (σ : List Nat) : aj → Option aj
 |[]=>some []
 |(j,b)::r=>match qb σ j with
  |some i=>match Dp σ b with
   |some b'=>match gS σ r with
    |some r'=>some ((i,b')::r')
    |none=>none
   |none=>none
  |none=>none
theorem uB {σ : List Nat} (hinj : ∀ (a b i : Nat), σ[a]? = some i → σ[b]? = some i → a = b) : ∀ {bl bG : aj}, gS σ bl = some bG → ∀ {i : Nat} {B : js}, aq i bG = some B → ∃ j B0, σ[j]? = some i ∧ aq j bl = some B0 ∧ Dp σ B0 = some B
 |[],bG,h,i,B,hb=>by cases h;simp [aq] at hb
 |(j,b)::r,bG,h,i,B,hb=>by
  simp only [gS] at h
  split at h<;>try (cases h;done)
  rename_i i' hi
  split at h<;>try (cases h;done)
  rename_i b' hb'
  split at h<;>cases h
  rename_i r' hr
  rw [jF] at hi
  rw [aS] at hb
  split at hb
  ·rename_i e; subst e; cases hb
   exact ⟨j,b,hi,by rw [aS,if_pos rfl],hb'⟩
  ·rename_i hne
   obtain ⟨j2,B0,h1,h2,h3⟩:=uB hinj hr hb
   refine ⟨j2,B0,h1,?_,h3⟩
   rw [aS,if_neg]
   ·exact h2
   ·intro e;subst e;rw [hi] at h1;cases h1;exact hne rfl
def lK : List Nat → aj → aj
 |[],bl=>bl
 |i::r,bl=>lK r (bH i bl)
theorem mz : ∀ {l : List Nat} {bl : aj} {id : Nat}, aq id (lK l bl) = if id ∈ l then none else aq id bl
 |[],bl,id=>by simp [lK]
 |i::r,bl,id=>by
  simp only [lK]
  rw [mz,bf]
  by_cases h1:id∈r
  ·simp [h1]
  ·by_cases h2 : id = i
   ·simp [h1,h2]
   ·simp [h1,h2]
theorem fW : ∀ {a b : aj} {id : Nat}, aq id (a ++ b) = match aq id a with | some B => some B | none => aq id b
 |[],b,id=>by simp [aq]
 |(s,x)::r,b,id=>by
  rw [List.cons_append,aS,aS]
  split
  ·rfl
  ·exact fW
section
variable {P:Program}
def sig (π:List Nat) (nx n:Nat):List Nat:=π++(List.range' π.length (n - π.length)).map (nx + ·)
theorem uC {f : Nat} {KL vs : List V} {mh bl : aj} {nx : Nat} {π : List Nat} {Q0 : V → aK → Prop} {Q : V → Nat → aj → Prop} (h : eI P f KL ⟨π.length, mh⟩ Q0)
  (hargs:sX π KL vs) (tn:∀p∈mh,Kv π nx bl p.1 p.2) (uD:∀p∈mh,∀st j d env ps as bd N,p.2 ≠ .loop st j d env ps as bd N) (JC:π.Nodup)
  {Y:Ctx} {ι:aA} {μ:Mu} {w:World} {as:Array Value} (hI:Inv P Y ι μ ⟨nx,bl⟩ w) (hl:aG ι μ vs as.toList) {F:Nat->List Nat} {G:Nat->Nat}
  (hQ:∀r n bG,Q0 r ⟨n,bG⟩->∃r' pG,iZ (F n) 8 r=some r'/\gS (F n) bG=some pG/\nx<=G n/\(∀i∈π,i<G n) /\
   (∀(j i:Nat),(F n)[j]?=some i->(j<π.length/\π[j]?=some i)\/(π.length<=j/\μ i=none/\(aq i bl=none\/aq i pG≠none)/\i∉π/\i<G n)) /\
   (∀(a b i:Nat),(F n)[a]?=some i->(F n)[b]?=some i->a=b)/\Q r' n (pG++lK π bl)) :
  CallsIn Fence.wide 0 P f as w fun e w'=>∃v ι' μ' r' n bG,e = .returned v/\ι.le ι'/\μ.le μ'/\(∀i,i∉F n->μ' i=μ i)/\Inv P Y ι' μ' ⟨G n,bG⟩ w'/\Rel ι' μ' r' v/\Q r' n bG:=by
 let μ1:Mu:=μ.jq π
 have X9:∀j i,π[j]?=some i->μ1 j=μ i:=fun j i e=>by simp only [μ1,Mu.jq];rw [e];rfl
 let X:Nat->Prop:=fun b=>∃p∈mh,∃L,μ1 p.1=some L/\L.b=b
 let Y1:Ctx:=⟨w,ι,μ1,none,X,[]⟩
 -- a lent block is one of the caller's
 have src:∀p∈mh,∀L,μ1 p.1=some L->∃i C,π[p.1]?=some i/\μ i=some L/\aq i bl=some C:=fun p hp L hL=>by
  obtain ⟨i,e1,hb⟩:=tn p hp
  rw [X9 _ _ e1] at hL
  refine ⟨i,?_⟩
  have:∃C,aq i bl=some C:=by
   cases hB:p.2 with
   |cells cs fz=>rw [hB] at hb;obtain ⟨ds,e2,_⟩:=hb;exact ⟨_,e2⟩
   |arr t xs fz =>
    rw [hB] at hb
    rcases hb with e2|⟨_,hge⟩
    ·exact ⟨_,e2⟩
    ·rw [hI.nx i hge] at hL;cases hL
   |loop st j d env ps as bd N=>exact absurd hB (uD p hp _ _ _ _ _ _ _ _)
   |gi=>rw [hB] at hb;exact ⟨_,hb⟩
   |map kt kg vt vg es=>rw [hB] at hb;exact ⟨_,hb⟩
   |jo t xs k p v=>rw [hB] at hb;obtain ⟨u,e2,_⟩:=hb;exact ⟨_,e2⟩
  obtain ⟨C,hC⟩:=this
  exact ⟨C,e1,hL,hC⟩
 have Hy:∀b,X b->Y.own b:=fun b ⟨p,hp,L,hL,e⟩=>by
  obtain ⟨i,C,_,h2,h3⟩:=src p hp L hL
  subst e;exact ((hI.live i C h3).loc h2).1
 have hown:∀b,Y1.own b->Y.own b:=fun b hb=>by
  rcases hb with hb|hb
  ·exact .inl (Nat.le_trans hI.below.size hb)
  ·exact Hy b hb
 have hmem:∀{id:Nat} {B:js},aq id mh=some B->(id,B)∈mh:=fun h=>dx h
 have ON:Inv P Y1 ι μ1 ⟨π.length,mh⟩ w:=by
  refine ⟨E5.refl _ _,aA.le_refl _,fun _ _ _ _=>rfl,hI.rd,Mu.le_refl _,fun id hid=>?_,fun id B hB=>?_,fun id id' B B' L L' hb hb' hm hm' e=>?_,fun id B hB=>?_,hI.jL⟩
  ·have : π[id]? = none := List.getElem?_eq_none hid
   simp only [μ1,Mu.jq];rw [this];rfl
  ·obtain ⟨i, e1, hb⟩ := tn _ (hmem hB)
   have iW:=X9 id i e1
   cases B with
   |cells cs fz =>
    obtain ⟨ds,e2,ah⟩:=hb
    obtain ⟨L,vs,hM,TQ⟩:=hI.live i _ e2
    exact ⟨L,vs,⟨by rw [iW];exact hM.mu,.inr ⟨_,hmem hB,L,by rw [iW];exact hM.mu,rfl⟩,hM.row,hM.fits,hM.one,hM.zW,hM.n4⟩,aG.jq ah.1 (fun i v u hv hu=>fun {x} hr=>(ah.2 i v u hv hu).rel hr) TQ⟩
   |arr t xs fz =>
    rcases hb with e2|⟨rfl,hge⟩
    ·rcases hI.live i _ e2 with ⟨e, hn⟩ | ⟨L, vs, hM, hc, hl⟩
     ·exact .inl ⟨e,by rw [iW];exact hn⟩
     ·exact .inr ⟨L,vs,⟨by rw [iW];exact hM.mu,.inr ⟨_,hmem hB,L,by rw [iW];exact hM.mu,rfl⟩,hM.row,hM.fits,hM.one,hM.zW,hM.n4⟩,hc,hl⟩
    ·exact .inl ⟨rfl,by rw [iW];exact hI.nx i hge⟩
   |jo t xs k p v =>
    obtain ⟨u,e2,ah⟩:=hb
    obtain ⟨L,us,vs,c,hM,hc,hl,q1,q2,q3,q4⟩:=hI.live i _ e2
    exact ⟨L,us,vs,c,⟨by rw [iW];exact hM.mu,.inr ⟨_,hmem hB,L,by rw [iW];exact hM.mu,rfl⟩,hM.row,hM.fits,hM.one,hM.zW,hM.n4⟩,hc,hl,q1,q2,q3,ah.rel q4⟩
   |loop st j d env ps as bd N=>exact absurd rfl (uD _ (hmem hB) st j d env ps as bd N)
   |gi =>
    obtain ⟨L,q1,q2,q3⟩:=hI.live i _ hb
    exact ⟨L,by rw [iW];exact q1,.inr ⟨_,hmem hB,L,by rw [iW];exact q1,rfl⟩,q3⟩
   |map kt kg vt vg es =>
    obtain ⟨L,ms,clock,qJ,q1,q2,q3⟩:=hI.live i _ hb
    exact ⟨L,ms,clock,qJ,by rw [iW];exact q1,.inr ⟨_,hmem hB,L,by rw [iW];exact q1,rfl⟩,q3⟩
  ·obtain ⟨i, C, e1, e2, e3⟩ := src _ (hmem hb) L hm
   obtain ⟨i',C',Dg,Sx,Ti⟩:=src _ (hmem hb') L' hm'
   have:=hI.inj i i' C C' L L' e3 Ti e2 Sx e
   subst this
   exact (List.getElem?_inj (List.getElem?_eq_some_iff.1 e1).1 JC).1 (e1.trans Dg.symm)
  ·obtain ⟨i, e1, _⟩ := tn _ (hmem hB)
   exact (List.getElem?_eq_some_iff.1 e1).1
 have hl1:aG ι μ1 KL as.toList:=aG.jq hargs.1 (fun i v u hv hu=>fun {x} hr=>(hargs.2 i v u hv hu).rel hr) hl
 refine (h.2 Y1 ι μ1 w as ON hl1).mono ?_
 rintro e w' ⟨v,ι',KM,r,⟨n,bG⟩,rfl,hi,jM,lV,hr,hq⟩
 obtain ⟨r',pG,hr',AA,hn,hlt,Cc,hinj,Kj⟩:=hQ _ _ _ hq
 generalize hs:F n=σ at *
 classical
 let μ':Mu:=fun i=>match μ i with
  |some L=>some L
  |none=>if hx:∃j L,σ[j]?=some i/\KM j=some L then some hx.choose_spec.choose else none
 have hle:μ.le μ':=fun i L hL=>by simp only [μ'];rw [hL]
 have hnew:∀i,μ i=none->∀j L,σ[j]?=some i->KM j=some L->μ' i=some L:=fun i hi j L hj hL=>by
  have hx:∃j L,σ[j]?=some i/\KM j=some L:=⟨j,L,hj,hL⟩
  simp only [μ'];rw [hi];simp only;rw [dif_pos hx]
  obtain ⟨q1,q2⟩:=hx.choose_spec.choose_spec
  have key:∀j' L',KM j'=some L'->j'=j->some L'=some L:=fun j' L' h1 h2=>by subst h2;rw [<-h1,hL]
  exact key _ _ q2 (hinj _ _ _ q1 hj)
 have hσ:∀j i L,σ[j]?=some i->KM j=some L->μ' i=some L:=fun j i L hj hL=>by
  cases hμ:μ i with
  |none=>exact hnew i hμ j L hj hL
  |some L0 =>
   rcases Cc _ _ hj with ⟨h1,h2⟩|⟨h1,h2,h3⟩
   ·have e : KM j = some L0 := jM j L0 (by rw [X9 j i h2]; exact hμ)
    rw [hL] at e;cases e
    exact hle i _ hμ
   ·rw [h2] at hμ;cases hμ
 have TY:∀j i,σ[j]?=some i->∀L,μ' i=some L->KM j=some L:=fun j i hj L hL=>by
  cases hμ:μ i with
  |some L0 =>
   rw [hle i _ hμ] at hL;cases hL
   rcases Cc _ _ hj with ⟨h1,h2⟩|⟨h1,h2,h3⟩
   ·exact jM j _ (by rw [X9 j i h2];exact hμ)
   ·rw [h2] at hμ;cases hμ
  |none =>
   simp only [μ'] at hL;rw [hμ] at hL;simp only at hL
   split at hL
   ·rename_i hx
    cases hL
    obtain ⟨q1,q2⟩:=hx.choose_spec.choose_spec
    have key:∀j' L',KM j'=some L'->j'=j->KM j=some L':=fun j' L' h1 h2=>by subst h2;exact h1
    exact key _ _ q2 (hinj _ _ _ q1 hj)
   ·cases hL
 have KN:∀{id:Nat} {B:js} {L:Loc},aq id bl=some B->id∉π->μ id=some L->L.b<w.heap.size/\¬X L.b:=fun {id B L} hB hid hL=>by
  refine ⟨((hI.live id B hB).loc hL).2,?_⟩
  rintro ⟨p,hp,L2,hL2,e⟩
  obtain ⟨i,C,e1,e2,e3⟩:=src p hp L2 hL2
  have:=hI.inj i id C B L2 L e3 hB e2 hL e
  subst this
  exact hid (List.mem_of_getElem? e1)
 have hkeep:∀{id:Nat} {B:js},aq id bl=some B/\aq id pG=none->id∉π->μ' id=μ id:=fun {id B} ⟨hB,hBn⟩ hid=>by
  cases hμ:μ id with
  |some L=>exact hle id _ hμ
  |none =>
   simp only [μ'];rw [hμ];simp only
   rw [dif_neg]
   rintro ⟨j,L,hj,_⟩
   rcases Cc _ _ hj with ⟨h1,h2⟩|⟨h1,h2,h3,h4⟩
   ·exact hid (List.mem_of_getElem? h2)
   ·rcases h3 with h3 | h3
    ·rw [hB] at h3;cases h3
    ·exact h3 hBn
 have fA:∀{id:Nat} {B:js},aq id (pG++lK π bl)=some B->(∃j B0,σ[j]?=some id/\aq j bG=some B0/\Dp σ B0=some B)\/((aq id bl=some B/\aq id pG=none)/\id∉π):=fun {id B} hB=>by
  rw [fW] at hB
  split at hB
  ·rename_i B2 iF;cases hB;exact .inl (uB hinj AA iF)
  ·rename_i Tf
   rw [mz] at hB
   split at hB
   ·cases hB
   ·rename_i hk;exact .inr ⟨⟨hB,Tf⟩,hk⟩
 have gr:E5 Y.x Y.w0 w':=by
  have b2:=lV.below
  refine ⟨b2.os.trans hI.below.os,b2.tape.trans hI.below.tape,b2.output.trans hI.below.output,Nat.le_trans hI.below.size b2.size,fun k hk hx=>?_,Nat.le_trans hI.below.dr b2.dr,fun k hk=>(hI.below.maps k hk).trans (b2.maps k (Nat.lt_of_lt_of_le hk hI.below.size))⟩
  rw [b2.block k (Nat.lt_of_lt_of_le hk hI.below.size) (fun hX=>by
   rcases Hy k hX with h|h
   ·omega
   ·exact hx h)]
  exact hI.below.block k hk hx
 have hι:∀b o,b<w.heap.size->¬X b->ι' b o=ι b o:=fun b o hb hx=>lV.iB b o hb hx
 refine ⟨v,ι',μ',r',n,_,rfl,hi,hle,fun i hi=>?_,?_,si hσ hr' hr,Kj⟩
 ·rw [hs] at hi
  cases hμ:μ i with
  |some L=>exact hle i L hμ
  |none =>
   simp only [μ'];rw [hμ];simp only
   rw [dif_neg]
   rintro ⟨j,L,hj,_⟩
   exact hi (List.mem_of_getElem? hj)
 refine ⟨gr,aA.le_trans hI.i0 hi,fun b o hb hx=>?_,lV.rd,Mu.le_trans hI.m0 hle,fun id hid=>?_,fun id B hB=>?_,fun id id' B B' L L' hb hb' hm hm' e=>?_,fun id B hB=>?_,hI.gl⟩
 ·rw [hι b o (Nat.lt_of_lt_of_le hb hI.below.size) (fun hX=>by
   rcases Hy b hX with h|h
   ·omega
   ·exact hx h)]
  exact hI.iB b o hb hx
 ·simp only at hid
  have h0:μ id=none:=hI.nx id (by simp only;omega)
  simp only [μ'];rw [h0];simp only
  rw [dif_neg]
  rintro ⟨j,L,hj,_⟩
  rcases Cc _ _ hj with ⟨h1,h2⟩|⟨h1,h2,h3,h4,h5⟩
  ·have:=hlt id (List.mem_of_getElem? h2);omega
  ·omega
 ·rcases fA hB with ⟨j, B0, e1, e2, e3⟩ | ⟨SN, hk⟩
  ·have iq := lV.live j B0 e2
   cases B0 with
   |cells cs fz =>
    simp only [Dp] at e3
    split at e3<;>cases e3
    rename_i ds hds
    obtain ⟨L,us,hM,TQ⟩:=iq
    exact ⟨L,us,⟨hσ _ _ _ e1 hM.mu,hown _ hM.old,hM.row,hM.fits,hM.one,hM.zW,hM.n4⟩,fT (fun _ _ _ h hr=>si hσ h hr) hds TQ⟩
   |arr t xs fz =>
    cases e3
    rcases iq with ⟨e,hn0⟩|⟨L,us,hM,hc,hl⟩
    ·refine .inl ⟨e, ?_⟩
     cases hμ':μ' id with
     |none=>rfl
     |some L=>rw [TY j id e1 L hμ'] at hn0;cases hn0
    ·exact .inr ⟨L,us,⟨hσ _ _ _ e1 hM.mu,hown _ hM.old,hM.row,hM.fits,hM.one,hM.zW,hM.n4⟩,hc,hl⟩
   |loop st jj d env ps as bd N=>cases e3
   |jo t xs k p v=>cases e3
   |gi =>
    cases e3
    obtain ⟨L,q1,q2,q3⟩:=iq
    exact ⟨L,hσ _ _ _ e1 q1,hown _ q2,q3⟩
   |map kt kg vt vg es =>
    cases e3
    obtain ⟨L,ms,clock,qJ,q1,q2,q3,q4,q5⟩:=iq
    exact ⟨L,ms,clock,qJ,hσ _ _ _ e1 q1,hown _ q2,q3,q4,q5⟩
  ·have iq := hI.live id B SN.1
   refine iq.mono hi hle (fun hn0=>(hkeep SN hk).trans hn0) (fun L hL=>?_) (fun L hL ho o=>?_)
   ·obtain ⟨h1, h2⟩ := KN SN.1 hk hL
    exact lV.below.block _ h1 h2
   ·obtain ⟨h1, h2⟩ := KN SN.1 hk hL
    rw [hι _ _ h1 h2];exact ho o
 ·rcases fA hb with ⟨j, B0, e1, e2, e3⟩ | ⟨Ya, Jw⟩ <;> rcases fA hb' with ⟨j', B0', Dg, Sx, Ti⟩ | ⟨Yb, hk2⟩
  ·have := lV.inj j j' B0 B0' L L' e2 Sx (TY _ _ e1 _ hm) (TY _ _ Dg _ hm') e
   subst this;rw [e1] at Dg;cases Dg;rfl
  ·rw [hkeep Yb hk2] at hm'
   obtain ⟨h1,h2⟩:=KN Yb.1 hk2 hm'
   rcases ((lV.live j B0 e2).loc (TY _ _ e1 _ hm)).1 with h3|h3
   ·simp only [Y1] at h3;omega
   ·rw [e] at h3;exact absurd h3 h2
  ·rw [hkeep Ya Jw] at hm
   obtain ⟨h1,h2⟩:=KN Ya.1 Jw hm
   rcases ((lV.live j' B0' Sx).loc (TY _ _ Dg _ hm')).1 with h3|h3
   ·simp only [Y1] at h3;omega
   ·rw [<-e] at h3;exact absurd h3 h2
  ·rw [hkeep Ya Jw] at hm
   rw [hkeep Yb hk2] at hm'
   exact hI.inj id id' B B' L L' Ya.1 Yb.1 hm hm' e
 ·rcases fA hB with ⟨j, B0, e1, e2, e3⟩ | ⟨SN, hk⟩
  ·rcases Cc _ _ e1 with ⟨h1, h2⟩ | ⟨h1, h2, h3, h4, h5⟩
   ·have:=hlt id (List.mem_of_getElem? h2);simp only;omega
   ·simp only;omega
  ·have:=hI.lt id B SN.1;simp only at this ⊢;omega
theorem yC {f : Nat} {KL vs : List V} {mh bl : aj} {nx : Nat} {π : List Nat} {Q0 Q : V → aK → Prop} (h : eI P f KL ⟨π.length, mh⟩ Q0)
  (hargs:sX π KL vs) (tn:∀p∈mh,Kv π nx bl p.1 p.2) (uD:∀p∈mh,∀st j d env ps as bd N,p.2 ≠ .loop st j d env ps as bd N) (JC:π.Nodup) (hlt:∀i∈π,i<nx+π.length)
  (hQ:∀r n bG,Q0 r ⟨n,bG⟩->π.length<=n/\∃r' pG,iZ (sig π nx n) 8 r=some r'/\gS (sig π nx n) bG=some pG/\Q r' ⟨nx+n,pG++lK π bl⟩):eI P f vs ⟨nx,bl⟩ Q:=by
 refine ⟨h.1,fun Y ι μ w as hI hl=>?_⟩
 refine (uC (Q:=fun r n bG=>Q r ⟨nx+n,bG⟩) h hargs tn uD JC hI hl (F:=sig π nx) (G:=fun n=>nx+n) fun r n bG hq=>?_).mono ?_
 ·obtain ⟨hn, r', pG, q1, q2, q3⟩ := hQ r n bG hq
  have Cc:∀j i,(sig π nx n)[j]?=some i->(j<π.length/\π[j]?=some i)\/(π.length<=j/\j<n/\i=nx+j):=fun j i e=>by
   unfold sig at e
   rw [List.getElem?_append] at e
   split at e
   ·rename_i hj;exact .inl ⟨hj,e⟩
   ·rename_i hj
    simp only [List.getElem?_map] at e
    cases hh:(List.range' π.length (n - π.length))[j - π.length]? with
    |none=>rw [hh] at e;cases e
    |some z =>
     rw [hh] at e
     simp only [Option.map_some,Option.some.injEq] at e
     obtain ⟨q1,q2⟩:=List.getElem?_eq_some_iff.1 hh
     simp at q1 q2
     exact .inr ⟨by omega,by omega,by omega⟩
  refine ⟨r',pG,q1,q2,by omega,fun i hi=>by have:=hlt i hi;omega,fun j i e=>?_,fun a b i ha hb=>?_,q3⟩
  ·rcases Cc j i e with h1 | ⟨h1, h2, h3⟩
   ·exact .inl h1
   ·refine .inr ⟨h1, hI.nx i (by simp only; omega), .inl ?_, fun hi => by have := hlt i hi; omega, by omega⟩
    cases hb:aq i bl with
    |none=>rfl
    |some B=>have:=hI.lt i B hb;simp only at this;omega
  ·rcases Cc _ _ ha with ⟨h1, h2⟩ | ⟨h1, h2, h3⟩ <;> rcases Cc _ _ hb with ⟨h4, h5⟩ | ⟨h4, h5, h6⟩
   ·exact (List.getElem?_inj h1 JC).1 (h2.trans h5.symm)
   ·have:=hlt i (List.mem_of_getElem? h2);omega
   ·have:=hlt i (List.mem_of_getElem? h5);omega
   ·omega
 ·rintro e w' ⟨v, ι', μ', r', n, bG, he, hi, hm, -, Jy, hr, hq⟩
  exact ⟨v,ι',μ',r',⟨nx+n,bG⟩,he,hi,hm,Jy,hr,hq⟩
end
end Go.AM
end
