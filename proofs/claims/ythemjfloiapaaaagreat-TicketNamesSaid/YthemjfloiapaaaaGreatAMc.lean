/- A region whose order is drawn: whatever the order, it ends as the canonical one. Calls in the caller's heap, loops unrolled, loops over functions. A call of yield: a round of the loop. The small machine, run. The way in: what an argument reads as is data of the machine. States that stand for as much, in general: names may change, nil slices may stand for empty lists, blocks that nobody reads are forgotten. The small machine's code as a function: tests, needs and calls stay open, all else is reckoned. Patterns: what stands in slots and blocks, with places for data; read out of a state, and laid again. Code that is the same, as a test. What is read by a pattern stands for what was there. Loops and functions, as functions of their data. -/
import Derived.Test.YthemjfloiapaaaaGreatAMb
import Derived.OrdersIn
import Derived.ProofKit
import Derived.OpenShut
import Derived.Maps.RangeRun
set_option linter.unusedSectionVars false
set_option linter.unusedVariables false
set_option linter.unusedSimpArgs false
section
namespace Go.AM
section
variable {P:Program} {N:Nat} {Y:Ctx} {ι ι':ai} {μ μ':Mu} {H:aG} {w w':World} {out:Option Nat} {base:Nat} {ops:Array Oper}
def lQ (acc:Array Nat) (o:Oper):Array Nat:=acc.push (o.after.foldl (fun s e=>if Region.binds .any e then s ||| 2 ^ e.on ||| acc.getD e.on 0 else s) 0)
theorem zj:Region.before ops=ops.toList.foldl lQ #[]:=by
 unfold Region.before
 rw [←Array.foldl_toList];rfl
theorem wu {acc:Array Nat} {j:Nat}:∀{l:List Edge} {s:Nat},(l.foldl (fun s e=>if Region.binds .any e then s ||| 2 ^ e.on ||| acc.getD e.on 0 else s) s).testBit j=true →
  s.testBit j=true∨∃e∈l,Region.binds .any e=true∧(j=e.on∨(acc.getD e.on 0).testBit j=true)
 |[],s,h=>.inl h
 |e::r,s,h=>by
  simp only [List.foldl_cons] at h
  rcases wu h with h1|⟨e',he',h2⟩
  ·split at h1
   ·rename_i hb
    simp only [Nat.testBit_or,Bool.or_eq_true,Nat.testBit_two_pow,decide_eq_true_eq] at h1
    rcases h1 with (h1|h1)|h1
    ·exact .inl h1
    ·exact .inr ⟨e,List.mem_cons_self ..,hb,.inl h1.symm⟩
    ·exact .inr ⟨e,List.mem_cons_self ..,hb,.inr h1⟩
   ·exact .inl h1
  ·exact .inr ⟨e',List.mem_cons_of_mem _ he',h2⟩
theorem wv : ∀ (l : List Oper) (acc : Array Nat), (l.foldl lQ acc).size = acc.size + l.length
 |[],acc=>by simp
 |o::r,acc=>by simp only [List.foldl_cons,wv r,lQ,Array.size_push,List.length_cons];omega
theorem wA {j:Nat}:∀(l:List Oper) (acc:Array Nat) (pre:List Oper),acc.size=pre.length →
  (∀i,(acc.getD i 0).testBit j=true→∃o,pre[i]?=some o∧∃e∈o.after,Region.binds .any e=true∧(j=e.on∨(acc.getD e.on 0).testBit j=true)) →
  ∀i,((l.foldl lQ acc).getD i 0).testBit j=true→∃o,(pre++l)[i]?=some o∧∃e∈o.after,Region.binds .any e=true∧(j=e.on∨((l.foldl lQ acc).getD e.on 0).testBit j=true)
 |[],acc,pre,hs,h,i,hi=>by simpa using h i hi
 |o::r,acc,pre,hs,h,i,hi=>by
  have:=wA r (lQ acc o) (pre++[o]) (by simp [lQ,hs]) (fun i hi=>?_) i hi
  ·simpa using this
  ·have keep:∀k,(acc.getD k 0).testBit j=true→((lQ acc o).getD k 0).testBit j=true:=fun k hk=>by
    have hlt:k<acc.size:=by
     rcases Nat.lt_or_ge k acc.size with h|h
     ·exact h
     ·simp [Array.getD,Nat.not_lt.2 h] at hk
    simpa [lQ,Array.getD,hlt,Array.getElem_push,Nat.lt_succ_of_lt hlt] using (by simpa [Array.getD,hlt] using hk:acc[k].testBit j=true)
   by_cases hlt:i<acc.size
   ·have hi':(acc.getD i 0).testBit j=true:=by
     simpa [lQ,Array.getD,hlt,Array.getElem_push,Nat.lt_succ_of_lt hlt] using hi
    obtain ⟨o',ho',e,he,hb,hj⟩:=h i hi'
    exact ⟨o',by rw [List.getElem?_append_left (List.getElem?_eq_some_iff.1 ho').1];exact ho',e,he,hb,hj.imp id (keep _)⟩
   ·by_cases heq : i = acc.size
    ·subst heq
     have hi':(o.after.foldl (fun s e=>if Region.binds .any e then s ||| 2 ^ e.on ||| acc.getD e.on 0 else s) 0).testBit j=true:=by
      simpa [lQ,Array.getD,Array.getElem_push] using hi
     rw [←Array.foldl_toList] at hi'
     rcases wu hi' with h1|⟨e,he,hb,hj⟩
     ·simp at h1
     ·exact ⟨o,by rw [hs];simp,e,by simpa using he,hb,hj.imp id (keep _)⟩
    ·have : ¬ i < (lQ acc o).size := by simp [lQ]; omega
     simp [Array.getD,this] at hi
theorem nP {i j:Nat} (h:((Region.before ops).getD i 0).testBit j=true) :
  ∃o,ops[i]?=some o∧∃e∈o.after,Region.binds .any e=true∧(j=e.on∨((Region.before ops).getD e.on 0).testBit j=true):=by
 rw [zj] at h ⊢
 obtain ⟨o,ho,h⟩:=wA (j:=j) ops.toList #[] [] rfl (fun i hi=>by simp at hi) i h
 exact ⟨o,by simpa using ho,h⟩
theorem nQ:(Region.before ops).size=ops.size:=by rw [zj,wv];simp
theorem jJ {i j:Nat}:j∈(bD ops).getD i []↔j<ops.size∧((Region.before ops).getD i 0).testBit j=true:=by
 unfold bD
 simp only [List.getD,List.getElem?_map]
 by_cases hi:i<ops.size
 ·have h:(Region.before ops).toList[i]?=some ((Region.before ops).getD i 0):=by
   have:i<(Region.before ops).size:=by rw [nQ];exact hi
   simp [Array.getD,this]
  simp [h,List.mem_filter,List.mem_range]
 ·have h1 : (Region.before ops).toList[i]? = none := List.getElem?_eq_none (by simp [nQ]; omega)
  have h2:(Region.before ops).getD i 0=0:=by simp [Array.getD,nQ,hi]
  simp [h1,h2]
theorem fS : ∀ {os : List Oper} {is : List eA}, dK P N ops os = some is → is.length = os.length ∧ ∀ (k : Nat) o it, os[k]? = some o → is[k]? = some it → pq P N ops o = some it
 |[],is,h=>by cases h;exact ⟨rfl,fun k o it h=>by simp at h⟩
 |o::os,is,h=>by
  unfold dK at h
  split at h<;>try (cases h;done)
  rename_i it its hit LO
  cases h
  obtain ⟨h1,h2⟩:=fS LO
  refine ⟨by simp [h1],fun k o' it' ho hi=>?_⟩
  cases k with
  |zero=>simp at ho hi;subst ho;subst hi;exact hit
  |succ k=>exact h2 k o' it' (by simpa using ho) (by simpa using hi)
theorem Inv.sK (h:Inv P Y ι μ H w) {n:Nat} (hn:H.next≤n):Inv P Y ι μ ⟨n,H.bl⟩ w :=
 ⟨h.below,h.i0,h.iB,h.rd,h.m0,fun id hid=>h.nx id (Nat.le_trans hn hid),h.live,h.inj,fun id B hB=>Nat.lt_of_lt_of_le (h.lt id B hB) hn,h.gl⟩
theorem Inv.eqB (h:Inv P Y ι μ H w) {bl:ah} (he:Un bl H.bl):Inv P Y ι μ ⟨H.next,bl⟩ w :=
 ⟨h.below,h.i0,h.iB,h.rd,h.m0,h.nx,fun id B hB=>h.live id B (by rw [←he id];exact hB),fun id id' B B' L L' hb hb'=>h.inj id id' B B' L L' (by rw [←he id];exact hb) (by rw [←he id'];exact hb'),
  fun id B hB=>h.lt id B (by rw [←he id];exact hB),h.gl⟩
theorem dz.LV {B:Nat→Prop} {id:Nat} {b:kF} (h:dz P B ι μ id w b) (hw:w'.heap=w.heap):dz P B ι μ id w' b:=by
 cases b with
 |cells cs fz=>obtain ⟨L,vs,hM,h⟩:=h;exact ⟨L,vs,⟨hM.mu,hM.old,by rw [hw];exact hM.row,hM.fits,hM.one,hM.Co,hM.pz⟩,h⟩
 |arr t xs fz =>
  rcases h with h|⟨L,vs,hM,h⟩
  ·exact .inl h
  ·exact .inr ⟨L,vs,⟨hM.mu,hM.old,by rw [hw];exact hM.row,hM.fits,hM.one,hM.Co,hM.pz⟩,h⟩
 |loop st j d env ps as bd N=>unfold dz at h ⊢;rw [hw];exact h
 |gQ=>unfold dz at h ⊢;rw [hw];exact h
 |map kt kg vt vg es=>unfold dz at h ⊢;rw [hw];exact h
 |l8 t xs i p v =>
  obtain ⟨L,us,vs,c,hM,h⟩:=h
  exact ⟨L,us,vs,c,⟨hM.mu,hM.old,by rw [hw];exact hM.row,hM.fits,hM.one,hM.Co,hM.pz⟩,h⟩
theorem Inv.drawn (h:Inv P Y ι μ H w):Inv P Y ι μ H { w with drawn:=w.drawn+1 } :=
 ⟨⟨h.below.os,h.below.tape,h.below.output,h.below.size,h.below.block,Nat.le_succ_of_le h.below.dr,h.below.maps⟩,h.i0,h.iB,h.rd,h.m0,h.nx,fun id B hB=>(h.live id B hB).LV rfl,h.inj,h.lt,h.gl⟩
theorem Inv.called (hI:Inv P Y ι μ H w) (hi:ι.le ι') (hib:∀b o,b<w.heap.size→ι' b o=ι b o) (hrd:cV ι' w') (jy:Dw w w'):Inv P Y ι' μ H w':=by
 have hsz:=hI.below.size
 refine ⟨hI.below.then jy,ai.le_trans hI.i0 hi,fun b o hb hx=>by rw [hib b o (by omega)];exact hI.iB b o hb hx,hrd,hI.m0,hI.nx,fun id B hB=>?_,hI.inj,hI.lt,hI.gl⟩
 have kR:=hI.live id B hB
 refine kR.mono hi (Mu.le_refl _) (fun h=>h) (fun L hL=>jy.b.block _ (kR.loc hL).2) (fun L hL ho o=>?_)
 rw [hib _ _ (kR.loc hL).2];exact ho o
theorem cV.kept (h:cV ι w) (jy:Dw w w'):cV ι w':=fun b o x hx=>by
 have h1:=h b o x hx
 have hlt:b<w.heap.size:=by
  rcases Nat.lt_or_ge b w.heap.size with h'|h'
  ·exact h'
  ·simp [World.cell?,Array.getElem?_eq_none h'] at h1
 unfold World.cell? at h1 ⊢
 simp only at h1 ⊢
 rw [jy.b.block b hlt];exact h1
theorem zk {v:V} {x:Value} (h:GS v=true) (hr:Rel ι μ v x):Rel ι' μ' v x:=by
 cases hr<;>simp only [GS] at h<;>try (cases h;done)
 case tf=>exact .tf _
 case bool=>exact .bool _
 case int=>exact .int _ _
 case str=>exact .str _
theorem Jw {v:V} {x:Value} (h:Ls v=true) (hr:Rel ι μ v x):Rel ι' μ' v x:=by
 cases hr<;>simp only [Ls] at h<;>try (cases h;done)
 case tf=>exact .tf _
 case bool=>exact .bool _
 case int=>exact .int _ _
 case str=>exact .str _
 case agg cs xs h1 h2 h3=>exact .agg cs xs h1 (fun i v x hv hx=>zk (List.all_eq_true.1 h _ (List.mem_of_getElem? hv)) (h2 i v x hv hx)) h3
theorem CV {v:V} {x:Value} (h:Cm v=true) (hr:Rel ι μ v x):Rel ι' μ' v x:=by
 cases hr<;>simp only [Cm] at h<;>try (cases h;done)
 case tf=>exact .tf _
 case bool=>exact .bool _
 case int=>exact .int _ _
 case str=>exact .str _
 case agg cs xs h1 h2 h3=>exact .agg cs xs h1 (fun i v x hv hx=>zk (List.all_eq_true.1 h _ (List.mem_of_getElem? hv)) (h2 i v x hv hx)) h3
 case cw cs xs h1 h2=>exact .cw cs xs h1 fun i v x hv hx=>Jw (List.all_eq_true.1 h _ (List.mem_of_getElem? hv)) (h2 i v x hv hx)
theorem AO {g : V → Option V} : ∀ {vs : List V}, (∀ v ∈ vs, g v = some v) → cS g vs = some vs
 |[],_=>rfl
 |v::r,h=>by simp only [cS,h v (List.mem_cons_self ..),AO (vs:=r) (fun v hv=>h v (List.mem_cons_of_mem _ hv))]
theorem wB {ar : Ar} {bl : ah} : ∀ {n : Nat} {v : V}, dy n v = true → fin ar bl n v = some v
 |0,v,h=>by cases h
 |n+1,v,h=>by
  have all:∀{cs:List V},cs.all (dy n)=true→cS (fin ar bl n) cs=some cs:=fun h=>AO fun v hv=>wB (List.all_eq_true.1 h v hv)
  cases v<;>simp only [dy] at h<;>try (cases h;done)
  case eW cs=>simp only [fin,h,if_true]
  case fn f a b=>simp only [Bool.and_eq_true] at h;simp only [fin,all h.1,all h.2]
  case agg cs=>simp only [fin,all h]
  case cw cs=>simp only [fin,all h]
  case bT t v=>simp only [fin,wB h]
  all_goals rfl
theorem uQ {v0 v:V} {x:Value} (h:vOk v0 v) (hr:Rel ι μ v0 x):Rel ι μ v x:=by
 rcases h with rfl|⟨c,rfl,rfl⟩
 ·exact hr
 ·cases hr;exact .tf _
theorem sL {S:List (Nat×V)} {a:Act} (he:dV ι μ S a.tmps) {o:Oper} {g:Option (Nat×Bool)} (hg:Zv ops o.guard=some g) {c:Bool} (h:GU g S=some c):Region.wanted o (yielded ops a.tmps)=c:=by
 cases LN:o.guard with
 |none=>rw [LN] at hg;cases hg;cases h;simp [Region.wanted,LN]
 |some jb =>
  obtain ⟨j,b⟩:=jb
  rw [LN] at hg
  simp only [Zv] at hg
  split at hg<;>try (cases hg;done)
  rename_i oj hoj
  split at hg<;>try (cases hg;done)
  rename_i d hdj
  cases hg
  simp only [GU] at h
  split at h<;>try (cases h;done)
  rotate_left
  ·rename_i vs hc
   cases h
   simp only [Region.wanted,LN,tJ he hoj hdj hc]
   rfl
  rename_i c' hc
  simp only [Region.wanted,LN,vR he hoj hdj (.inl hc)]
  revert h
  cases c'<;>cases b<;>intro h<;>cases h<;>rfl
theorem Hv {b n : Nat} {t : TR} {env : List (Nat × V)} {bl : ah} {ms : List Nat} {a : Act} (hn : t.k < n) {o : Oper} (ho : ops[t.k]? = some o) (hit : pq P N ops o = some t.it)
  (LW:En (fh P N out base) b t env bl) (hR:ek P N Y ι μ ⟨env,⟨b+n,bl⟩,ms⟩ a w) (hfree:μ (b+t.k)=none) {Q:Exit→Act→World→Prop} {K:Act→World→Prop}
  (hK:∀ι' μ' a' w',ek P N Y ι' μ' ⟨t.LS env,⟨b+n,t.Ju bl⟩,ms⟩ a' w'→(∀id,id≠b+t.k→μ' id=μ id)→K a' w'):wpOpIn Y.F 0 P ops Q t.k K a w:=by
 obtain ⟨k,it,ac,rd⟩:=t
 simp only at hn ho hit hfree hK
 unfold pq at hit
 split at hit<;>try (cases hit;done)
 rename_i hd
 split at hit<;>try (cases hit;done)
 rename_i g hg
 have hgrd:it.VU=g∧it.dst=o.dst:=by
  split at hit<;>(split at hit<;>try (cases hit;done))<;>(cases hit;exact ⟨rfl,rfl⟩)
 unfold wpOpIn
 simp only [ho]
 unfold En at LW
 cases ac with
 |skip =>
  simp only at LW
  rw [hgrd.1] at LW
  rw [if_neg (by rw [sL hR.env hg LW.1];simp)]
  refine ⟨fun _ _=>trivial,hK ι μ _ _ ?_ fun _ _=>rfl⟩
  have:=hR.put hd (ai.le_refl _) (Mu.le_refl _) hR.inv Rel.und
  simpa [TR.LS,TR.Ju,hgrd.2,Ac.val,Ac.PJ,bg] using this
 |op v u =>
  split at hit
  ·split at hit <;> try (cases hit; done)
   cases hit;exact LW.elim
  ·split at hit <;> try (cases hit; done)
   cases hit;exact LW.elim
  ·rename_i op _ _
   split at hit<;>try (cases hit;done)
   rename_i i hi
   cases hit
   obtain ⟨He,ob,v0,ag,cI,hv,_⟩:=LW
   have hw:=sL hR.env hg He
   rw [if_pos hw]
   have hop:Lw P Y ι μ ⟨b+n,bl⟩ w (b+k) (execOp a.eval o) v0 u i.lays:=by
    rcases ag with ag|ag
    ·exact ze hR.inv hfree hR.env hi ag cI
    ·exact zf hR.inv hfree hR.env hi ag cI
   obtain ⟨ι',μ',x,w',hx,hi',hm,hne,hinv,Fc⟩:=hop
   refine ⟨fun _ _=>trivial,?_⟩
   rw [Oper.semAt_eq _ _ _ (lP hi)]
   have Hw:ff i.lays (b+n) (b+k)=b+n:=by unfold ff;cases i.lays<;>simp<;>omega
   have nt:ek P N Y ι' μ' ⟨AM.put o.dst v env,⟨b+n,bg u bl⟩,ms⟩ (a.put o.dst x) w':=by
    refine hR.put hd hi' hm ?_ (uQ hv Fc)
    have:=hinv;simp only [Hw] at this;exact this
   rcases hx with h|⟨h,rfl⟩<;>rw [h]<;>exact hK _ _ _ _ nt hne
 |call v u =>
  obtain ⟨c,args,tys,fo,as,hop,hf,ha,rfl⟩:∃(c:Callee) (args:Array Operand) (tys:Array TypeId) (fo:O) (as:List O),o.op = .call { callee:=c,args:=args,argTypes:=tys }∧mc P c=some fo∧vr args.toList=some as∧it = .call o.dst g fo as (iC P fo tys):=by
   split at hit
   ·rename_i f args tys hop
    split at hit<;>try (cases hit;done)
    rename_i fo as hf ha
    cases hit
    exact ⟨.value f,args,tys,fo,as,hop,hf,ha,rfl⟩
   ·rename_i r name args tys hop
    split at hit<;>try (cases hit;done)
    rename_i fo as hf ha
    cases hit
    exact ⟨.invoke r name,args,tys,fo,as,hop,hf,ha,rfl⟩
   ·split at hit <;> try (cases hit; done)
    cases hit;exact LW.elim
  obtain ⟨He,fid,fs,cs,vs',v0,oJ,hmo,hp,hs,hv,_⟩:=LW
  have hw:=sL hR.env hg He
  rw [if_pos hw]
  refine ⟨fun _ _=>trivial,?_⟩
  rw [Oper.semAt_eq _ _ _ (by rw [hop];simp)]
  have ra:=jP hR.env ha
  obtain ⟨bY,gI⟩:=hp
  obtain ⟨xs,ys,r1,r2,hrun⟩:=CO hop hf hR.env oJ bY
  rw [hrun]
  have rl:aH ι μ (fs++cA (iC P fo tys) (as.map (·.ev env))++cs) (xs++args.map a.eval++ys).toList:=by
   have:=(r1.append (lJ (ts:=iC P fo tys) ra)).append r2
   simpa using this
  refine ⟨fun h=>by simp [Ctx.F,Fence.wide] at h,?_⟩
  rcases Bool.eq_false_or_eq_true (Cm v0||(fs++cA (iC P fo tys) (as.map (·.ev env))++cs).all (dy 8)) with hb|hb
  rotate_left
  ·rw [hb] at hs
   obtain ⟨ι2,i1,i2,i3⟩:=uP hR.inv (AN hs)
   have hmo':cS (fin dU bl 8) (fs++cA (iC P fo tys) (as.map (·.ev env))++cs)=some vs':=(mE (fun v=>by unfold fh;exact wq.symm) _).trans hmo
   refine CallsIn.mono (F:=Y.F) (gI ι2 w _ i2.dc (fun b o x hx=>i2.rd b o x hx) (Qv i1 hmo' i3 rl)) ?_
   rintro e w' ⟨v',ι',rfl,hi,hib,hrd,jy,Fc⟩
   have hinv':Inv P Y ι' μ ⟨b+n,bg u bl⟩ w':=i2.called hi hib hrd jy
   exact hK _ _ _ _ (hR.put hd (ai.le_trans i1 hi) (Mu.le_refl _) hinv' (uQ hv (Fc.mono (ai.le_refl _) (fun _ _ h=>by cases h)))) fun _ _=>rfl
  rw [hb] at hs
  cases hs
  replace hs:=hb
  rw [Bool.or_eq_true] at hs
  rcases hs with hs|hs
  ·refine CallsIn.mono (F := Y.F) (gI (ι.all Y.own w) w _ (hR.inv.dc.mono (ai.AH hR.inv.rd)) (fun b o x hx => ?_) (iN (fun v r x h hr => uN (fun _ _ _ => rfl) hR.inv h hr) hmo rl)) ?_
   ·exact ai.Fg hR.inv.rd hx
   ·rintro e w' ⟨v', ι', rfl, _, _, _, jy, Fc⟩
    have hinv':Inv P Y ι μ ⟨b+n,bl⟩ w':=hR.inv.called (ai.le_refl _) (fun _ _ _=>rfl) (cV.kept (fun b o x hx=>hR.inv.rd b o x hx) jy) jy
    exact hK _ _ _ _ (hR.put hd (ai.le_refl _) (Mu.le_refl _) hinv' (uQ hv (CV hs Fc))) fun _ _=>rfl
  ·have hid:cS (fin (fh P N out base) bl 8) (fs++cA (iC P fo tys) (as.map (·.ev env))++cs)=some (fs++cA (iC P fo tys) (as.map (·.ev env))++cs) :=
    AO fun v hv=>wB (List.all_eq_true.1 hs v hv)
   rw [hid] at hmo;cases hmo
   have rl':aH ι (fun _=>none) (fs++cA (iC P fo tys) (as.map (·.ev env))++cs) (xs++args.map a.eval++ys).toList :=
    ⟨rl.1,fun i v x hv hx=>di (List.all_eq_true.1 hs _ (List.mem_of_getElem? hv)) (rl.2 i v x hv hx)⟩
   refine CallsIn.mono (F:=Y.F) (gI ι w _ hR.inv.dc (fun b o x hx=>hR.inv.rd b o x hx) rl') ?_
   rintro e w' ⟨v',ι',rfl,hi,hib,hrd,jy,Fc⟩
   have hinv':Inv P Y ι' μ ⟨b+n,bl⟩ w':=hR.inv.called hi hib hrd jy
   exact hK _ _ _ _ (hR.put hd hi (Mu.le_refl _) hinv' (uQ hv (Fc.mono (ai.le_refl _) (fun _ _ h=>by cases h)))) fun _ _=>rfl
structure Good (ops:Array Oper) (m:Nat) (is:List eA) (R:List TR) (listed:Array Bool):Prop where
 sz:listed.size=ops.size
 mem:∀t∈R,t.k<m∧is[t.k]?=some t.it∧listed.getD t.k true=false
 cov:∀i,i<m→listed.getD i true=false→∃t∈R,t.k=i
 ZJ:R.Pairwise (fun a b=>a.k<b.k)
 dr:R.Pairwise (DrP (bD ops))
 ZK:∀i,listed.getD i false=true→∀j∈(bD ops).getD i [],listed.getD j false=true
 le:m≤ops.size
 tl:∀i,m≤i→i<ops.size→listed.getD i true=false
theorem AP {l:Array Bool} {i:Nat} (h:l.getD i true=false):l.getD i false=false∧i<l.size:=by
 rcases Nat.lt_or_ge i l.size with h'|h'
 ·simp [h'] at h ⊢;exact h
 ·simp [Array.getElem?_eq_none h'] at h
theorem mF {l:Array Bool} {i:Nat} (h:i<l.size) (d d':Bool):l.getD i d=l.getD i d':=by simp [h]
theorem AQ {cF:List (List Nat)} {is:List eA} (h:qC cF is=true) {i j:Nat} (hij:i<j) {a b:eA} (ha:is[i]?=some a) (hb:is[j]?=some b):i∈cF.getD j []∨me a b=true:=by
 unfold qC at h
 have hj:j<is.length:=(List.getElem?_eq_some_iff.1 hb).1
 have:=List.all_eq_true.1 (List.all_eq_true.1 h j (List.mem_range.2 hj)) i (List.mem_range.2 hij)
 simp only [ha,hb,Bool.or_eq_true] at this
 rcases this with h|h
 ·exact .inl (by simpa using h)
 ·exact .inr h
theorem nR {m:Nat} {is:List eA} {R:List TR} {listed:Array Bool} (hG:Good ops m is R listed) {i:Nat} (hi:i∈Region.ready .any ops listed):∀j∈(bD ops).getD i [],listed.getD j false=true:=by
 intro j hj
 obtain ⟨_,o,ho,hall⟩:=mem_ready.1 hi
 obtain ⟨hjs,ht⟩:=jJ.1 hj
 obtain ⟨o',ho',e,he,hb,h⟩:=nP ht
 rw [ho] at ho';cases ho'
 have hl:=hall e he hb
 rcases h with rfl|h
 ·exact hl
 ·exact hG.ZK _ hl j (jJ.2 ⟨hjs,h⟩)
theorem LX {m:Nat} {is:List eA} {R:List TR} {listed:Array Bool} (hG:Good ops m is R listed) (dN:gG ops=true) {k:Nat} (h1:k<ops.size) (h3:listed.getD k true=false) (nS:∀i,i<k→listed.getD i true=true):k∈Region.ready .any ops listed:=by
 refine mem_ready.2 ⟨h3,ops[k],by simp [h1],fun e he hb=>?_⟩
 have hlt:e.on<k:=by
  unfold gG at dN
  have hmem:(ops[k],k)∈ops.toList.zipIdx:=by
   rw [List.mem_zipIdx_iff_getElem?];simp [h1]
  have:=List.all_eq_true.1 dN _ hmem
  simp only at this
  have:=Array.all_eq_true_iff_forall_mem.1 this e he
  simpa [hb] using this
 have hlt':e.on<listed.size:=by rw [hG.sz];omega
 rw [mF hlt' false true];exact nS _ hlt
theorem Fo {m:Nat} {is:List eA} {t:TR} {R:List TR} {listed:Array Bool} (hG:Good ops m is (t::R) listed) (dN:gG ops=true):t.k∈Region.ready .any ops listed:=by
 obtain ⟨h1,_,h3⟩:=hG.mem t (List.mem_cons_self ..)
 refine LX hG dN (by have:=hG.le;omega) h3 fun i hi=>?_
 rcases Bool.eq_false_or_eq_true (listed.getD i true) with h|h
 ·exact h
 ·obtain ⟨t', ht', hk⟩ := hG.cov i (by omega) h
  rcases List.mem_cons.1 ht' with rfl|ht'
  ·omega
  ·have := (List.pairwise_cons.1 hG.ZJ).1 t' ht'
   omega
theorem Good.step {m:Nat} {is:List eA} {L1 L2:List TR} {t:TR} {listed:Array Bool} (hG:Good ops m is (L1++t::L2) listed) (hr:t.k∈Region.ready .any ops listed):Good ops m is (L1++L2) (listed.setIfInBounds t.k true):=by
 have hsub:(L1++L2).Sublist (L1++t::L2):=(List.Sublist.refl L1).append (List.sublist_cons_self t L2)
 have hne:∀x∈L1++L2,x.k≠t.k:=fun x hx=>by
  have:=List.pairwise_append.1 hG.ZJ
  rcases List.mem_append.1 hx with h|h
  ·exact Nat.ne_of_lt (this.2.2 x h t (List.mem_cons_self ..))
  ·exact Nat.ne_of_gt ((List.pairwise_cons.1 this.2.1).1 x h)
 refine ⟨by simp [hG.sz],fun x hx=>?_,fun i hi Qw=>?_,hG.ZJ.sublist hsub,hG.dr.sublist hsub,fun i hi j hj=>?_,hG.le,fun i hi hi2=>?_⟩
 ·obtain ⟨h1, h2, h3⟩ := hG.mem x (hsub.subset hx)
  exact ⟨h1,h2,by rw [getD_set_ne true (Ne.symm (hne x hx))];exact h3⟩
 ·have hki:t.k≠i:=fun e=>by
   subst e
   have:t.k<listed.size:=by rw [hG.sz];exact Nat.lt_of_lt_of_le hi hG.le
   simp [this] at Qw
  rw [getD_set_ne true hki] at Qw
  obtain ⟨x,hx,hk⟩:=hG.cov i hi Qw
  refine ⟨x,?_,hk⟩
  rcases List.mem_append.1 hx with h|h
  ·exact List.mem_append_left _ h
  ·rcases List.mem_cons.1 h with rfl | h
   ·exact absurd hk hki
   ·exact List.mem_append_right _ h
 ·refine getD_set_true ?_
  by_cases hki:t.k=i
  ·subst hki;exact nR hG hr j hj
  ·rw [getD_set_ne false hki] at hi
   exact hG.ZK i hi j hj
 ·have hk := (hG.mem t (List.mem_append_right _ (List.mem_cons_self ..))).1
  rw [getD_set_ne true (by omega)]
  exact hG.tl i hi hi2
theorem CW {os:List Oper} {is:List eA} {k:Nat} (h:dK P N ops os=some is):dK P N ops (os.drop k)=some (is.drop k):=by
 induction k generalizing os is with
 |zero=>simpa using h
 |succ k ih =>
  cases os with
  |nil=>cases h;rfl
  |cons o os =>
   unfold dK at h
   split at h<;>try (cases h;done)
   rename_i it its hit LO
   cases h
   simpa using ih LO
theorem CX {m:Nat} (dN:gG ops=true) (zm:∀i,m≤i→i<ops.size→∀j,j<i→j∈(bD ops).getD i []) {Q:Exit→Act→World→Prop}:∀(n k:Nat) {listed:Array Bool} {a:Act} {w:World},
  m≤k→k+n=ops.size→listed.size=ops.size→(∀i,i<k→listed.getD i true=true)→(∀i,k≤i→i<ops.size→listed.getD i true=false) →
  (∀i,listed.getD i false=true→∀j∈(bD ops).getD i [],listed.getD j false=true)→wpOpsIn Y.F 0 P ops Q (List.range' k n) a w→wpAnyIn Y.F 0 P .any ops Q n listed a w
 |0,k,listed,a,w,hm,hk,hsz,nS,Hx,sM,h=>by
  refine ⟨?_,h⟩
  cases hr:Region.ready .any ops listed with
  |nil=>rfl
  |cons i r =>
   have hi:i∈Region.ready .any ops listed:=by rw [hr];exact List.mem_cons_self ..
   obtain ⟨h0,o,ho,_⟩:=mem_ready.1 hi
   have:=(Array.getElem?_eq_some_iff.1 ho).1
   rw [nS i (by omega)] at h0;cases h0
 |n+1,k,listed,a,w,hm,hk,hsz,nS,Hx,sM,h=>by
  have hks:k<ops.size:=by omega
  have hrk:k∈Region.ready .any ops listed:=by
   refine mem_ready.2 ⟨Hx k (Nat.le_refl _) hks,ops[k],by simp [hks],fun e he hb=>?_⟩
   have hlt:e.on<k:=by
    unfold gG at dN
    have hmem:(ops[k],k)∈ops.toList.zipIdx:=by
     rw [List.mem_zipIdx_iff_getElem?];simp [hks]
    have:=List.all_eq_true.1 dN _ hmem
    simp only at this
    have:=Array.all_eq_true_iff_forall_mem.1 this e he
    simpa [hb] using this
   have hlt':e.on<listed.size:=by rw [hsz];omega
   rw [mF hlt' false true];exact nS _ hlt
  have hrp:∀i,i∈Region.ready .any ops listed→∀j∈(bD ops).getD i [],listed.getD j false=true:=by
   intro i hi j hj
   obtain ⟨_,o,ho,hall⟩:=mem_ready.1 hi
   obtain ⟨hjs,ht⟩:=jJ.1 hj
   obtain ⟨o',ho',e,he,hb,h⟩:=nP ht
   rw [ho] at ho';cases ho'
   have hl:=hall e he hb
   rcases h with rfl|h
   ·exact hl
   ·exact sM _ hl j (jJ.2 ⟨hjs,h⟩)
  refine ⟨fun h0=>(by rw [h0] at hrk;cases hrk),fun i hi=>?_⟩
  obtain ⟨h0,o,ho,_⟩:=mem_ready.1 hi
  have mB:=(Array.getElem?_eq_some_iff.1 ho).1
  have hik:i=k:=by
   rcases Nat.lt_trichotomy i k with h1|h1|h1
   ·rw [nS i h1] at h0;cases h0
   ·exact h1
   ·have := hrp i hi k (zm i (by omega) mB k h1)
    rw [(AP (Hx k (Nat.le_refl _) hks)).1] at this;cases this
  subst hik
  rw [List.range'_succ,wpOpsIn_cons] at h
  refine wpOpIn_mono (fun a' w' h'=>CX dN zm n (i+1) (by omega) (by omega) (by simpa using hsz) (fun j hj=>?_) (fun j hj hj2=>?_) (fun x hx j hj=>?_) h') h
  ·by_cases e : i = j
   ·subst e;simp [hsz,hks]
   ·rw [getD_set_ne true e];exact nS j (by omega)
  ·rw [getD_set_ne true (by omega)];exact Hx j (by omega) hj2
  ·refine getD_set_true ?_
   by_cases e:i=x
   ·subst e;exact hrp i hi j hj
   ·rw [getD_set_ne false e] at hx
    exact sM x hx j hj
theorem LY {is : List eA} {m : Nat} (zm : ∀ i, m ≤ i → i < ops.size → ∀ j, j < i → j ∈ (bD ops).getD i []) (mB : dK P N ops ops.toList = some is) (pY : qC (bD ops) is = true) (dN : gG ops = true) {b : Nat} {ms : List Nat} {F : List (Nat × V) → ah → Prop} (hF : AK F)
  {Q:Exit→Act→World→Prop} (hend:∀ι μ env bl a w,ek P N Y ι μ ⟨env,⟨b+m,bl⟩,ms⟩ a w→F env bl→wpOpsIn Y.F 0 P ops Q (List.range' m (ops.size - m)) a w) :
  ∀(fuel:Nat) {R:List TR} {listed:Array Bool} {a:Act} {w:World} {ι:ai} {μ:Mu} {env:List (Nat×V)} {bl:ah},fuel=R.length+(ops.size - m)→Good ops m is R listed→ur (fh P N out base) b R env bl F →
   ek P N Y ι μ ⟨env,⟨b+m,bl⟩,ms⟩ a w→(∀t∈R,μ (b+t.k)=none)→wpAnyIn Y.F 0 P .any ops Q fuel listed a w
 |fuel,R,listed,a,w,ι,μ,env,bl,hl,hG,hrun,hR,hfr=>by
  rcases Decidable.em (R=[]) with sN|sN
  ·subst sN
   have hle:=hG.le
   have hf:fuel=ops.size - m:=by simpa using hl
   rw [hf]
   refine CX dN zm (ops.size - m) m (Nat.le_refl _) (by omega) hG.sz (fun i hi=>?_) hG.tl hG.ZK (hend _ _ _ _ _ _ hR hrun)
   rcases Bool.eq_false_or_eq_true (listed.getD i true) with h|h
   ·exact h
   ·obtain ⟨t,ht,_⟩:=hG.cov i hi h;simp at ht
  obtain ⟨fuel,rfl⟩:∃f,fuel=f+1:=⟨fuel - 1,by have:=List.length_pos_iff.2 sN;omega⟩
  ·refine ⟨fun h0 => ?_, fun i hi => ?_⟩
   ·cases R with
    |nil=>exact absurd rfl sN
    |cons t R=>have:=Fo hG dN;rw [h0] at this;simp at this
   ·obtain ⟨h0, o, ho, _⟩ := mem_ready.1 hi
    have him:i<m:=by
     rcases Nat.lt_or_ge i m with h|h
     ·exact h
     ·exfalso
      have vF:=(Array.getElem?_eq_some_iff.1 ho).1
      cases R with
      |nil=>exact sN rfl
      |cons t R =>
       have PK:=hG.mem t (List.mem_cons_self ..)
       have:=nR hG hi _ (zm i h vF t.k (by omega))
       rw [(AP PK.2.2).1] at this;cases this
    obtain ⟨t,ht,hk⟩:=hG.cov i him h0
    subst hk
    obtain ⟨L1,L2,rfl⟩:=List.append_of_mem ht
    have hAp:∀x∈L1,Uo x t:=fun x hx=>by
     have hp:=(List.pairwise_append.1 hG.ZJ).2.2 x hx t (List.mem_cons_self ..)
     have hd:=(List.pairwise_append.1 hG.dr).2.2 x hx t (List.mem_cons_self ..)
     have V8:=hG.mem x (List.mem_append_left _ hx)
     have PK:=hG.mem t ht
     have hnot:x.k∉(bD ops).getD t.k []:=fun h=>by
      have:=nR hG hi _ h
      rw [(AP V8.2.2).1] at this;cases this
     rcases AQ pY hp V8.2.1 PK.2.1 with h|h
     ·exact absurd h hnot
     ·rcases hd with h' | h'
      ·exact absurd h' hnot
      ·exact ⟨h,h'.1,h'.2⟩
    obtain ⟨LW,aao⟩:=pull hF hAp hrun
    have PK:=hG.mem t ht
    have hit:=(fS mB).2 t.k o t.it (by simpa using ho) PK.2.1
    refine Hv PK.1 ho hit LW hR (hfr t ht) fun ι' μ' a' w' gD hne=>?_
    have hG':=hG.step hi
    refine LY zm mB pY dN hF hend fuel (R:=L1++L2) (by simp at hl ⊢;omega) hG' aao gD fun x hx=>?_
    have hx':x∈L1++t::L2:=((List.Sublist.refl L1).append (List.sublist_cons_self t L2)).subset hx
    have h1:=(hG'.mem x hx).2.2
    have hnk:x.k≠t.k:=fun e=>by
     rw [e] at h1
     have:t.k<listed.size:=by rw [hG.sz];have:=hG.le;omega
     simp [this] at h1
    rw [hne _ (by omega)];exact hfr x hx'
theorem zn {ar : Ar} {b : Nat} {F G : List (Nat × V) → ah → Prop} (h : ∀ e bl, F e bl → G e bl) : ∀ {ts : List TR} {env : List (Nat × V)} {bl : ah}, ur ar b ts env bl F → ur ar b ts env bl G
 |[],_,_,hr=>h _ _ hr
 |_::_,_,_,hr=>⟨hr.1,zn h hr.2⟩
theorem CY {ar : Ar} {b : Nat} {p : Prop} {F : List (Nat × V) → ah → Prop} : ∀ {ts : List TR} {env : List (Nat × V)} {bl : ah}, ur ar b ts env bl (fun e bl => p ∧ F e bl) → p ∧ ur ar b ts env bl F
 |[],_,_,hr=>hr
 |_::_,_,_,hr=>let ⟨h1,h2⟩:=CY hr.2;⟨h1,hr.1,h2⟩
theorem ig (hm:P.follows .mixedOrders=true):mA P N out base:=by
 intro id ops Cd Qp mB pY dN hl S K hK Y ι μ a w ho hb hR
 refine wpIn_region_any hm ?_
 obtain ⟨ts,h1,h2,h3⟩:=nO hK
 simp only [List.nil_append] at h3
 obtain ⟨Z2,hrun⟩:=CY h3
 have hlen:Cd.length+Qp.length=ops.size:=by simpa using (fS mB).1
 have htl:ts.length=Cd.length:=by rw [←h1];simp
 have hk:∀(j:Nat) t,ts[j]?=some t→t.k=j∧(Cd++Qp)[j]?=some t.it∧j<Cd.length:=fun j t ht=>by
  have hj:=(List.getElem?_eq_some_iff.1 ht).1
  refine ⟨?_,?_,by omega⟩
  ·have : (ts.map (·.k))[j]? = some t.k := by simp [ht]
   rw [h2,List.getElem?_range' (by omega)] at this
   simpa using this.symm
  ·rw [List.getElem?_append_left (by omega),←h1];simp [ht]
 let F:List (Nat×V)→ah→Prop:=fun env bl=>∃jA Hy,Fm jA env∧Un Hy bl∧eZ (fh P N out base) Qp ⟨jA,⟨S.H.next+Cd.length,Hy⟩,S.ms⟩ K
 have hF:AK F:=fun env env' bl bB he qu ⟨e0,b0,q1,q2,q3⟩=>⟨e0,b0,q1.trans he,fun i=>(q2 i).trans (qu i),q3⟩
 have nt:∀{ι' μ' env bl jA Hy a' w'},ek P N Y ι' μ' ⟨env,⟨S.H.next+Cd.length,bl⟩,S.ms⟩ a' w'→Fm jA env→Un Hy bl→ek P N Y ι' μ' ⟨jA,⟨S.H.next+Cd.length,Hy⟩,S.ms⟩ a' w':=fun gD q1 q2 =>
  ⟨fun t=>by rw [q1 t];exact gD.env t,gD.sz,gD.inv.eqB q2,gD.ms⟩
 have hfl:ops.size=ts.length+(ops.size - Cd.length):=by omega
 have htr2:dK P N ops (ops.toList.drop Cd.length)=some Qp:=by
  have:=CW (k:=Cd.length) mB
  rwa [List.drop_left' rfl] at this
 refine LY (out:=out) (base:=base) (b:=S.H.next) (ms:=S.ms) (F:=F) (fun i hi hi2=>hl i hi (by omega)) mB pY dN hF (fun ι' μ' env bl a' w' gD hf=>?_) ops.size (R:=ts) (ι:=ι) (μ:=μ) (env:=S.env) (bl:=S.H.bl) hfl ?_ ?_ ?_ ?_
 ·obtain ⟨e0, b0, q1, q2, q3⟩ := hf
  have h:=vW (Y:=Y) (os:=ops.toList.drop Cd.length) (Q:=Post P N Y fun e S=>match e with | .normal=>K S|_=>False) (K:=K) (out:=out) (base:=base) (fun ι μ S a w hR hK=>Post.of (e':=.normal) hR rfl hK) (k:=Cd.length) htr2 (fun j=>by
   rw [List.getElem?_drop];simp) (nt gD q1 q2) q3
  rwa [List.length_drop,Array.length_toList] at h
 ·refine ⟨by simp, fun t ht => ?_, fun i hi Qw => ?_, ?_, pX Z2, fun i hi => ?_, by omega, fun i hi hi2 => by simp [hi2]⟩
  ·obtain ⟨j, hj⟩ := List.getElem?_of_mem ht
   obtain ⟨e1,e2,e3⟩:=hk j t hj
   subst e1
   exact ⟨e3,e2,by simp [show t.k<ops.size by omega]⟩
  ·have : i < ts.length := by omega
   refine ⟨ts[i],List.getElem_mem this,(hk i _ (by simp)).1⟩
  ·have h4 : (ts.map (·.k)).Pairwise (· < ·) := by rw [h2]; exact List.pairwise_lt_range'
   exact List.pairwise_map.1 h4
  ·exfalso
   rcases Nat.lt_or_ge i ops.size with h|h<;>simp [h] at hi
 ·refine zn (fun e bl h => ?_) hrun
  exact ⟨e,bl,fun _=>rfl,fun _=>rfl,h⟩
 ·exact ⟨hR.env,hR.sz,(hR.inv.sK (by omega)).drawn,hR.ms⟩
 ·intro t ht
  exact hR.inv.nx _ (by omega)
end
end Go.AM
end
section
namespace Go.AM
section
variable {P:Program} {N:Nat} {Y:Ctx} {ι ι':ai} {μ μ':Mu} {H:aG} {w w':World} {out:Option Nat} {base:Nat}
theorem Qx {func:Func} {fn:Fn} (htr:cC P func=some fn):Lq P func.results.toList=some fn.res:=by
 unfold cC at htr
 split at htr<;>try (cases htr;done)
 split at htr<;>try (cases htr;done)
 rename_i PI
 split at htr<;>try (cases htr;done)
 cases htr;exact PI
theorem Inv.down (h:Inv P Y ι μ H w) (ro:Option Nat):Inv P ⟨Y.w0,ι,μ,ro,Y.x,[]⟩ ι μ H w :=
 ⟨h.below,ai.le_refl _,fun _ _ _ _=>rfl,h.rd,Mu.le_refl _,h.nx,h.live,h.inj,h.lt,h.dc⟩
theorem Inv.up {ro:Option Nat} {H':aG} (h0:Inv P Y ι μ H w) (h:Inv P ⟨Y.w0,ι,μ,ro,Y.x,[]⟩ ι' μ' H' w'):Inv P Y ι' μ' H' w'∧ι.le ι'∧μ.le μ' :=
 ⟨⟨h.below,ai.le_trans h0.i0 h.i0,fun b o hb hx=>(h.iB b o hb hx).trans (h0.iB b o hb hx),h.rd,Mu.le_trans h0.m0 h.m0,h.nx,h.live,h.inj,h.lt,h0.gl⟩,h.i0,h.m0⟩
theorem jW {f : Nat} {func : Func} {fn : Fn} (hf : P.funcs[f]? = some func) (htr : cC P func = some fn) (bY : Enters P f) (gJ : mA P fn.N none H.next) {vs : List V} {Q : V → aG → Prop} (hlen : vs.length ≤ fn.np)
  (h:qF (fh P fn.N none H.next) fn.body ⟨args 0 vs,H,[]⟩ (AG fn.res fn.tys Q)):gH P f vs H Q:=by
 refine ⟨bY,fun Y ι μ w as hI hr=>?_⟩
 refine Hr (Y:=⟨Y.w0,ι,μ,none,Y.x,[]⟩) hf htr gJ hlen h rfl rfl (fun id hid=>hI.nx id hid) (hI.down none) hr fun Y1 ι' μ' S' a' w' e' hY hR hq=>?_
 have key:AG.pV fn.res fn.tys Q S'→LeavesInM Fence.wide 0 P func a'.tmps (LL P Y ι μ Q) a'.defers .returning w':=by
  intro hs
  unfold AG.pV at hs
  split at hs<;>try (exact hs.elim)
  rename_i bl qu
  split at hs<;>try (exact hs.elim)
  rename_i vs' hvs
  refine sH (Qx htr) (n:=S'.H.next) (bl:=S'.H.bl) hY rfl hR.inv hR.env hR.ms qu hvs fun x w2 nD hx=>?_
  obtain ⟨h1,h2,h3⟩:=hI.up nD
  exact ⟨x,ι',μ',_,_,rfl,h2,h3,h1,hx (hTs fn.tys),hs⟩
 cases e' with
 |exit id=>exact hq.elim
 |normal=>exact ⟨.inl rfl,key hq⟩
 |ret=>exact ⟨.inr rfl,key hq⟩
def unr (ar : Ar) (c : C) : Nat → St → (Ex → St → Prop) → Prop
 |0,_,_=>False
 |n+1,S,K=>qF ar c S fun e S'=>match e with
  | .normal=>unr ar c n S' K
  | .exit id=>K (.exit id) S'
  | .ret=>K .ret S'
theorem Inv.Jx {bl:ah} {n id:Nat} {L:Loc} {B:kF} (h:Inv P Y ι μ ⟨n,bl⟩ w) (hb:aj id bl=some B) (hL:μ id=some L) {o o':Obj} (ho:w.heap[L.b]?=some o) (hnc:∀c e f,o ≠ .cells c e f) (hnm:∀ms c,o ≠ .map ms c) :
  Inv P Y ι μ ⟨n,aX id bl⟩ (w.putObj L.b o'):=by
 have hold:Y.own L.b:=((h.live id _ hb).loc hL).1
 have bI:∀k,k≠L.b→(w.putObj L.b o').heap[k]?=w.heap[k]?:=fun k hk=>World.putObj_heap_other hk
 have hsub:=h.del id
 refine ⟨⟨h.below.os, h.below.tape, h.below.output, by rw [World.putObj_size]; exact h.below.size, fun k hk hx => ?_, h.below.dr, fun k hk => (h.below.maps k hk).trans (by
   by_cases e:k=L.b
   ·subst e;exact .no (fun ms c e=>by rw [ho] at e;cases e;exact hnm _ _ rfl)
   ·exact .eq (bI k e))⟩,h.i0,h.iB,fun b o2 x hx=>?_,h.m0,h.nx,fun i B2 hB=>?_,hsub.inj,hsub.lt,h.gl⟩
 ·rw [bI k (Ctx.lu hold hk hx)];exact h.below.block k hk hx
 ·have := h.rd b o2 x hx
  have hne:b≠L.b:=fun e=>by
   subst e
   cases o<;>simp [World.cell?,ho] at this
   exact hnc _ _ _ rfl
  unfold World.cell? at this ⊢
  simp only at this ⊢
  rw [bI b hne];exact this
 ·simp only at hB
  rw [aR] at hB
  split at hB
  ·cases hB
  ·rename_i e
   refine (h.live i B2 hB).mono (ai.le_refl _) (Mu.le_refl _) (fun h=>h) (fun L' hL'=>bI _ (fun e'=>e (h.inj i id B2 _ L' L hB hb hL' hL e'))) (fun _ _ h=>h)
def Hz (j:Option Ex) (S:St) (K:Ex→St→Prop):Prop:=match j with
 |none=>K .normal S
 |some e=>match e with
  | .normal=>False
  | .exit i=>K (.exit i) S
  | .ret=>K .ret S
def jK (id:Nat) (sh:List Nat) (S:St) (K:Ex→St→Prop) (H:aG):Prop:=match aj id H.bl with
 |some (.loop st j _ _ _ _ _ _)=>match st with
  | .busy=>False
  |_=>match eo sh (aX id H.bl) with
   |some bl=>Hz j ⟨S.env,⟨H.next,bl⟩,S.ms⟩ K
   |none=>False
 |_=>False
def Wh (ar:Ar) (N:Nat) (out:Option Nat) (f:O) (ps:List Nat) (as bd:C) (S:St) (K:Ex→St→Prop):Prop :=
 ps.all (Nat.blt · N)=true ∧
 match f.ev S.env with
 | .fn fid first cap=>match out with
  | none => S.ms = [] ∧ ar.call fid (first ++ [.yl (S.H.next + 1)] ++ cap) ⟨S.H.next + 2, (S.H.next + 1, .loop .ready none S.H.next S.env ps as bd N) :: (S.H.next, .gQ) :: S.H.bl⟩
    fun _ H=>jK (S.H.next+1) [S.H.next] S K H
  |some Uq=>match aj Uq S.H.bl with
   | some (.loop _ _ d _ _ _ _ _) => ar.call fid (first ++ [.yl S.H.next] ++ cap) ⟨S.H.next + 1, (S.H.next, .loop .ready none d S.env ps as bd N) :: S.H.bl⟩
     fun _ H=>jK S.H.next [] S K H
   |_=>False
 |_=>False
theorem tT {f:O} {ps:List Nat} {as bd:C} {S:St} {K:Ex→St→Prop} (h:Wh (fh P N out base) N out f ps as bd S K):(fh P N out base).bq f ps as bd S K:=by
 intro fo Cb ao bo hfo hps hao hbo Y ι μ a w ho hb hR
 obtain ⟨hpN,h⟩:=h
 have rf:=aA hR.env hfo
 have hnc:∀(r:Loop) c e f,Obj.loop r ≠ .cells c e f:=fun r c e f=>by intro h;cases h
 split at h
 ·rename_i fid fs cs oJ
  rw [oJ] at rf
  generalize hg:a.eval fo=fv at rf
  cases rf with
  |fn _ _ _ xs ys h1 h2 h3 h4 =>
   have r1:aH ι μ fs xs.toList:=⟨by simpa using h1,fun i v x hv hx=>h2 i v x hv (by simpa using hx)⟩
   have r2:aH ι μ cs ys.toList:=⟨by simpa using h3,fun i v x hv hx=>h4 i v x hv (by simpa using hx)⟩
   -- behind the call
   have fin:∀{aB:Nat} {L:Loc} {sh ms':List Nat} {ds':List Deferred} {μ1:Mu},μ.le μ1→μ1 aB=some L→iZ Y.hid μ1 ms' ds'→((sh=[]∧ms'=S.ms)∨∃i,sh=[i]∧ms'=[i]∧S.ms=[]∧Y.ro=none) →
     ∀e w',LL P Y ι μ1 (fun _ H=>jK aB sh S K H) e w' →
     rangePost Y.F 0 P L.b (Post P N Y K) { a with defers:=ds' } e w':=fun {aB L sh ms' ds' μ1} fE hL hmk hsh e w' he=>by
    obtain ⟨v,ι',μ',r,H',rfl,hi,hm,hinv,hv,hq⟩:=he
    unfold jK at hq
    split at hq<;>try (exact hq.elim)
    rename_i st j d env' ps' as' Qy N' qu
    obtain ⟨L',r',Ld,q1,q2,q3,q4,q5,q6,q7,q8,q9,q10,q11,q12,q13⟩:=hinv.live _ _ qu
    rw [hm _ _ hL] at q1;cases q1
    have hst:r'.state ≠ .busy:=by rw [q4];cases st<;>simp [stR] at hq ⊢
    have hinv':=hinv.Jx (o':=.loop { r' with state:=.exhausted }) qu (hm _ _ hL) q3 (hnc r') (fun _ _ e=>by cases e)
    have Ur:ek P N Y ι' μ' ⟨S.env,⟨H'.next,aX aB H'.bl⟩,ms'⟩ { a with defers:=ds' } (w'.putObj L.b (.loop { r' with state:=.exhausted })) :=
     ⟨hR.env.mono hi (Mu.le_trans fE hm),hR.sz,hinv',hmk.mono hm⟩
    have hq1:∃bl,eo sh (aX aB H'.bl)=some bl∧Hz j ⟨S.env,⟨H'.next,bl⟩,S.ms⟩ K:=by
     cases hsh2:eo sh (aX aB H'.bl) with
     |none=>rw [hsh2] at hq;cases st<;>exact hq.elim
     |some bl=>rw [hsh2] at hq;exact ⟨bl,rfl,by cases st<;>first|exact hq.elim|exact hq⟩
    obtain ⟨bl,LZ,Wi⟩:=hq1
    obtain ⟨Y1,L5,nt⟩:∃Y1,Ext P Y Y1∧ek P N Y1 ι' μ' ⟨S.env,⟨H'.next,bl⟩,S.ms⟩ { a with defers:=ds' } (w'.putObj L.b (.loop { r' with state:=.exhausted })):=by
     rcases hsh with ⟨rfl,rfl⟩|⟨i,rfl,rfl,hS,hro⟩
     ·cases LZ;exact ⟨Y,.refl Y,Ur⟩
     ·simp only [eo] at LZ
      split at LZ<;>try (cases LZ;done)
      rename_i hb
      cases LZ
      rw [hS]
      exact Ur.uo rfl hb hro
    have hend:=run_endLoop (P:=P) q3 hst
    generalize w'.putObj L.b (.loop { r' with state:=.exhausted })=w4 at nt hend
    refine ⟨r'.pending,w4,hend,?_⟩
    unfold Hz at Wi
    cases j with
    |none=>simp only [Cp] at q5;rw [q5];exact .of1 (e':=.normal) L5 nt rfl Wi
    |some e =>
     cases e with
     |normal=>exact Wi.elim
     |exit i=>simp only [Cp] at q5;rw [q5];exact wpIn_exit (.of1 (e':=.exit i) L5 nt rfl Wi)
     |ret=>simp only [Cp] at q5;rw [q5];exact wpIn_ret (.of1 (e':=.ret) L5 nt rfl Wi)
   have hpN':∀p∈ps,p<N:=fun p hp=>by have:=List.all_eq_true.1 hpN p hp;simpa using this
   cases out with
   |none =>
    simp only at h
    have hro:Y.ro=none:=ho
    obtain ⟨hms0,bY,gI⟩:=h
    let Ld:Loc:=⟨w.heap.size,0,0,0⟩
    let L:Loc:=⟨w.heap.size+1,0,0,0⟩
    have hn0:=hR.inv.nx S.H.next (Nat.le_refl _)
    have yx:=Mu.fe (L:=Ld) hn0
    have EB:=hR.inv.lay hn0 (L:=Ld) (o:=.deferred (some [])) (b:=.gQ) rfl ⟨Ld,by simp [Mu.set],.inl hR.inv.below.size,by show (w.heap.push _)[w.heap.size]?=_;simp⟩
    have Jy:(w.alloc (.deferred (some []))).heap.size=w.heap.size+1:=World.size_alloc _ _
    have Um:(μ.set S.H.next Ld) (S.H.next+1)=none:=by simp only [Mu.set];rw [if_neg (by omega)];exact hR.inv.nx _ (by omega)
    have hle1:=Mu.fe (L:=L) Um
    have Fp : ∀ fn : Nat, Inv P Y ι ((μ.set S.H.next Ld).set (S.H.next + 1) L) ⟨S.H.next + 2, (S.H.next + 1, .loop .ready none S.H.next S.env ps as bd N) :: (S.H.next, .gQ) :: S.H.bl⟩
      ((w.alloc (.deferred (some []))).alloc (.loop { state:=.ready,pending:=none,fn:=fn,tmps:=a.tmps,params:=Cb,assign:=ao,body:=bo,defers:=w.heap.size })):=fun fn=>by
     have nD := EB.lay Um (L := L) (o := .loop { state := .ready, pending := none, fn := fn, tmps := a.tmps, params := Cb, assign := ao, body := bo, defers := w.heap.size })
      (b:=.loop .ready none S.H.next S.env ps as bd N) (by simp [L,Jy]) ⟨L,{ state:=.ready,pending:=none,fn:=fn,tmps:=a.tmps,params:=Cb,assign:=ao,body:=bo,defers:=w.heap.size },Ld,by simp [Mu.set],.inl (by have:=hR.inv.below.size;simp only [L];omega),by
       have:=World.alloc_heap_new (w.alloc (.deferred (some []))) (.loop { state:=.ready,pending:=none,fn:=fn,tmps:=a.tmps,params:=Cb,assign:=ao,body:=bo,defers:=w.heap.size })
       rw [Jy] at this;exact this,rfl,rfl,hR.env.mono (ai.le_refl _) (Mu.le_trans yx hle1),hps,hR.sz,hpN',hao,hbo,by simp [Mu.set],rfl⟩
     refine nD.congr (fun id=>?_) (by simp only;omega)
     rw [aC,aT]
     by_cases e:S.H.next+1=id
     ·subst e;simp
     ·rw [if_neg e, if_neg (fun e' => e e'.symm), aC, aT]
      by_cases e2:S.H.next=id
      ·subst e2;simp
      ·rw [if_neg e2,if_neg (fun e'=>e2 e'.symm)]
    have yy:=Mu.le_trans yx hle1
    have hLd:((μ.set S.H.next Ld).set (S.H.next+1) L) S.H.next=some Ld:=by simp [Mu.set]
    have hL:((μ.set S.H.next Ld).set (S.H.next+1) L) (S.H.next+1)=some L:=by simp [Mu.set]
    refine wpIn_rangeFunc fun fn _=>?_
    have C0:=Fp fn
    obtain ⟨W,hW⟩:∃W,W=(w.alloc (.deferred (some []))).alloc (.loop { state:=.ready,pending:=none,fn:=fn,tmps:=a.tmps,params:=Cb,assign:=ao,body:=bo,defers:=w.heap.size }):=⟨_,rfl⟩
    rw [←hW] at C0
    refine ⟨w.heap.size+1,[{ target:=.collected w.heap.size,args:=#[] }],W,{ target:=.fn (.func fid) ys,args:=xs++#[.func (.yield (w.heap.size+1)) #[] #[]] },W,fid,
     (xs++#[.func (.yield (w.heap.size+1)) #[] #[]])++ys,W,?_,?_,fun _ _=>trivial,?_,fun h=>by simp [Ctx.F,Fence.wide] at h,?_⟩
    ·show (Instr.enterLoop fn a.tmps Cb ao bo Y.ro).run P w = _
     rw [hro,hW];exact run_enterLoop_outer _ _ _ _ _
    ·have e1 : ∀ v, a.eval (.const v) = v := fun _ => rfl
     simp [resolve,hg,Deferred.ofValue,e1]
    ·have := bY ((xs ++ #[Value.func (Fn.yield (w.heap.size + 1)) #[] #[]]) ++ ys) W
     simpa [invoke] using this
    ·have rl:aH ι ((μ.set S.H.next Ld).set (S.H.next+1) L) (fs++[.yl (S.H.next+1)]++cs) ((xs++#[Value.func (Fn.yield (w.heap.size+1)) #[] #[]])++ys).toList:=by
      have q1:=r1.mono (ai.le_refl _) yy
      have q2:=r2.mono (ai.le_refl _) yy
      have:=(q1.append (.cons (.yl _ L hL) .nil)).append q2
      simpa using this
     refine CallsIn.mono (F:=Y.F) (gI Y ι _ _ _ C0 rl) fun e w' he=>?_
     exact fin (L:=L) (aB:=S.H.next+1) (sh:=[S.H.next]) (ms':=[S.H.next]) (ds':={ target:=.collected w.heap.size,args:=#[] }::a.defers) yy hL ⟨Ld,_,a.defers,rfl,hLd,rfl,by have:=hR.ms;rw [hms0] at this;exact this⟩ (.inr ⟨_,rfl,rfl,hms0,hro⟩) e w' he
   |some Uq =>
    simp only at h
    obtain ⟨L0,hm0,hro⟩:=ho
    split at h<;>try (exact h.elim)
    rename_i st0 j0 d0 jA ps0 as0 bd0 N0 hb0
    obtain ⟨bY,gI⟩:=h
    obtain ⟨L0',r0,Ld,q1,q2,q3,q4,q5,q6,q7,q8,q9,q10,q11,q12,q13⟩:=hR.inv.live _ _ hb0
    rw [hR.inv.m0 _ _ hm0] at q1;cases q1
    let L:Loc:=⟨w.heap.size,0,0,0⟩
    have hn0:=hR.inv.nx S.H.next (Nat.le_refl _)
    have yy:=Mu.fe (L:=L) hn0
    have Fp : ∀ fn : Nat, Inv P Y ι (μ.set S.H.next L) ⟨S.H.next + 1, (S.H.next, .loop .ready none d0 S.env ps as bd N) :: S.H.bl⟩
      (w.alloc (.loop { state:=.ready,pending:=none,fn:=fn,tmps:=a.tmps,params:=Cb,assign:=ao,body:=bo,defers:=r0.defers })):=fun fn=>by
     have nD := hR.inv.lay hn0 (L := L) (o := .loop { state := .ready, pending := none, fn := fn, tmps := a.tmps, params := Cb, assign := ao, body := bo, defers := r0.defers })
      (b:=.loop .ready none d0 S.env ps as bd N) rfl ⟨L,{ state:=.ready,pending:=none,fn:=fn,tmps:=a.tmps,params:=Cb,assign:=ao,body:=bo,defers:=r0.defers },Ld,by simp [Mu.set],.inl hR.inv.below.size,by
       show (w.heap.push _)[w.heap.size]?=_
       simp,rfl,rfl,hR.env.mono (ai.le_refl _) yy,hps,hR.sz,hpN',hao,hbo,yy _ _ q12,q13⟩
     refine nD.congr (fun id=>?_) (by simp only;omega)
     rw [aC,aT]
     by_cases e:S.H.next=id
     ·subst e;simp
     ·rw [if_neg e,if_neg (fun e'=>e e'.symm)]
    have hL:(μ.set S.H.next L) S.H.next=some L:=by simp [Mu.set]
    refine wpIn_rangeFunc fun fn _=>?_
    have C0:=Fp fn
    obtain ⟨W,hW⟩:∃W,W=w.alloc (.loop { state:=.ready,pending:=none,fn:=fn,tmps:=a.tmps,params:=Cb,assign:=ao,body:=bo,defers:=r0.defers }):=⟨_,rfl⟩
    rw [←hW] at C0
    refine ⟨w.heap.size,[],W,{ target:=.fn (.func fid) ys,args:=xs++#[.func (.yield w.heap.size) #[] #[]] },W,fid,
     (xs++#[.func (.yield w.heap.size) #[] #[]])++ys,W,?_,?_,fun _ _=>trivial,?_,fun h=>by simp [Ctx.F,Fence.wide] at h,?_⟩
    ·show (Instr.enterLoop fn a.tmps Cb ao bo Y.ro).run P w = _
     rw [hro,hW];exact run_enterLoop_inner q3 _ _ _ _ _
    ·have e1 : ∀ v, a.eval (.const v) = v := fun _ => rfl
     simp [resolve,hg,Deferred.ofValue,e1]
    ·have := bY ((xs ++ #[Value.func (Fn.yield w.heap.size) #[] #[]]) ++ ys) W
     simpa [invoke] using this
    ·have rl:aH ι (μ.set S.H.next L) (fs++[.yl S.H.next]++cs) ((xs++#[Value.func (Fn.yield w.heap.size) #[] #[]])++ys).toList:=by
      have q1:=r1.mono (ai.le_refl _) yy
      have q2:=r2.mono (ai.le_refl _) yy
      have:=(q1.append (.cons (.yl _ L hL) .nil)).append q2
      simpa using this
     refine CallsIn.mono (F:=Y.F) (gI Y ι _ _ _ C0 rl) fun e w' he=>?_
     exact fin (L:=L) (aB:=S.H.next) (sh:=[]) yy hL (hR.ms.mono yy) (.inl ⟨rfl,rfl⟩) e w' he
 ·exact h.elim
end
end Go.AM
end
section
namespace Go.AM
def tU : List Nat → List V → List (Nat × V) → List (Nat × V)
  |p::ps,v::vs,env=>tU ps vs (An p v env)
  |_,_,env=>env
def qO (id:Nat) (Q:V→aG→Prop) (e:Ex) (S:St):Prop:=match aj id S.H.bl with
  |some (.loop .busy _ d env ps as bd N)=>match e with
    | .normal=>Q (.tf true) ⟨S.H.next,(id,.loop .ready none d env ps as bd N)::aX id S.H.bl⟩
    | .exit i=>Q (.tf false) ⟨S.H.next,(id,.loop .done (some (.exit i)) d env ps as bd N)::aX id S.H.bl⟩
    | .ret=>Q (.tf false) ⟨S.H.next,(id,.loop .done (some .ret) d env ps as bd N)::aX id S.H.bl⟩
  |_=>False
def Fq (ar:Nat→Ar) (id:Nat) (vs:List V) (H:aG) (Q:V→aG→Prop):Prop:=match aj id H.bl with
  |some (.loop .ready none d env ps as bd N)=>vs.length=ps.length∧qF (ar N) as ⟨tU ps vs env,H,[]⟩ fun e S=>match e with
    | .normal=>match aj id S.H.bl with
      |some (.loop .ready none d' env' ps' as' Qy N')=>qF (ar N) bd ⟨S.env,⟨S.H.next,(id,.loop .busy none d' env' ps' as' Qy N')::aX id S.H.bl⟩,S.ms⟩ (qO id Q)
      |_=>False
    |_=>False
  |_=>False
section
variable {P:Program} {N:Nat} {Y:Ctx} {ι ι':ai} {μ μ':Mu} {H:aG} {w w':World} {out:Option Nat} {base:Nat}
theorem zo:∀{ps:List Nat} {vs:List V} {args:List Value} {env:List (Nat×V)} {tmps:Array Value},aH ι μ vs args→(∀p∈ps,p<N)→tmps.size=N→dV ι μ env tmps →
    dV ι μ (tU ps vs env) ((ps.zip args).foldl (fun t (p,v)=>t.setIfInBounds p v) tmps)∧((ps.zip args).foldl (fun (t:Array Value) (p,v)=>t.setIfInBounds p v) tmps).size=N
  |[],vs,args,env,tmps,hr,hp,hs,he=>by simp only [tU,List.zip_nil_left,List.foldl_nil];exact ⟨he,hs⟩
  |p::ps,[],args,env,tmps,hr,hp,hs,he=>by rw [hr.of_nil];simp only [tU,List.zip_nil_right,List.foldl_nil];exact ⟨he,hs⟩
  |p::ps,v::vs,args,env,tmps,hr,hp,hs,he=>by
    obtain ⟨x,r,rfl,h1,h2⟩:=hr.bh
    simp only [tU,List.zip_cons_cons,List.foldl_cons]
    refine zo h2 (fun q hq=>hp q (List.mem_cons_of_mem _ hq)) (by simp [hs]) fun t=>?_
    have hd':p<N:=hp p (List.mem_cons_self ..)
    rw [lM]
    by_cases h:p=t
    · subst h
      rw [if_pos rfl]
      have:(tmps.setIfInBounds p x).getD p undef=x:=by simp [Array.getD,hs,hd']
      rw [this];exact h1
    · rw [if_neg h]
      have:(tmps.setIfInBounds p x).getD t undef=tmps.getD t undef:=by
        simp only [Array.getD_eq_getD_getElem?]
        rw [Array.getElem?_setIfInBounds_ne h]
      rw [this];exact he t
theorem Jz {id:Nat} {vs:List V} {Q:V→aG→Prop} (gJ:∀N,mA P N (some id) H.next) (h:Fq (fun N=>fh P N (some id) H.next) id vs H Q):around P id vs H Q:=by
  intro Y ι μ w args L hI hr hL
  unfold Fq at h
  split at h<;>try (exact h.elim)
  rename_i d env ps as bd N hb
  obtain ⟨hlen,h⟩:=h
  obtain ⟨L',r,Ld,q1,q2,q3,q4,q5,q6,q7,q8,q9,q10,q11,q12,q13⟩:=hI.live _ _ hb
  rw [hL] at q1;cases q1
  have hnc:∀(r:Loop) c e f,Obj.loop r ≠ .cells c e f:=fun r c e f=>by intro h;cases h
  have hsize : args.size = r.params.size := by have h1 := hr.1; have h2 : r.params.toList.length = ps.length := by rw [q7]
                                               simp at h1 h2;omega
  refine ⟨r.fn,_,r.assign,r.body,w,run_yield q3 hsize,roundIn_of_wpIn trivial ?_⟩
  let Y':Ctx:=⟨Y.w0,ι,μ,some L.b,Y.x,[]⟩
  obtain ⟨he1,he2⟩:=zo (env:=env) hr q9 q8 q6
  have hzip:(r.params.zip args).foldl (fun tmps (x:Tmp×Value)=>tmps.setIfInBounds x.1 x.2) r.tmps=(ps.zip args.toList).foldl (fun (t:Array Value) (p,v)=>t.setIfInBounds p v) r.tmps:=by
    rw [←Array.foldl_toList,Array.toList_zip,q7]
  have hR:ek P N Y' ι μ ⟨tU ps vs env,H,[]⟩ { tmps:=(r.params.zip args).foldl (fun tmps (x:Tmp×Value)=>tmps.setIfInBounds x.1 x.2) r.tmps,defers:=[] } w :=
    ⟨by rw [hzip];exact he1,by rw [hzip];exact he2,hI.down _,rfl⟩
  have hbase:Y'.base H.next:=fun id hid=>hI.nx id hid
  have hout:jT Y' (some id):=⟨L,hL,rfl⟩
  refine wpIn_mono (gq (gJ N) r.assign q10 h Y' ι μ _ w hout hbase hR) fun e a1 w1 hp=>?_
  obtain ⟨Y1,L5,ι1,μ1,S1,e1,qv,hx1,hq1⟩:=hp
  have:=L5.same (by simp [Y'])
  subst this
  cases e1 with
  |exit i=>exact hq1.elim
  |ret=>exact hq1.elim
  |normal =>
    cases hx1
    simp only at hq1
    split at hq1<;>try (exact hq1.elim)
    rename_i d1 env1 ps1 as1 bd1 N1 iL
    obtain ⟨L1,r1,Ld1,p1,p2,p3,p4,p5,p6,p7,p8,p9,p10,p11,p12,p13⟩:=qv.inv.live _ _ iL
    have V5:μ1 id=some L:=qv.inv.m0 _ _ hL
    rw [V5] at p1;cases p1
    refine ⟨_,run_beginRound p3 p4,?_⟩
    have hlt1:L.b<w1.heap.size:=(Array.getElem?_eq_some_iff.1 p3).1
    have nD := qv.inv.Hg (o' := .loop { r1 with state := .busy }) (B' := .loop .busy none d1 env1 ps1 as1 bd1 N1) iL V5 p3 (hnc _) (fun _ _ e => by cases e)
      ⟨L,{ r1 with state:=.busy },Ld1,V5,p2,World.putObj_heap_same hlt1,rfl,p5,p6,p7,p8,p9,p10,p11,p12,p13⟩
    have mS:ek P N Y' ι1 μ1 ⟨S1.env,⟨S1.H.next,(id,.loop .busy none d1 env1 ps1 as1 bd1 N1)::aX id S1.H.bl⟩,S1.ms⟩ a1 (w1.putObj L.b (.loop { r1 with state:=.busy })):=⟨qv.env,qv.sz,nD,qv.ms⟩
    refine wpIn_mono (gq (gJ N) r.body q11 hq1 Y' ι1 μ1 _ _ hout hbase mS) fun e a3 w3 hp=>?_
    obtain ⟨Y3,hY3,ι3,μ3,S3,e3,K1,Us,Qz⟩:=hp
    have:=hY3.same (by simp [Y'])
    subst this
    unfold qO at Qz
    split at Qz<;>try (exact Qz.elim)
    rename_i j3 d3 env3 ps3 as3 bd3 N3 Ca
    obtain ⟨L3,r3,Ld3,s1,s2,s3,s4,s5,s6,s7,s8,s9,s10,s11,s12,s13⟩:=K1.inv.live _ _ Ca
    have hL3:μ3 id=some L:=K1.inv.m0 _ _ hL
    rw [hL3] at s1;cases s1
    have hlt3:L.b<w3.heap.size:=(Array.getElem?_eq_some_iff.1 s3).1
    have fin:∀(jump:Option Code) (st:pR) (j:Option Ex) (v:V),stR st=(if jump.isNone then .ready else .done)→Cp j jump→v = .tf jump.isNone→Q v ⟨S3.H.next,(id,.loop st j d3 env3 ps3 as3 bd3 N3)::aX id S3.H.bl⟩ →
        ∃v w',(Instr.endRound L.b jump).run P w3 = .ok v w'∧LL P Y ι μ Q (.returned v) w':=fun jump st j v h1 h2 h3 h4=>by
      have hI4 := K1.inv.Hg (o' := .loop { r3 with state := if jump.isNone then .ready else .done, pending := jump }) (B' := .loop st j d3 env3 ps3 as3 bd3 N3) Ca hL3 s3 (hnc _) (fun _ _ e => by cases e)
        ⟨L,{ r3 with state:=if jump.isNone then .ready else .done,pending:=jump },Ld3,hL3,s2,World.putObj_heap_same hlt3,h1.symm,h2,s6,s7,s8,s9,s10,s11,s12,s13⟩
      obtain ⟨u1,u2,u3⟩:=hI.up hI4
      subst h3
      exact ⟨_,_,run_endRound jump s3,_,ι3,μ3,_,_,rfl,u2,u3,u1,.tf _,h4⟩
    cases e3 with
    |normal=>cases Us;exact fin none .ready none _ rfl rfl rfl Qz
    |exit i=>cases Us;exact fin (some (.exit i)) .done (some (.exit i)) _ rfl rfl rfl Qz
    |ret=>cases Us;exact fin (some .ret) .done (some .ret) _ rfl rfl rfl Qz
end
end Go.AM
end
section
namespace Go.AM
section
variable {c1 : Nat → List V → aG → (V → aG → Prop) → Prop} {c2 : Nat → List V → V → Prop} {c3 : C → St → (Ex → St → Prop) → Prop}
 {c4:Nat→List V→aG→(V→aG→Prop)→Prop} {c5:O→List Nat→C→C→St→(Ex→St→Prop)→Prop} {c6:C→St→(Ex→St→Prop)→Prop} {bl:ah}
theorem jB : ∀ {t : Ty} {bl : ah} {vs : List V}, aV (aS c1 c2 c3 c4 c5 c6) bl t vs = aV dU bl t vs
 | .unit,bl,vs=>by simp only [aV]
 | .prod a b,bl,vs=>by simp only [aV,jB (t:=a),jB (t:=b)]
 | .bool,_,[]=>rfl
 | .str,_,[]=>rfl
 | .int _,_,[]=>rfl
 | .list _,_,[]=>rfl
 | .bT _ _ _,_,[]=>rfl
 | .bool,_,c::cs=>by cases c<;>rfl
 | .str,_,c::cs=>by cases c<;>rfl
 | .int k,_,c::cs=>by cases c<;>rfl
 | .list t,_,c::cs=>by cases c<;>rfl
 | .bT d g t,_,c::cs=>by cases c<;>first|rfl|(simp only [aV,jB (t:=t)])
theorem qP {t : Ty} {bl : ah} : ∀ {n : Nat} {vs : List V}, lH (aS c1 c2 c3 c4 c5 c6) bl t n vs = lH dU bl t n vs
 |0,[]=>rfl
 |0,_::_=>rfl
 |n+1,vs=>by simp only [lH,jB,qP (n:=n)]
theorem AR {t : Ty} {xs : List t.den} : ∀ {n i : Nat}, Ch (aS c1 c2 c3 c4 c5 c6) t xs n i = Ch dU t xs n i
 |0,_=>rfl
 |n+1,i=>by simp only [Ch,AR (n:=n)];rfl
theorem C1 {t:Ty} {g:Bool} {v:V}:keyOf (aS c1 c2 c3 c4 c5 c6) t g v=keyOf dU t g v:=by simp only [keyOf,jB]
theorem AS {t : Ty} : ∀ {vs : List V}, qw (aS c1 c2 c3 c4 c5 c6) bl t vs = qw dU bl t vs
 |[]=>rfl
 |v::r=>by simp only [qw,jB,AS (vs:=r)]
theorem mG : ∀ {t : Ty} {x : t.den} {p : List Bool} {vs : List V}, cm (aS c1 c2 c3 c4 c5 c6) bl t x p vs = cm dU bl t x p vs
 |t,x,[],vs=>by cases t<;>simp only [cm,jB]
 | .prod a b,x,false::p,vs=>by simp only [cm,mG (t:=a)]
 | .prod a b,x,true::p,vs=>by simp only [cm,mG (t:=b)]
 | .unit,_,_::_,_=>by simp [cm]
 | .bool,_,_::_,_=>by simp [cm]
 | .str,_,_::_,_=>by simp [cm]
 | .int _,_,_::_,_=>by simp [cm]
 | .list _,_,_::_,_=>by simp [cm]
 | .bT _ _ _,_,_::_,_=>by simp [cm]
theorem qQ {t:Ty} {v:V}:elems (aS c1 c2 c3 c4 c5 c6) bl t v=elems dU bl t v:=by cases v<;>rfl
theorem wC:∀{ks:List Kd} {xs ys:List V},aI (aS c1 c2 c3 c4 c5 c6) ks xs ys=aI dU ks xs ys:=by
 intro ks
 induction ks with
 |nil=>intro xs ys;cases xs<;>cases ys<;>rfl
 |cons k ks ih =>
  intro xs ys
  cases xs with
  |nil=>cases k<;>rfl
  |cons x xs =>
   cases ys with
   |nil=>cases k<;>cases x<;>rfl
   |cons y ys=>cases k<;>cases x<;>cases y<;>first|rfl|(simp only [aI,ih];rfl)
theorem wD {mx:Bool} {k:IntKind}:∀{ys:List V} {a:Int},iA (aS c1 c2 c3 c4 c5 c6) mx k a ys=iA dU mx k a ys:=by
 intro ys
 induction ys with
 |nil=>intro a;rfl
 |cons y ys ih=>intro a;cases y<;>first|rfl|(simp only [iA,ih];rfl)
theorem Ma {e:gj} {vs:List V} {aB:Nat}:iI (aS c1 c2 c3 c4 c5 c6) e vs bl aB=iI dU e vs bl aB:=by
 cases e<;>first|rfl|(simp only [iI,qQ,C1,qP];done)|(simp only [iI,qQ,C1,qP];rfl)
theorem wE {f g : Nat → Option V} (h : ∀ n, f n = g n) : ∀ ns, Al f ns = Al g ns
 |[]=>rfl
 |n::r=>by simp only [Al,h n,wE h r]
theorem QA {vs:List V} {j:Int}:Lg (aS c1 c2 c3 c4 c5 c6) vs j=Lg dU vs j:=rfl
theorem AU {cs : List V} : ∀ {l : List (Nat × Nat × Int)} {o : Nat}, Ci (aS c1 c2 c3 c4 c5 c6) cs l o = Ci dU cs l o
 |[],o=>rfl
 |(ej,len,j)::r,o=>by simp only [Ci,wE (fun n=>AU (l:=r) (o:=o+n * ej)),QA]
theorem Mb {i:I} {env:List (Nat×V)} {aB:Nat}:bM (aS c1 c2 c3 c4 c5 c6) i env bl aB=bM dU i env bl aB:=by
 cases i<;>first|rfl|(simp only [bM,AS,mG,qQ,wC,wD,Ma,qP,AR,AU];done)|(simp only [bM,AS,mG,qQ,wC,wD,Ma,qP,AR,AU];rfl)
theorem Mc {i:I} {env:List (Nat×V)} {aB:Nat}:ym (aS c1 c2 c3 c4 c5 c6) i env bl aB=ym dU i env bl aB:=by
 cases i<;>first|rfl|(simp only [ym,mG,jB];done)|(simp only [ym,mG,jB];rfl)
theorem Wj {id:Nat}:Zt (aS c1 c2 c3 c4 c5 c6) id bl=Zt dU id bl:=by
 unfold Zt
 split
 ·simp only [mG];rfl
 ·rfl
end
theorem Md {c1 : Nat → List V → aG → (V → aG → Prop) → Prop} {c2 : Nat → List V → V → Prop} {c3 : C → St → (Ex → St → Prop) → Prop}
  {c4:Nat→List V→aG→(V→aG→Prop)→Prop} {c5:O→List Nat→C→C→St→(Ex→St→Prop)→Prop} {c6:C→St→(Ex→St→Prop)→Prop}:∀{ids:List Nat} {bl:ah},KZ (aS c1 c2 c3 c4 c5 c6) ids bl=KZ dU ids bl
 |[],_=>rfl
 |id::r,bl=>by simp only [KZ,Wj,Md (ids:=r)]
def aaz (ar:Ar) (x:O) (env:List (Nat×V)) (bl:ah) (aB:Nat):Out:=some ([],x.ev env,[])
def QB (ar:Ar) (c:O) (a:O) (b:O) (env:List (Nat×V)) (bl:ah) (aB:Nat):Out :=
  match c.ev env with
  | .tf true=>some ([],a.ev env,[])
  | .tf false=>some ([],b.ev env,[])
  | .bool c=>match Jk (a.ev env),Jk (b.ev env) with
   |some x,some y=>some ([],.bool (ar.ET c x y),[])
   |_,_=>none
  |_=>none
def Me (ar:Ar) (z:List V) (env:List (Nat×V)) (bl:ah) (aB:Nat):Out:=some ([],.ptr aB 0,[(aB,some (.cells z false))])
def Wk (ar:Ar) (x:O) (env:List (Nat×V)) (bl:ah) (aB:Nat):Out:=match (x.ev env).cells? with
  |some cs=>some ([],.ptr aB 0,[(aB,some (.cells cs false))])
  |none=>none
def Mf (ar:Ar) (z:List V) (parts:List (Nat×Nat×O)) (env:List (Nat×V)) (bl:ah) (aB:Nat):Out:=match tA parts env z with
  |some cs=>some ([],.agg cs,[])
  |none=>none
def JA (ar:Ar) (t:Ty) (xs:List O) (env:List (Nat×V)) (bl:ah) (aB:Nat):Out:=match qw ar bl t (xs.map (·.ev env)) with
  |some (ys,u)=>some ([],.sl aB t 0 xs.length,u++[(aB,some (.arr t ys false))])
  |none=>none
def QC (ar:Ar) (agg:Bool) (k:Nat) (x:O) (env:List (Nat×V)) (bl:ah) (aB:Nat):Out :=
  match x.ev env with
  | .ptr id off=>match aj id bl with
   |some (.cells cs _)=>match cut off k cs with
    |some vs=>match bS agg vs with
     |some v=>some ([],v,[])
     |none=>none
    |none=>none
   |_=>none
  | .eW cs=>match cut 0 k cs with
   |some vs=>match bS agg vs with
    |some v=>some ([],v,[])
    |none=>none
   |none=>none
  | .ep id t i p=>match aj id bl with
   |some (.arr t' xs _)=>if t=t' then
     match o3 t' (ar.get t'.zero xs i) p with
     |some ⟨t2,y⟩=>match bU t2 y with
      |vs=>if vs.length=k then (match bS agg vs with
       |some v=>some ([ar.KW i (ar.len xs)],v,[])
       |none=>none) else none
     |none=>none
    else none
   |some (.l8 t' xs i' p' v)=>if t=t'∧p=p'∧k=1 then (match agg with
    |false=>some ([ar.eq (Int.ofNat i) (Int.ofNat i')],v,[])
    |true=>none) else none
   |_=>none
  | .ip t y=>match bU t y with
   |vs=>if vs.length=k then (match bS agg vs with
    |some v=>some ([],v,[])
    |none=>none) else none
  | .pa id t m=>match aj id bl with
   |some (.arr t' xs _)=>if t=t' then (match Ch ar t' xs m 0 with
    |vs=>if vs.length=k then (match bS agg vs with
     |some v=>some ([],v,[])
     |none=>none) else none) else none
   |_=>none
  | .sp id o l=>match aj id bl with
   |some (.cells cs _)=>match k with
    |1=>match Ci ar cs l o with
     |some v=>match bS agg [v] with
      |some v=>some ([],v,[])
      |none=>none
     |none=>none
    |_=>none
   |_=>none
  |_=>none
def Mh (ar:Ar) (k:Nat) (a:O) (x:O) (env:List (Nat×V)) (bl:ah) (aB:Nat):Out :=
  match (x.ev env).cells? with
  |none=>none
  |some vs=>if vs.length=k then
   (match a.ev env with
   | .ptr id off=>match aj id bl with
    |some (.cells cs false)=>match qx off vs cs with
     |some cs'=>some ([],.any,[(id,some (.cells cs' false))])
     |none=>none
    |_=>none
   | .ep id t i p=>match aj id bl with
    |some (.arr t' xs false)=>if t=t' then
      match cm ar bl t' (ar.get t'.zero xs i) p vs with
      |some (y,u)=>match tB id u with
       |true=>some ([ar.KW i (ar.len xs)],.any,u++[(id,some (.arr t' (ar.set xs i y) false))])
       |false=>none
      |none=>none
     else none
    |_=>none
   | .pa id t m=>match aj id bl with
    |some (.arr t' xs false)=>if t=t' then
      match lH ar bl t' m vs with
      |some (ys,u)=>match tB id u with
       |true=>some ([],.any,u++[(id,some (.arr t' ys false))])
       |false=>none
      |none=>none
     else none
    |_=>none
   |_=>none) else none
def Wl (ar:Ar) (op:yg) (x:O) (y:O) (env:List (Nat×V)) (bl:ah) (aB:Nat):Out :=
  match x.ev env,y.ev env with
  | .int k a,.int k' b=>match op with
   | .shl=>yM ar .shl k a b
   | .shr=>yM ar .shr k a b
   |_=>if k=k' then EW ar op k a b else none
  | .str a,.str b=>EX ar op a b
  |_,_=>none
def Wm (ar:Ar) (neg:Bool) (x:O) (y:O) (env:List (Nat×V)) (bl:ah) (aB:Nat):Out:=match Jk (x.ev env),Jk (y.ev env) with
  |some a,some b=>some ([],.bool (match neg with|true=>ar.sk (ar.beq a b)|false=>ar.beq a b),[])
  |_,_=>none
def Wn (ar:Ar) (neg:Bool) (ks:List Kd) (x:O) (y:O) (env:List (Nat×V)) (bl:ah) (aB:Nat):Out :=
  match x.ev env,y.ev env with
  | .agg xs,.agg ys=>match aI ar ks xs ys with
   |some c=>some ([],.bool (match neg with|true=>ar.sk c|false=>c),[])
   |none=>none
  |_,_=>none
def Wo (ar:Ar) (x:O) (env:List (Nat×V)) (bl:ah) (aB:Nat):Out:=match x.ev env with
  | .int k a=>match k.signed with
   |true=>match ar.sub 0 a with|z=>some ([ar.gm k z],.int k z,[])
   |false=>some ([],.int k (ar.wr k (ar.sub 0 a)),[])
  |_=>none
def Wp (ar:Ar) (x:O) (env:List (Nat×V)) (bl:ah) (aB:Nat):Out:=match x.ev env with
  | .tf b=>some ([],.tf (!b),[])
  | .bool b=>some ([],.bool (ar.sk b),[])
  |_=>none
def QD (ar:Ar) (k:IntKind) (x:O) (env:List (Nat×V)) (bl:ah) (aB:Nat):Out:=match x.ev env with
  | .int _ n=>some ([ar.gm k n],.int k n,[])
  |_=>none
def Wq (ar:Ar) (off:Nat) (path:List Bool) (x:O) (env:List (Nat×V)) (bl:ah) (aB:Nat):Out:=match x.ev env with
  | .ptr id o=>some ([],.ptr id (o+off),[])
  | .eW cs=>if off≤cs.length then some ([],.eW (cs.drop off),[]) else none
  | .ep id t i p=>match t.qt p with
   |some t1=>if t1.bn path=off then (match t1.qt path with
    |some _=>some ([],.ep id t i (p++path),[])
    |none=>none) else none
   |none=>none
  | .ip t y=>if t.bn path=off then (match o3 t y path with
   |some ⟨t2,z⟩=>some ([],.ip t2 z,[])
   |none=>none) else none
  | .pa id t m=>if (off / t.sz) * t.sz=off∧off / t.sz<m then some ([],.ep id t (off / t.sz) [],[]) else none
  | .kH t xs=>if (off / t.sz) * t.sz=off then some ([ar.KW (off / t.sz) (ar.len xs)],.ip t (ar.get t.zero xs (off / t.sz)),[]) else none
  | .sp id o l=>some ([],.sp id (o+off) l,[])
  |_=>none
def Mi (ar:Ar) (agg:Bool) (off:Nat) (k:Nat) (x:O) (env:List (Nat×V)) (bl:ah) (aB:Nat):Out:=match x.ev env with
  | .agg cs=>match cut off k cs with
   |some vs=>match bS agg vs with
    |some v=>some ([],v,[])
    |none=>none
   |none=>none
  |_=>none
def Wr (ar:Ar) (ej:Nat) (x:O) (i:O) (env:List (Nat×V)) (bl:ah) (aB:Nat):Out :=
  match i.ev env with
  | .int _ n=>match x.ev env with
   | .sl id t lo m=>if t.sz=ej then some ([ar.fu n (Int.ofNat m)],.ep id t (ar.EU lo (ar.sn n)) [],[]) else none
   | .ew t xs=>if t.sz=ej then some ([ar.fu n (Int.ofNat (ar.len xs))],.ip t (ar.get t.zero xs (ar.sn n)),[]) else none
   |_=>none
  |_=>none
def QE (ar:Ar) (len:Nat) (ej:Nat) (x:O) (i:O) (env:List (Nat×V)) (bl:ah) (aB:Nat):Out :=
  match x.ev env with
  | .pa id t m=>match i.ev env with
   | .int _ j=>if t.sz=ej∧m=len then some ([ar.fu j (Int.ofNat len)],.ep id t (ar.sn j) [],[]) else none
   |_=>none
  | .kH t xs=>match i.ev env with
   | .int _ j=>if t.sz=ej then some ([ar.fu j (Int.ofNat len),ar.fu j (Int.ofNat (ar.len xs))],.ip t (ar.get t.zero xs (ar.sn j)),[]) else none
   |_=>none
  | .ptr id o=>match i.ev env with
   | .int _ j=>some ([ar.fu j (Int.ofNat len)],.sp id o [(ej,len,j)],[])
   |_=>none
  | .sp id o l=>match i.ev env with
   | .int _ j=>some ([ar.fu j (Int.ofNat len)],.sp id o ((ej,len,j)::l),[])
   |_=>none
  | .eW cs=>match i.ev env with
   | .int _ (.ofNat n)=>if n<len then (if n * ej≤cs.length then some ([],.eW (cs.drop (n * ej)),[]) else none) else none
   |_=>none
  |_=>none
def Ws (ar:Ar) (k:Nat) (x:O) (env:List (Nat×V)) (bl:ah) (aB:Nat):Out:=match x.ev env with
  | .cw vs=>match vs[k]? with
   |some v=>some ([],v,[])
   |none=>none
  |_=>none
def Wt (ar:Ar) (x:O) (env:List (Nat×V)) (bl:ah) (aB:Nat):Out:=match x.ev env with
  | .sl _ _ _ n=>some ([],.int .i64 (Int.ofNat n),[])
  | .ew _ xs=>some ([],.int .i64 (Int.ofNat (ar.len xs)),[])
  | .bL=>some ([],.int .i64 0,[])
  |_=>none
def QF (ar:Ar) (x:O) (env:List (Nat×V)) (bl:ah) (aB:Nat):Out:=match x.ev env with
  | .str s=>some ([],.int .i64 (ar.Jj s),[])
  |_=>none
def QG (ar:Ar) (n:Nat) (env:List (Nat×V)) (bl:ah) (aB:Nat):Out:=some ([],.int .i64 (Int.ofNat n),[])
def JB (ar:Ar) (ej:Nat) (x:O) (y:O) (env:List (Nat×V)) (bl:ah) (aB:Nat):Out :=
  match x.ev env with
  | .bL=>match EY (y.ev env) with
   |some t=>if t.sz=ej then
     (match elems ar bl t (y.ev env) with
     |some ys=>match ar.len ys with
      |m=>some ([ar.KW m cn],.sl aB t 0 m,[(aB,some (.arr t ys false))])
     |none=>none) else none
   |none=>none
  | .sl id t lo n=>if t.sz=ej then
   (match aj id bl with
   |some (.arr t' xs false)=>if t'=t then
    (match jL t' t xs with
    |some xs'=>match elems ar bl t (y.ev env) with
     |some ys=>match ar.EU n (ar.len ys) with
      |m=>some ([ar.KW m cn],.sl aB t 0 m,[(id,none),(aB,some (.arr t (ar.app (ar.sub' xs' lo n) ys) false))])
     |none=>none
    |none=>none) else none
   |_=>none) else none
  |_=>none
def Fs (ar:Ar) (t:Ty) (n:O) (env:List (Nat×V)) (bl:ah) (aB:Nat):Out:=match n.ev env with
  | .int _ z=>match ar.sn z with
   |m=>some ([ar.fu z (Int.ofNat cn)],.sl aB t 0 m,[(aB,some (.arr t (ar.rep m t.zero) false))])
  |_=>none
def QH (ar:Ar) (f:Nat) (a:List O) (b:List O) (env:List (Nat×V)) (bl:ah) (aB:Nat):Out:=some ([],.fn f (a.map (·.ev env)) (b.map (·.ev env)),[])
def Mj (ar:Ar) (ej:Nat) (x:O) (lo:Option O) (hi:Option O) (mx:Option O) (env:List (Nat×V)) (bl:ah) (aB:Nat):Out :=
  match mx with
  |some m=>match hi with
   |some h=>match pS (m.ev env),pS (h.ev env),bV env 0 lo with
    |some a,some b,some c=>match x.ev env with
     | .sl _ _ _ _=>some ([ar.eq a 0,ar.eq b 0,ar.eq c 0],.bL,[])
     | .ew _ _=>some ([ar.eq a 0,ar.eq b 0,ar.eq c 0],.bL,[])
     | .bL=>some ([ar.eq a 0,ar.eq b 0,ar.eq c 0],.bL,[])
     |_=>none
    |_,_,_=>none
   |none=>none
  |none =>
   match x.ev env with
   | .sl id t l n=>if t.sz=ej then
    (match bV env 0 lo,bV env (Int.ofNat n) hi with
    |some a,some b=>some ([ar.le 0 a,ar.le a b,ar.le b (Int.ofNat n)],.sl id t (ar.EU l (ar.sn a)) (ar.Lf (ar.sn b) (ar.sn a)),[])
    |_,_=>none) else none
   | .ew t xs=>if t.sz=ej then
    (match bV env 0 lo,bV env (Int.ofNat (ar.len xs)) hi with
    |some a,some b=>some ([ar.le 0 a,ar.le a b,ar.le b (Int.ofNat (ar.len xs))],.ew t (ar.sub' xs (ar.sn a) (ar.Lf (ar.sn b) (ar.sn a))),[])
    |_,_=>none) else none
   | .bL=>(match bV env 0 lo,bV env 0 hi with
    |some a,some b=>some ([ar.eq a 0,ar.eq b 0],.bL,[])
    |_,_=>none)
   |_=>none
def JC (ar:Ar) (mx:Bool) (x:O) (ys:List O) (env:List (Nat×V)) (bl:ah) (aB:Nat):Out:=match x.ev env with
  | .int k a=>match iA ar mx k a (ys.map (·.ev env)) with
   |some z=>some ([],.int k z,[])
   |none=>none
  |_=>none
def Ut (ar:Ar) (i:I) (env:List (Nat×V)) (bl:ah) (aB:Nat):Out:=match i with
 | .mv x=>aaz ar x env bl aB
 | .pick c a b=>QB ar c a b env bl aB
 | .alloc z=>Me ar z env bl aB
 | .box x=>Wk ar x env bl aB
 | .build z parts=>Mf ar z parts env bl aB
 | .dH t xs=>JA ar t xs env bl aB
 | .load agg k x=>QC ar agg k x env bl aB
 | .store k a x=>Mh ar k a x env bl aB
 | .bin op x y=>Wl ar op x y env bl aB
 | .P0 neg x y=>Wm ar neg x y env bl aB
 | .eqs neg ks x y=>Wn ar neg ks x y env bl aB
 | .neg x=>Wo ar x env bl aB
 | .not x=>Wp ar x env bl aB
 | .conv k x=>QD ar k x env bl aB
 | .mb off path x=>Wq ar off path x env bl aB
 | .field agg off k x=>Mi ar agg off k x env bl aB
 | .idx ej x i=>Wr ar ej x i env bl aB
 | .yh len ej x i=>QE ar len ej x i env bl aB
 | .ext k x=>Ws ar k x env bl aB
 | .len x=>Wt ar x env bl aB
 | .lens x=>QF ar x env bl aB
 | .yj n=>QG ar n env bl aB
 | .append ej x y=>JB ar ej x y env bl aB
 | .iz t n=>Fs ar t n env bl aB
 | .Ai f a b=>QH ar f a b env bl aB
 | .slice ej x lo hi mx=>Mj ar ej x lo hi mx env bl aB
 | .lp mx x ys=>JC ar mx x ys env bl aB
 | .ex e xs=>iI ar e (xs.map (·.ev env)) bl aB
theorem Mk {ar:Ar} {i:I} {env:List (Nat×V)} {bl:ah} {aB:Nat}:Ut ar i env bl aB=bM ar i env bl aB:=by cases i<;>rfl
structure Rn where
 call:Nat→List V→aG→Option (V×aG)
 round:Nat→List V→aG→Option (V×aG)
 gE:Nat→List V→Option V
 loop:Nat→Option Nat→C→St→Option (Ex×St)
section
variable {P:Program} {N:Nat} {Y:Ctx} {ι ι':ai} {μ μ':Mu} {H:aG} {w w':World} {out:Option Nat} {base:Nat}
structure RnOk (P:Program) (rn:Rn):Prop where
 call:∀{f vs H v H'},rn.call f vs H=some (v,H')→gH P f vs H fun v2 H2=>v2=v∧H2=H'
 round:∀{id vs H v H'},rn.round id vs H=some (v,H')→around P id vs H fun v2 H2=>v2=v∧H2=H'
 gE:∀{f vs v},rn.gE f vs=some v→gE P f vs v
 loop:∀{N out base c S e S' K},rn.loop N out c S=some (e,S')→K e S'→∃n,unr (fh P N out base) c n S K
 mixed:P.follows .mixedOrders=true
theorem AV {ar : Ar} {d : Option Nat} {i : I} {S : St} {K : St → Prop} {ob : List Bool} {v : V} {u : dZ} (ag : bM ar i S.env S.H.bl S.H.next = some (ob, v, u)) (cI : uk ob)
  (hk:K ⟨put d v S.env,⟨K0 i.lays S.H.next,bg u S.H.bl⟩,S.ms⟩):wpOp ar d i S K:=by
 refine .inl ?_
 unfold qy
 rw [ag]
 cases ob with
 |nil=>exact hk
 |cons b r=>exact ⟨cI,hk⟩
theorem Wu {ar : Ar} {d : Option Nat} {i : I} {S : St} {K : St → Prop} {ob : List Bool} {v : V} {u : dZ} (ag : ym ar i S.env S.H.bl S.H.next = some (ob, v, u)) (cI : uk ob)
  (hk:K ⟨put d v S.env,⟨K0 i.lays S.H.next,bg u S.H.bl⟩,S.ms⟩):wpOp ar d i S K:=by
 refine .inr (.inl ?_)
 unfold qy
 rw [ag]
 cases ob with
 |nil=>exact hk
 |cons b r=>exact ⟨cI,hk⟩
theorem Wv {ar : Ar} {d : Option Nat} {i : I} {S : St} {K : St → Prop} {ob : List Bool} {v : V} {u u' : dZ} {ids : List Nat} (hu : KZ ar ids S.H.bl = some u') (ag : bM ar i S.env (bg u' S.H.bl) S.H.next = some (ob, v, u)) (cI : uk ob)
  (hk:K ⟨put d v S.env,⟨K0 i.lays S.H.next,bg u (bg u' S.H.bl)⟩,S.ms⟩):wpOp ar d i S K:=by
 refine .inr (.inr ⟨ids,u',hu,?_⟩)
 unfold qy
 rw [ag]
 cases ob with
 |nil=>exact hk
 |cons b r=>exact ⟨cI,hk⟩
end
end Go.AM
end
section
namespace Go.AM
open Go.RowKit
def jX (P : Program) (g : TypeId → Ty → Bool) : Nat → List Field → Ty → Bool
 |_,[],.unit=>true
 |off,[f],ty=>Nat.beq f.offset off&&Nat.beq (P.cellsOf f.type) ty.sz&&g f.type ty
 |off,f::f2::r,.prod a b=>Nat.beq f.offset off&&Nat.beq (P.cellsOf f.type) a.sz&&g f.type a&&jX P g (off+a.sz) (f2::r) b
 |_,_,_=>false
def zq (P:Program) (g:TypeId→Ty→Bool) (fs:List Field) (ty:Ty):Bool:=match fs with
 |[f]=>match ty with
  | .prod a .unit=>jX P g 0 [f] a
  |_=>false
 |fs=>jX P g 0 fs ty
def zu (P : Program) (g : TypeId → Ty → Bool) : Nat → TypeId → Ty → Bool
 |0,_,.unit=>true
 |1,e,ty=>Nat.beq (P.cellsOf e) ty.sz&&g e ty
 |n+2,e,.prod a b=>Nat.beq (P.cellsOf e) a.sz&&g e a&&zu P g (n+1) e b
 |_,_,_=>false
def fF (P : Program) : Nat → TypeId → Ty → Bool
 |0,_,_=>false
 |n+1,t,ty=>match P.underlying t with
  |some .bool=>match ty with | .bool=>true|_=>false
  |some (.int k)=>match ty with | .int k'=>decide (k=k')|_=>false
  |some .string=>match ty with | .str=>true|_=>false
  |some (.slice e)=>match ty with | .list te=>Nat.beq (P.cellsOf e) te.sz&&Nat.blt 0 te.sz&&fF P n e te|_=>false
  |some (.struct fs)=>Nat.beq (P.cellsOf t) ty.sz&&zq P (fF P n) fs.toList ty
  |some (.array m e)=>Nat.beq (P.cellsOf t) ty.sz&&zu P (fF P n) m e ty
  |_=>false
def Wf : (t : Ty) → t.den → Prop
 | .unit,_=>True
 | .bool,_=>True
 | .str,s=>s.size≤maxLen
 | .int k,n=>k.min≤n∧n≤k.max
 | .list t,xs=>xs.length≤maxLen∧∀x∈xs,Wf t x
 | .prod a b,x=>Wf a x.1∧Wf b x.2
 | .bT _ _ a,x=>Wf a x
def jm (w:World):ai:=fun b o=>w.cell? ⟨b,o,none⟩
section
variable {H:Type} {enc:TypeId×Value→H} {P:Program} {w:World} {sp:Nat→Bool} {held:Bool}
theorem AW {b o:Nat} {a:Addr} {n:Nat} {cs:List Value} (ha:a=⟨b,o,none⟩∨0<n) (hb:a.block=b) (ho:a.off=o) (h:w.cells? 0 a n=some cs):cs.length=n∧Reads (jm w) b o cs∧(0<n→a.spot=none):=by
 unfold World.cells? at h
 rw [if_pos (Nat.zero_le _)] at h
 have key:∀(m:Nat) (xs:List Nat) (cs:List Value),xs.mapM (fun i=>w.cell? (a.add i))=some cs→cs.length=xs.length∧∀(j i:Nat),xs[j]?=some i→w.cell? (a.add i)=cs[j]?:=by
  intro m xs
  induction xs with
  |nil=>intro cs h;simp at h;subst h;exact ⟨rfl,fun j i hj=>by simp at hj⟩
  |cons x xs ih =>
   intro cs h
   rw [List.mapM_cons] at h
   cases hx:w.cell? (a.add x) with
   |none=>simp [hx] at h
   |some v =>
    cases hr:xs.mapM (fun i=>w.cell? (a.add i)) with
    |none=>simp [hx,hr] at h
    |some vs =>
     simp [hx,hr] at h
     subst h
     obtain ⟨h1,h2⟩:=ih vs hr
     refine ⟨by simp [h1],fun j i hj=>?_⟩
     cases j with
     |zero=>simp at hj;subst hj;simpa using hx
     |succ j=>simpa using h2 j i (by simpa using hj)
 obtain ⟨h1,h2⟩:=key 0 _ _ h
 have hlen:cs.length=n:=by simpa using h1
 have Ml:0<n→a.spot=none:=fun hn=>by
  have:=h2 0 0 (by simp [hn])
  simp only [Addr.add,if_true] at this
  have hc:∃v,w.cell? a=some v:=⟨cs[0]'(by omega),by rw [this];simp⟩
  obtain ⟨v,hv⟩:=hc
  unfold World.cell? at hv
  cases hs:a.spot with
  |none=>rfl
  |some s=>rw [hs] at hv;split at hv<;>simp at hv
 refine ⟨hlen,fun j v hv=>?_,Ml⟩
 have hj:j<cs.length:=(List.getElem?_eq_some_iff.1 hv).1
 have:=h2 j j (by rw [List.getElem?_range (by omega)])
 rw [hv] at this
 unfold jm
 have e:a.add j=⟨b,o+j,none⟩:=by
  have hs:=Ml (by omega)
  unfold Addr.add
  subst hb;subst ho
  split
  ·rename_i h0;subst h0;cases a;simp_all
  ·rfl
 rw [e] at this
 exact this
theorem HA {α : Type} {D : α → List Value → Prop} : ∀ (n : Nat) (f : Nat → α) (g : Nat → List Value), (∀ i, i < n → D (f i) (g i)) → aY D ((List.range n).map f) ((List.range n).flatMap g)
 |0,_,_,_=>rfl
 |n+1,f,g,h=>by
  rw [List.range_succ,List.map_append,List.flatMap_append]
  exact (HA n f g fun i hi=>h i (by omega)).append ⟨g n,[],by simp,h n (by omega),rfl⟩
theorem QI {k:IntKind} {n:Int} (h:(Lit.int k n).wf=true):k.min≤n∧n≤k.max:=by
 simpa [Lit.wf] using h
theorem pZ {n : Nat} (ih : ∀ {t : TypeId} {ty : Ty}, fF P n t ty = true → ∀ {fuel : Nat} {cs : List Value} {x : DataW H × List MemPlace}, DataW.trod enc P w 0 sp held fuel t cs = some x → ∃ y : ty.den, aa (jm w) ty y cs ∧ Wf ty y)
  {fuel:Nat} {cs:List Value}:∀{fs:List Field} {off:Nat} {ty:Ty},jX P (fF P n) off fs ty=true→cs.length=off+ty.sz →
   (∀f∈fs,∃x,DataW.trod enc P w 0 sp held fuel f.type ((cs.drop f.offset).take (P.cellsOf f.type))=some x)→∃y:ty.den,aa (jm w) ty y (cs.drop off)∧Wf ty y
 |[],off,ty,h,hl,_=>by
  cases ty<;>simp [jX] at h
  exact ⟨(),by simp [aa];simp [Ty.sz] at hl;omega,trivial⟩
 |[f],off,ty,h,hl,hf=>by
  have h':(Nat.beq f.offset off&&Nat.beq (P.cellsOf f.type) ty.sz&&fF P n f.type ty)=true:=by
   cases ty<;>simpa [jX] using h
  simp only [Bool.and_eq_true] at h'
  obtain ⟨⟨h1,h2⟩,h3⟩:=h'
  have e1:=Nat.eq_of_beq_eq_true h1
  have e2:=Nat.eq_of_beq_eq_true h2
  obtain ⟨x,hx⟩:=hf f (List.mem_singleton_self _)
  rw [e1,e2,List.take_of_length_le (by simp;omega)] at hx
  exact ih h3 hx
 |f::f2::r,off,ty,h,hl,hf=>by
  cases ty<;>simp only [jX,Bool.false_eq_true] at h
  rename_i a b
  simp only [Bool.and_eq_true] at h
  obtain ⟨⟨⟨h1,h2⟩,h3⟩,h4⟩:=h
  have e1:=Nat.eq_of_beq_eq_true h1
  have e2:=Nat.eq_of_beq_eq_true h2
  obtain ⟨x,hx⟩:=hf f (List.mem_cons_self ..)
  rw [e1,e2] at hx
  obtain ⟨y,hy,wy⟩:=ih h3 hx
  simp only [Ty.sz] at hl
  obtain ⟨z,hz,wz⟩:=pZ ih h4 (by omega) (fun g hg=>hf g (List.mem_cons_of_mem _ hg))
  refine ⟨(y,z),⟨_,_,?_,hy,hz⟩,wy,wz⟩
  rw [←List.drop_drop,List.take_append_drop]
theorem HB {n : Nat} (ih : ∀ {t : TypeId} {ty : Ty}, fF P n t ty = true → ∀ {fuel : Nat} {cs : List Value} {x : DataW H × List MemPlace}, DataW.trod enc P w 0 sp held fuel t cs = some x → ∃ y : ty.den, aa (jm w) ty y cs ∧ Wf ty y)
  {fuel:Nat} {cs:List Value} {e:TypeId}:∀{m i:Nat} {ty:Ty},zu P (fF P n) m e ty=true→cs.length=i * P.cellsOf e+ty.sz →
   (∀j,i≤j→j<i+m→∃x,DataW.trod enc P w 0 sp held fuel e ((cs.drop (j * P.cellsOf e)).take (P.cellsOf e))=some x)→∃y:ty.den,aa (jm w) ty y (cs.drop (i * P.cellsOf e))∧Wf ty y
 |0,i,ty,h,hl,_=>by
  cases ty<;>simp [zu] at h
  exact ⟨(),by simp [aa];simp [Ty.sz] at hl;omega,trivial⟩
 |1,i,ty,h,hl,hf=>by
  have h':(Nat.beq (P.cellsOf e) ty.sz&&fF P n e ty)=true:=by
   cases ty<;>simpa [zu] using h
  simp only [Bool.and_eq_true] at h'
  have e2:=Nat.eq_of_beq_eq_true h'.1
  obtain ⟨x,hx⟩:=hf i (Nat.le_refl _) (by omega)
  rw [List.take_of_length_le (by rw [List.length_drop];omega)] at hx
  exact ih h'.2 hx
 |m+2,i,ty,h,hl,hf=>by
  cases ty<;>simp only [zu,Bool.false_eq_true] at h
  rename_i a b
  simp only [Bool.and_eq_true] at h
  obtain ⟨⟨h1,h3⟩,h4⟩:=h
  have e2:=Nat.eq_of_beq_eq_true h1
  obtain ⟨x,hx⟩:=hf i (Nat.le_refl _) (by omega)
  obtain ⟨y,hy,wy⟩:=ih h3 hx
  simp only [Ty.sz] at hl
  obtain ⟨z,hz,wz⟩:=HB ih h4 (i:=i+1) (by rw [Nat.add_mul];omega) (fun j h1 h2=>hf j (by omega) (by omega))
  refine ⟨(y,z),⟨_,_,?_,hy,hz⟩,wy,wz⟩
  rw [show (i+1) * P.cellsOf e=i * P.cellsOf e+P.cellsOf e by rw [Nat.add_mul];omega,←List.drop_drop,List.take_append_drop]
theorem Mm {n:Nat}:∀{t:TypeId} {ty:Ty},fF P n t ty=true→∀{fuel:Nat} {cs:List Value} {x:DataW H×List MemPlace},DataW.trod enc P w 0 sp held fuel t cs=some x→∃y:ty.den,aa (jm w) ty y cs∧Wf ty y:=by
 induction n with
 |zero=>intro t ty h;cases h
 |succ n ih =>
  intro t ty h fuel cs x hx
  have hx0:=hx
  unfold fF at h
  split at h
  ·rename_i hu
   cases ty<;>simp at h
   cases fuel with
   |zero=>simp [DataW.trod] at hx
   |succ fuel =>
    rcases cs with _|⟨c,_|⟨c2,r⟩⟩
    ·simp [DataW.trod,hu] at hx
    ·cases c <;> simp [DataW.trod, hu] at hx
     exact ⟨_,rfl,trivial⟩
    ·simp [DataW.trod,hu] at hx
  ·rename_i k hu
   cases ty<;>simp at h
   subst h
   cases fuel with
   |zero=>simp [DataW.trod] at hx
   |succ fuel =>
    rcases cs with _|⟨c,_|⟨c2,r⟩⟩
    ·simp [DataW.trod,hu] at hx
    ·cases c <;> simp [DataW.trod, hu] at hx
     obtain ⟨⟨rfl,h2⟩,_⟩:=hx
     exact ⟨_,rfl,QI h2⟩
    ·simp [DataW.trod,hu] at hx
  ·rename_i hu
   cases ty<;>simp at h
   cases fuel with
   |zero=>simp [DataW.trod] at hx
   |succ fuel =>
    rcases cs with _|⟨c,_|⟨c2,r⟩⟩
    ·simp [DataW.trod,hu] at hx
    ·cases c <;> simp [DataW.trod, hu] at hx
     exact ⟨_,rfl,hx.1⟩
    ·simp [DataW.trod,hu] at hx
  ·rename_i e hu
   cases ty<;>simp only [Bool.false_eq_true] at h
   rename_i te
   simp only [Bool.and_eq_true] at h
   obtain ⟨⟨h1,h2⟩,h3⟩:=h
   have e1:=Nat.eq_of_beq_eq_true h1
   have hpos:0<te.sz:=by simpa using h2
   rcases DataW.trod_slice hu hx with ⟨rfl,rfl⟩|⟨a,len,cap,elems,rest,m,_,rfl,rfl,_,hlc,hm,hel,hE,_,_⟩
   ·exact ⟨[],⟨none,0,by simp,by simp,.inl rfl⟩,by simp,by simp⟩
   ·have each:∀i,i<len→∃(y:te.den) (us:List Value),aa (jm w) te y us∧Wf te y∧us.length=te.sz∧Reads (jm w) a.block (a.off+i * te.sz) us∧(i=0→a.spot=none):=fun i hi=>by
     have:=hE i hi
     have hlt:i<elems.length:=by omega
     rw [List.getElem?_eq_getElem hlt,e1] at this
     cases hc:w.cells? 0 (a.add (i * te.sz)) te.sz with
     |none=>rw [hc] at this;simp at this
     |some us =>
      rw [hc,Option.bind_some] at this
      obtain ⟨y,hy,wy⟩:=ih h3 this
      have hb:(a.add (i * te.sz)).block=a.block:=by unfold Addr.add;split<;>rfl
      have ho:(a.add (i * te.sz)).off=a.off+i * te.sz:=by unfold Addr.add;split<;>simp_all
      obtain ⟨q1,q2,q3⟩:=AW (.inr hpos) hb ho hc
      refine ⟨y,us,hy,wy,q1,q2,fun h0=>?_⟩
      subst h0
      have:=q3 hpos
      simpa [Addr.add] using this
    by_cases hl0:len=0
    ·subst hl0
     exact ⟨[],⟨some a,cap,rfl,by simp,.inl rfl⟩,by simp,by simp⟩
    ·obtain ⟨f,hf⟩:∃f:Nat→te.den×List Value,∀i,i<len→aa (jm w) te (f i).1 (f i).2∧Wf te (f i).1∧(f i).2.length=te.sz∧Reads (jm w) a.block (a.off+i * te.sz) (f i).2∧(i=0→a.spot=none) :=
      ⟨fun i=>if h:i<len then ((each i h).choose,(each i h).choose_spec.choose) else (te.zero,[]),fun i hi=>by simp only [hi,dif_pos];exact (each i hi).choose_spec.choose_spec⟩
     have Ml:=(hf 0 (by omega)).2.2.2.2 rfl
     have hrd:∀n,n≤len→((List.range n).flatMap fun i=>(f i).2).length=n * te.sz∧Reads (jm w) a.block a.off ((List.range n).flatMap fun i=>(f i).2):=fun n=>by
      induction n with
      |zero=>intro _;exact ⟨by simp,fun j v hv=>by simp at hv⟩
      |succ n ih2 =>
       intro hn
       obtain ⟨l1,l2⟩:=ih2 (by omega)
       obtain ⟨_,_,l3,l4,_⟩:=hf n (by omega)
       rw [List.range_succ,List.flatMap_append]
       simp only [List.flatMap_cons,List.flatMap_nil,List.append_nil]
       refine ⟨by rw [List.length_append,l1,l3,Nat.add_mul];simp,fun j v hv=>?_⟩
       rw [List.getElem?_append] at hv
       split at hv
       ·exact l2 j v hv
       ·rename_i hj
        have:=l4 _ _ hv
        rw [l1] at this hj
        rw [show a.off+n * te.sz+(j - n * te.sz)=a.off+j by omega] at this
        exact this
     refine ⟨(List.range len).map fun i=>(f i).1,⟨some a,cap,by simp,by simpa using hlc,.inr ⟨a.block,a.off,(List.range len).flatMap fun i=>(f i).2,by cases a;simp_all,(hrd len (Nat.le_refl _)).2,HA _ _ _ fun i hi=>(hf i hi).1⟩⟩,by simp;omega,fun x hx=>?_⟩
     obtain ⟨i,hi,rfl⟩:=List.mem_map.1 hx
     exact (hf i (List.mem_range.1 hi)).2.1
  ·rename_i fs hu
   simp only [Bool.and_eq_true] at h
   obtain ⟨h1,h2⟩:=h
   obtain ⟨xs,m,_,_,hl,ZB,hf⟩:=DataW.trod_struct hu hx
   have ZG:∀f∈fs.toList,∃y,DataW.trod enc P w 0 sp held m f.type ((cs.drop f.offset).take (P.cellsOf f.type))=some y:=fun f ZG=>by
    obtain ⟨i,hi⟩:=List.getElem?_of_mem ZG
    have hi':fs[i]?=some f:=by simpa using hi
    have hlt:i<xs.length:=by rw [ZB];exact (Array.getElem?_eq_some_iff.1 hi').1
    exact ⟨xs[i],by rw [hf i f hi'];simp⟩
   have hlen:cs.length=ty.sz:=by rw [hl,Nat.eq_of_beq_eq_true h1]
   unfold zq at h2
   split at h2
   ·rename_i f hfs
    split at h2<;>try (cases h2;done)
    rename_i a
    have:=pZ ih (fuel:=m) (cs:=cs) h2 (by simpa [Ty.sz] using hlen) (fun f' hf'=>by rw [←hfs] at hf';exact ZG f' hf')
    obtain ⟨y,hy,wy⟩:=this
    exact ⟨(y,()),⟨cs,[],by simp,by simpa using hy,rfl⟩,wy,trivial⟩
   ·have := pZ ih (fuel := m) (cs := cs) h2 (by simpa using hlen) ZG
    simpa using this
  ·rename_i m e hu
   simp only [Bool.and_eq_true] at h
   obtain ⟨h1,h2⟩:=h
   obtain ⟨xs,k,_,_,hl,ZB,hf⟩:=DataW.trod_array hu hx
   have:=HB ih (fuel:=k) (cs:=cs) (i:=0) h2 (by rw [hl,Nat.eq_of_beq_eq_true h1];simp) (fun j _ hj=>⟨xs[j]'(by omega),by rw [hf j (by omega)];simp⟩)
   simpa using this
  ·cases h
end
end Go.AM
end
section
namespace Go.AM
inductive EV (π : List Nat) : V → V → Prop
 |any (v):EV π .any v
 |tf (b):EV π (.tf b) (.tf b)
 |bool (b):EV π (.bool b) (.bool b)
 |tfb (b):EV π (.bool b) (.tf b)
 |int (k n):EV π (.int k n) (.int k n)
 |str (s):EV π (.str s) (.str s)
 |dY:EV π .dY .dY
 |b7:EV π .b7 .b7
 |eP:EV π .eP .eP
 |ew (t xs):EV π (.ew t xs) (.ew t xs)
 |Ww (t):EV π (.ew t []) .bL
 |bL:EV π .bL .bL
 |sl (id i t lo n) (h:π[id]?=some i):EV π (.sl id t lo n) (.sl i t lo n)
 |Wx (id t lo):EV π (.sl id t lo 0) .bL
 |ptr (id i o) (h:π[id]?=some i):EV π (.ptr id o) (.ptr i o)
 |ep (id i t j p) (h:π[id]?=some i):EV π (.ep id t j p) (.ep i t j p)
 |yl (id i) (h:π[id]?=some i):EV π (.yl id) (.yl i)
 |ip (t x):EV π (.ip t x) (.ip t x)
 |eW (cs ds) (h:cs.length=ds.length) (h2:∀(i:Nat) v u,cs[i]?=some v→ds[i]?=some u→EV π v u):EV π (.eW cs) (.eW ds)
 | fn (f as as' cs cs') (h : as.length = as'.length) (h2 : ∀ (i : Nat) v u, as[i]? = some v → as'[i]? = some u → EV π v u)
   (h3:cs.length=cs'.length) (h4:∀(i:Nat) v u,cs[i]?=some v→cs'[i]?=some u→EV π v u):EV π (.fn f as cs) (.fn f as' cs')
 |agg (cs ds) (h:cs.length=ds.length) (h2:∀(i:Nat) v u,cs[i]?=some v→ds[i]?=some u→EV π v u):EV π (.agg cs) (.agg ds)
 |cw (cs ds) (h:cs.length=ds.length) (h2:∀(i:Nat) v u,cs[i]?=some v→ds[i]?=some u→EV π v u):EV π (.cw cs) (.cw ds)
 |bT (t v u) (h:EV π v u):EV π (.bT t v) (.bT t u)
 |cb (c):EV π (.cb c) (.cb c)
 |mp (id i) (h:π[id]?=some i):EV π (.mp id) (.mp i)
 |bX:EV π .bX .bX
 |pa (id i t n) (h:π[id]?=some i):EV π (.pa id t n) (.pa i t n)
 |kH (t xs):EV π (.kH t xs) (.kH t xs)
def Ce (π:List Nat) (cs ds:List V):Prop:=cs.length=ds.length∧∀(i:Nat) v u,cs[i]?=some v→ds[i]?=some u→EV π v u
theorem Ce.nil {π:List Nat}:Ce π [] []:=⟨rfl,fun i v u h=>by simp at h⟩
theorem Ce.cons {π:List Nat} {v u:V} {cs ds:List V} (h:EV π v u) (hl:Ce π cs ds):Ce π (v::cs) (u::ds) :=
 ⟨by simp [hl.1],fun i w y hw hy=>by
  cases i with
  |zero=>simp at hw hy;subst hw;subst hy;exact h
  |succ i=>exact hl.2 i w y (by simpa using hw) (by simpa using hy)⟩
def EE (π:List Nat) (env' env:List (Nat×V)):Prop:=∀p∈env',EV π p.2 (get p.1 env)
def ZL (π:List Nat) (nx:Nat) (bl:ah) (id:Nat) (B:kF):Prop:=∃i,π[id]?=some i∧match B with
 | .cells cs fz=>∃ds,aj i bl=some (.cells ds fz)∧Ce π cs ds
 | .arr t xs fz=>aj i bl=some (.arr t xs fz)∨(xs=[]∧nx≤i)
 | .loop st j d env ps as bd N=>∃d0 jA,aj i bl=some (.loop st j d0 jA ps as bd N)∧π[d]?=some d0∧EE π env jA
 | .gQ=>aj i bl=some .gQ
 | .map kt kg vt vg es=>aj i bl=some (.map kt kg vt vg es)
 | .l8 t xs k p v=>∃u,aj i bl=some (.l8 t xs k p u)∧EV π v u
structure ja (base:Nat) (π:List Nat) (S S':St):Prop where
 pre:π.take base=List.range base
 nx:S'.H.next=π.length
 ms:S'.ms.map (fun i=>π[i]?)=S.ms.map some
 env:EE π S'.env S.env
 bl:∀p∈S'.H.bl,ZL π S.H.next S.H.bl p.1 p.2
 inj:∀p∈S'.H.bl,∀q∈S'.H.bl,π[p.1]?=π[q.1]?→p.1=q.1
section
variable {P:Program} {N:Nat} {Y:Ctx} {ι ι':ai} {μ μ':Mu} {H:aG} {w w':World} {out:Option Nat} {base:Nat} {π:List Nat}
theorem aH.eF {cs ds:List V} {xs:List Value} (h:cs.length=ds.length) (ih:∀(i:Nat) v u,cs[i]?=some v→ds[i]?=some u→∀{x:Value},Rel ι μ u x→Rel ι (μ.eF π) v x) (hr:aH ι μ ds xs):aH ι (μ.eF π) cs xs :=
 ⟨h.trans hr.1,fun i v x hv hx=>by
  have hi:i<ds.length:=by have:=(List.getElem?_eq_some_iff.1 hv).1;omega
  exact ih i v ds[i] hv (by simp [hi]) (hr.2 i ds[i] x (by simp [hi]) hx)⟩
theorem EV.rel {v' v:V} (h:EV π v' v):∀{x:Value},Rel ι μ v x→Rel ι (μ.eF π) v' x:=by
 induction h with
 |any v=>intro x _;exact .any _
 |tf b=>intro x hr;cases hr;exact .tf _
 |bool b=>intro x hr;cases hr;exact .bool _
 |tfb b=>intro x hr;cases hr;exact .bool _
 |int k n=>intro x hr;cases hr;exact .int _ _
 |str s=>intro x hr;cases hr;exact .str _
 |dY=>intro x hr;cases hr;exact .dY
 |b7=>intro x hr;cases hr;exact .b7
 |eP=>intro x hr;cases hr;exact .eP
 |ew t xs=>intro x hr;cases hr with|ew _ _ _ hd=>exact .ew t xs _ hd
 |Ww t=>intro x hr;cases hr;exact .ew _ _ _ ⟨_,0,rfl,Nat.le_refl _,.inl rfl⟩
 |bL=>intro x hr;cases hr;exact .bL _
 |sl id i t lo n hi =>
  intro x hr
  cases hr with
  |sl _ _ _ _ cap L hL h1 h2 h3=>exact .sl id t lo n cap L (by simp [Mu.eF,hi,hL]) h1 h2 h3
  |cB=>exact .cB _ _ _ _
 |Wx id t lo=>intro x hr;cases hr;exact .cB _ _ _ _
 |ptr id i o hi=>intro x hr;cases hr with|ptr _ _ L hL=>exact .ptr id o L (by simp [Mu.eF,hi,hL])
 |ep id i t j p hi=>intro x hr;cases hr with|ep _ _ _ _ L hL=>exact .ep id t j p L (by simp [Mu.eF,hi,hL])
 |yl id i hi=>intro x hr;cases hr with|yl _ L hL=>exact .yl id L (by simp [Mu.eF,hi,hL])
 |ip t y=>intro x hr;cases hr with|ip _ _ b o us h1 h2=>exact .ip t y b o us h1 h2
 |eW cs ds h h2 ih =>
  intro x hr
  cases hr with
  |eW _ b o gf h1 h3 h4 =>
   have hR:aH ι μ ds ((List.range ds.length).map gf):=⟨by simp,fun i v x hv hx=>by
    have hi:=(List.getElem?_eq_some_iff.1 hv).1
    simp [hi] at hx;subst hx;exact h3 i v hv⟩
   have gD:=aH.eF h ih hR
   exact .eW cs b o gf (fun i hi => h1 i (by omega)) (fun i v hv => gD.2 i v (gf i) hv (by
    have hi:=(List.getElem?_eq_some_iff.1 hv).1
    simp [show i<ds.length by omega])) h4
 |fn f as as' cs cs' h h2 h3 h4 ih1 ih2 =>
  intro x hr
  cases hr with
  |fn _ _ _ xs ys q1 q2 q3 q4 =>
   have r1:=aH.eF h ih1 (xs:=xs.toList) ⟨by simpa using q1,fun i v x hv hx=>q2 i v x hv (by simpa using hx)⟩
   have r2:=aH.eF h3 ih2 (xs:=ys.toList) ⟨by simpa using q3,fun i v x hv hx=>q4 i v x hv (by simpa using hx)⟩
   exact .fn f as cs xs ys (by simpa using r1.1) (fun i v x hv hx=>r1.2 i v x hv (by simpa using hx)) (by simpa using r2.1) (fun i v x hv hx=>r2.2 i v x hv (by simpa using hx))
 |agg cs ds h h2 ih =>
  intro x hr
  cases hr with
  |agg _ xs q1 q2 q3 =>
   have r1:=aH.eF h ih (xs:=xs.toList) ⟨by simpa using q1,fun i v x hv hx=>q2 i v x hv (by simpa using hx)⟩
   exact .agg cs xs (by simpa using r1.1) (fun i v x hv hx=>r1.2 i v x hv (by simpa using hx)) q3
 |cw cs ds h h2 ih =>
  intro x hr
  cases hr with
  |cw _ xs q1 q2 =>
   have r1:=aH.eF h ih (xs:=xs.toList) ⟨by simpa using q1,fun i v x hv hx=>q2 i v x hv (by simpa using hx)⟩
   exact .cw cs xs (by simpa using r1.1) (fun i v x hv hx=>r1.2 i v x hv (by simpa using hx))
 |bT t v u h ih=>intro x hr;cases hr with|bT _ _ x hx=>exact .bT t v x (ih hx)
 |cb c=>intro x hr;cases hr with|cb _ b hc=>exact .cb c b hc
 |mp id i hi=>intro x hr;cases hr with|mp _ L hL=>exact .mp id L (by simp [Mu.eF,hi,hL])
 |bX=>intro x hr;cases hr;exact .bX
 |pa id i t n hi=>intro x hr;cases hr with|pa _ _ _ L hL hm=>exact .pa id t n L (by simp [Mu.eF,hi,hL]) hm
 |kH t xs=>intro x hr;cases hr with|kH _ _ b o us h1 h2=>exact .kH t xs b o us h1 h2
theorem EE.rel {tmps : Array Value} {env : List (Nat × V)} (he : dV ι μ env tmps) : ∀ {env' : List (Nat × V)}, EE π env' env → dV ι (μ.eF π) env' tmps
 |[],_=>fun t=>.any _
 |(t,v)::r,h=>fun i=>by
  rw [bK];split
  ·rename_i e;subst e;exact (h _ (List.mem_cons_self ..)).rel (he _)
  ·exact EE.rel he (fun p hp=>h p (List.mem_cons_of_mem _ hp)) i
theorem cW : ∀ {bl : ah} {id : Nat} {b : kF}, aj id bl = some b → (id, b) ∈ bl
 |[],id,b,h=>by simp [aj] at h
 |(s,c)::r,id,b,h=>by
  rw [aT] at h
  split at h
  ·rename_i e;subst e;cases h;exact List.mem_cons_self ..
  ·exact List.mem_cons_of_mem _ (cW h)
theorem ja.rep {S S':St} (h:ja base π S S') (hbase:Y.base base) {a:Act} (hR:ek P N Y ι μ S a w):ek P N Y ι (μ.eF π) S' a w:=by
 have hI:=hR.inv
 have hle:Y.m0.le (μ.eF π):=fun id L hL=>by
  have hlt:id<base:=by
   rcases Nat.lt_or_ge id base with h|h
   ·exact h
   ·rw [hbase id h] at hL;cases hL
  have:π[id]?=some id:=by
   have e1:(π.take base)[id]?=(List.range base)[id]?:=by rw [h.pre]
   rw [List.getElem?_take,if_pos hlt,List.getElem?_range hlt] at e1
   exact e1
  simp [Mu.eF,this,hI.m0 id L hL]
 refine ⟨h.env.rel hR.env,hR.sz,⟨hI.below,hI.i0,hI.iB,hI.rd,hle,fun id hid=>?_,fun id B hB=>?_,?_,fun id B hB=>?_,hI.gl⟩,?_⟩
 ·have : π[id]? = none := List.getElem?_eq_none (by rw [← h.nx]; exact hid)
  simp [Mu.eF,this]
 ·obtain ⟨i, e1, hb⟩ := h.bl _ (cW hB)
  have fB:(μ.eF π) id=μ i:=by simp only [Mu.eF];rw [e1];rfl
  cases B with
  |cells cs fz =>
   obtain ⟨ds,e2,ag⟩:=hb
   obtain ⟨L,vs,hM,Hs⟩:=hI.live i _ e2
   exact ⟨L,vs,⟨by rw [fB];exact hM.mu,hM.old,hM.row,hM.fits,hM.one,hM.Co,hM.pz⟩,aH.eF ag.1 (fun i v u hv hu=>fun {x} hr=>(ag.2 i v u hv hu).rel hr) Hs⟩
  |arr t xs fz =>
   rcases hb with e2|⟨rfl,hge⟩
   ·rcases hI.live i _ e2 with ⟨e, hn⟩ | ⟨L, vs, hM, hc, hl⟩
    ·exact .inl ⟨e,by rw [fB];exact hn⟩
    ·exact .inr ⟨L,vs,⟨by rw [fB];exact hM.mu,hM.old,hM.row,hM.fits,hM.one,hM.Co,hM.pz⟩,hc,hl⟩
   ·exact .inl ⟨rfl,by rw [fB];exact hI.nx i hge⟩
  |loop st j d env ps as bd N =>
   obtain ⟨d0,jA,e2,e3,hee⟩:=hb
   obtain ⟨L,r,Ld,q1,q2,q3,q4,q5,q6,q7,q8,q9,q10,q11,q12,q13⟩:=hI.live i _ e2
   exact ⟨L,r,Ld,by rw [fB];exact q1,q2,q3,q4,q5,hee.rel q6,q7,q8,q9,q10,q11,by simp only [Mu.eF];rw [e3];exact q12,q13⟩
  |gQ =>
   obtain ⟨L,q1,q2,q3⟩:=hI.live i _ hb
   exact ⟨L,by rw [fB];exact q1,q2,q3⟩
  |map kt kg vt vg es =>
   obtain ⟨L,ms,clock,dg,q1,q2,q3⟩:=hI.live i _ hb
   exact ⟨L,ms,clock,dg,by rw [fB];exact q1,q2,q3⟩
  |l8 t xs k p v =>
   obtain ⟨u,e2,ag⟩:=hb
   obtain ⟨L,us,vs,c,hM,hc,hl,q1,q2,q3,q4⟩:=hI.live i _ e2
   exact ⟨L,us,vs,c,⟨by rw [fB];exact hM.mu,hM.old,hM.row,hM.fits,hM.one,hM.Co,hM.pz⟩,hc,hl,q1,q2,q3,ag.rel q4⟩
 ·intro id id' B B' L L' hb hb' hm hm' e
  obtain ⟨i,e1,hbk⟩:=h.bl _ (cW hb)
  obtain ⟨i',ED,hbk'⟩:=h.bl _ (cW hb')
  simp only at e1 ED
  have fB:(μ.eF π) id=μ i:=by simp only [Mu.eF];rw [e1];rfl
  have Wg:(μ.eF π) id'=μ i':=by simp only [Mu.eF];rw [ED];rfl
  rw [fB] at hm;rw [Wg] at hm'
  have live:∀{i:Nat} {B:kF} {id:Nat} {L:Loc},ZL π S.H.next S.H.bl id B→π[id]?=some i→μ i=some L→∃C,aj i S.H.bl=some C:=by
   intro i B id L hbk e hm
   obtain ⟨i2,e2,ez⟩:=hbk
   rw [e] at e2;cases e2
   cases B with
   |cells cs fz=>obtain ⟨ds,e2,_⟩:=ez;exact ⟨_,e2⟩
   |arr t xs fz =>
    rcases ez with e2|⟨_,hge⟩
    ·exact ⟨_,e2⟩
    ·rw [hI.nx i hge] at hm;cases hm
   |loop st j d env ps as bd N=>obtain ⟨d0,jA,e2,_⟩:=ez;exact ⟨_,e2⟩
   |gQ=>exact ⟨_,ez⟩
   |map kt kg vt vg es=>exact ⟨_,ez⟩
   |l8 t xs k p v=>obtain ⟨u,e2,_⟩:=ez;exact ⟨_,e2⟩
  obtain ⟨C,hC⟩:=live (h.bl _ (cW hb)) e1 hm
  obtain ⟨C',Qc⟩:=live (h.bl _ (cW hb')) ED hm'
  have:=hI.inj i i' C C' L L' hC Qc hm hm' e
  subst this
  exact h.inj _ (cW hb) _ (cW hb') (e1.trans ED.symm)
 ·obtain ⟨i, e1, _⟩ := h.bl _ (cW hB)
  have:=(List.getElem?_eq_some_iff.1 e1).1
  rw [h.nx];exact this
 ·have key:∀{ms ms':List Nat} {ds:List Deferred},ms'.map (fun i=>π[i]?)=ms.map some→iZ Y.hid μ ms ds→iZ Y.hid (μ.eF π) ms' ds:=by
   intro ms
   induction ms with
   |nil=>intro ms' ds e hm;cases ms'<;>simp at e;exact hm
   |cons i ms ih =>
    intro ms' ds e hm
    cases ms' with
    |nil=>simp at e
    |cons i' ms' =>
     simp only [List.map_cons,List.cons.injEq] at e
     obtain ⟨L,d,ds',q1,q2,q3,q4⟩:=hm
     exact ⟨L,d,ds',q1,by simp [Mu.eF,e.1,q2],q3,ih e.2 q4⟩
  exact key h.ms hR.ms
def jo {α β : Type} (step : α → Option (α ⊕ β)) : Nat → α → Option β
 |0,_=>none
 |n+1,x=>match step x with
  |none=>none
  |some (.inl y)=>jo step n y
  |some (.inr b)=>some b
noncomputable def iter {α β:Type} (step:α→Option (α ⊕ β)) (x:α):Option β:=by
 classical exact if h:∃n b,jo step n x=some b then some h.choose_spec.choose else none
theorem zw {α β : Type} {step : α → Option (α ⊕ β)} : ∀ {n m : Nat} {x : α} {b c : β}, jo step n x = some b → jo step m x = some c → b = c
 |0,_,_,_,_,h,_=>by cases h
 |_+1,0,_,_,_,_,h=>by cases h
 |n+1,m+1,x,b,c,h,h'=>by
  simp only [jo] at h h'
  split at h
  ·cases h
  ·rename_i y e;rw [e] at h';exact zw h h'
  ·rename_i b' e;rw [e] at h';cases h;cases h';rfl
theorem AX {α β:Type} {step:α→Option (α ⊕ β)} {n:Nat} {x:α} {b:β} (h:jo step n x=some b):iter step x=some b:=by
 unfold iter
 have h':∃n b,jo step n x=some b:=⟨n,b,h⟩
 rw [dif_pos h']
 exact congrArg some (zw h'.choose_spec.choose_spec h)
theorem sP {α β:Type} {step:α→Option (α ⊕ β)} {x:α} {b:β} (h:iter step x=some b):∃n,jo step n x=some b:=by
 unfold iter at h
 split at h
 ·rename_i h';cases h;exact ⟨_,h'.choose_spec.choose_spec⟩
 ·cases h
theorem nT {α β:Type} {step:α→Option (α ⊕ β)} {x y:α} {b:β} (h:step x=some (.inl y)) (h':iter step y=some b):iter step x=some b:=by
 obtain ⟨n,hn⟩:=sP h'
 exact AX (n:=n+1) (by simp [jo,h,hn])
theorem jY {α β:Type} {step:α→Option (α ⊕ β)} {x:α} {b:β} (h:step x=some (.inr b)):iter step x=some b :=
 AX (n:=1) (by simp [jo,h])
theorem JD (gJ : mA P N out base) {α β : Type} {I : α → St} {X : β → Ex × St} {step : α → Option (α ⊕ β)} {c : C}
  (hstep:∀x r,step x=some r→qF (fh P N out base) c (I x) fun e S'=>match r with
   | .inl y=>e = .normal∧∃π,ja base π S' (I y)
   | .inr b=>e ≠ .normal∧e=(X b).1∧∃π,ja base π S' (X b).2)
  {x:α} {b:β} (hx:iter step x=some b) {S:St} {π:List Nat} (hS:ja base π S (I x)) {K:Ex→St→Prop} (hK:K (X b).1 (X b).2):(fh P N out base).loop c S K:=by
 obtain ⟨n,hn⟩:=sP hx
 intro body hbody Y ι μ a w ho hb hR
 refine wpIn_loop_ghost (fun (n:Nat) a w=>∃Y1,Ext P Y Y1∧∃x ι μ,ek P N Y1 ι μ (I x) a w∧jo step n x=some b) id (x:=n) ⟨Y,.refl Y,x,ι,_,hS.rep hb hR,hn⟩ ?_
 rintro n a w ⟨Y0,PL,x,ι,μ,hR,hx⟩
 cases n with
 |zero=>cases hx
 |succ n =>
  simp only [jo] at hx
  split at hx
  ·cases hx
  ·rename_i y e
   refine wpIn_mono (Fe (gq gJ body hbody (hstep x _ e)) PL ho hb hR) fun e a' w' hp=>?_
   obtain ⟨Y1,hY,ι',μ',S',e',h1,h2,rfl,π',h3⟩:=hp
   cases h2
   exact ⟨n,⟨Y1,hY,y,ι',_,h3.rep (hY.tH hb) h1,hx⟩,Nat.lt_succ_self n⟩
  ·rename_i b' e
   cases hx
   refine wpIn_mono (Fe (gq gJ body hbody (hstep x _ e)) PL ho hb hR) fun e a' w' hp=>?_
   obtain ⟨Y1,hY,ι',μ',S',e',h1,h2,hne,h3,π',h4⟩:=hp
   have hp:Post P N Y K e a' w':=⟨Y1,hY,ι',_,_,_,h4.rep (hY.tH hb) h1,by rw [←h3];exact h2,hK⟩
   cases e' with
   |normal=>exact absurd rfl hne
   |exit id=>cases h2;exact hp
   |ret=>cases h2;exact hp
end
abbrev Env:=List (Nat×V)
section
variable {P:Program} {N:Nat} {Y:Ctx} {ι ι':ai} {μ μ':Mu} {H H':aG} {w w':World} {out:Option Nat} {base:Nat}
theorem Inv.junk (h:Inv P Y ι μ H w) (o:Obj):Inv P Y ι μ H (w.alloc o):=by
 have heap:∀k,k<w.heap.size→(w.alloc o).heap[k]?=w.heap[k]?:=fun k hk=>by
  show (w.heap.push o)[k]?=_
  rw [Array.getElem?_push];split
  ·omega
  ·rfl
 refine ⟨⟨h.below.os,h.below.tape,h.below.output,by have:=h.below.size;simp;omega,fun k hk hx=>?_,h.below.dr,fun k hk=>(h.below.maps k hk).trans (.eq (heap k (Nat.lt_of_lt_of_le hk h.below.size)))⟩,h.i0,h.iB,fun b o x hx=>?_,h.m0,h.nx,fun id B hB=>?_,h.inj,h.lt,h.gl⟩
 ·have := h.below.size
  rw [heap k (by omega)];exact h.below.block k hk hx
 ·have := h.rd b o x hx
  rw [World.cell?_alloc_lt _ _ _ (World.block_lt_of_cell? _ _ this)];exact this
 ·exact (h.live id B hB).mono (ai.le_refl _) (Mu.le_refl _) (fun h=>h) (fun L' hL'=>heap _ ((h.live id B hB).loc hL').2) (fun _ _ h=>h)
theorem dz.Uu {B:Nat→Prop} {id:Nat} {b:kF} (h:dz P B ι μ id w b) {L:Loc} (hL:μ id=some L) {r:Nat} {m:Option Nat} {s c:Nat} {seen:Array Nat} (hr:w.heap[r]?=some (.mapIter m s seen c)):L.b≠r:=by
 intro e
 subst e
 cases b with
 |cells cs fz =>
  obtain ⟨L',vs,hM,_⟩:=h
  have:=hM.mu;rw [hL] at this;cases this
  obtain ⟨c,e,h1,_⟩:=hM.row
  rw [hr] at h1;cases h1
 |arr t xs fz =>
  rcases h with ⟨_,h⟩|⟨L',vs,hM,_⟩
  ·rw [h] at hL;cases hL
  ·have := hM.mu; rw [hL] at this; cases this
   obtain ⟨c,e,h1,_⟩:=hM.row
   rw [hr] at h1;cases h1
 |loop st j d env ps as bd N =>
  obtain ⟨L',r,Ld,h1,h2,h3,_⟩:=h
  rw [hL] at h1;cases h1
  rw [hr] at h3;cases h3
 |gQ =>
  obtain ⟨L',h1,h2,h3⟩:=h
  rw [hL] at h1;cases h1
  rw [hr] at h3;cases h3
 |map kt kg vt vg es =>
  obtain ⟨L',ms,clock,dg,h1,h2,h3,_⟩:=h
  rw [hL] at h1;cases h1
  rw [hr] at h3;cases h3
 |l8 t xs i p v =>
  obtain ⟨L',us,vs,c,hM,_⟩:=h
  have:=hM.mu;rw [hL] at this;cases this
  obtain ⟨c,e,h1,_⟩:=hM.row
  rw [hr] at h1;cases h1
theorem Inv.side (h:Inv P Y ι μ H w) {r:Nat} {m:Option Nat} {s c:Nat} {seen:Array Nat} (hr:w.heap[r]?=some (.mapIter m s seen c)) (hown:Y.own r) (o:Obj):Inv P Y ι μ H (w.putObj r o):=by
 have bI:∀k,k≠r→(w.putObj r o).heap[k]?=w.heap[k]?:=fun k hk=>World.putObj_heap_other hk
 refine ⟨⟨h.below.os,h.below.tape,h.below.output,by rw [World.putObj_size];exact h.below.size,fun k hk hx=>?_,h.below.dr,fun k hk=>(h.below.maps k hk).trans ?_⟩,h.i0,h.iB,fun b o2 x hx=>?_,h.m0,h.nx,fun i B hB=>?_,h.inj,h.lt,h.gl⟩
 ·rw [bI k (Ctx.lu hown hk hx)];exact h.below.block k hk hx
 ·by_cases e : k = r
  ·subst e;rw [hr];exact .no fun _ _ e=>by cases e
  ·exact .eq (bI k e)
 ·have := h.rd b o2 x hx
  have hne:b≠r:=fun e=>by subst e;simp [World.cell?,hr] at this
  unfold World.cell? at this ⊢
  simp only at this ⊢
  rw [bI b hne];exact this
 ·exact (h.live i B hB).mono (ai.le_refl _) (Mu.le_refl _) (fun h=>h) (fun L' hL'=>bI _ ((h.live i B hB).Uu hL' hr)) (fun _ _ h=>h)
def Ctx.side (Y:Ctx) (w:World) (ι:ai) (μ:Mu) (r:Nat):Ctx:=⟨w,ι,μ,Y.ro,fun b=>Y.own b∧b≠r,Y.hid⟩
theorem Inv.into (h:Inv P Y ι μ H w) {r:Nat} {m:Option Nat} {s c:Nat} {seen:Array Nat} (hr:w.heap[r]?=some (.mapIter m s seen c)):Inv P (Y.side w ι μ r) ι μ H w :=
 ⟨GW.refl _ _,ai.le_refl _,fun _ _ _ _=>rfl,h.rd,Mu.le_refl _,h.nx,fun id B hB=>(h.live id B hB).owns fun L hL ho=>.inr ⟨ho,(h.live id B hB).Uu hL hr⟩,h.inj,h.lt,h.dc⟩
theorem Inv.aaB (h:Inv P Y ι μ H w) {r:Nat} (h2:Inv P (Y.side w ι μ r) ι' μ' H' w'):Inv P Y ι' μ' H' w':=by
 have hs:=h.below.size
 have hx2:∀k,k<Y.w0.heap.size→¬Y.x k→¬(Y.side w ι μ r).x k:=fun k hk hx hX=>by
  rcases hX.1 with h|h
  ·omega
  ·exact hx h
 have b2:=h2.below
 refine ⟨⟨b2.os.trans h.below.os,b2.tape.trans h.below.tape,b2.output.trans h.below.output,Nat.le_trans hs b2.size,fun k hk hx=>?_,Nat.le_trans h.below.dr b2.dr,fun k hk=>(h.below.maps k hk).trans (b2.maps k (Nat.lt_of_lt_of_le hk hs))⟩,
  ai.le_trans h.i0 h2.i0,fun b o hb hx=>?_,h2.rd,Mu.le_trans h.m0 h2.m0,h2.nx,fun id B hB=>(h2.live id B hB).owns fun L _ ho=>?_,h2.inj,h2.lt,h.gl⟩
 ·exact (b2.block k (Nat.lt_of_lt_of_le hk hs) (hx2 k hk hx)).trans (h.below.block k hk hx)
 ·exact (h2.iB b o (Nat.lt_of_lt_of_le hb hs) (hx2 b hb hx)).trans (h.iB b o hb hx)
 ·rcases ho with ho | ho
  ·exact .inl (Nat.le_trans hs ho)
  ·exact ho.1
end
def yz {E α β : Type} (step : E → α → Option (α ⊕ β)) : List E → α → Option (α ⊕ β)
 |[],x=>some (.inl x)
 |e::r,x=>match step e x with
  |none=>none
  |some (.inl y)=>yz step r y
  |some (.inr b)=>some (.inr b)
def zx {E α : Type} (step : E → α → Option α) : List E → α → Option α
 |[],x=>some x
 |e::r,x=>match step e x with
  |none=>none
  |some y=>zx step r y
noncomputable def ij {E B:Type} (f:List E→Option B) (es:List E):Option B:=by
 classical exact if h:∃b,∀l:List E,l.Perm es→f l=some b then some h.choose else none
theorem nU {E B:Type} {f:List E→Option B} {es:List E} {b:B} (h:ij f es=some b):∀l:List E,l.Perm es→f l=some b:=by
 unfold ij at h
 split at h
 ·rename_i h';cases h;exact h'.choose_spec
 ·cases h
theorem gr {E B:Type} {f:List E→Option B} {es:List E} {b:B} (h:∀l:List E,l.Perm es→f l=some b):ij f es=some b:=by
 have h':∃b,∀l:List E,l.Perm es→f l=some b:=⟨b,h⟩
 unfold ij
 rw [dif_pos h']
 have h1:=h'.choose_spec es (.refl _)
 rw [h es (.refl _)] at h1
 exact h1.symm▸rfl
noncomputable def jq {α:Type} (a b:α):Bool:=@decide (a=b) (Classical.propDecidable _)
theorem C2 {α:Type} {a b:α} (h:jq a b=true):a=b:=by simpa [jq] using h
@[simp] theorem dm {α:Type} (a:α):jq a a=true:=by simp [jq]
def dP : List Nat → Env → Env
 |[],env=>env
 |t::r,env=>(t,.any)::dP r env
def QJ (e:Option Nat) (kt:Ty) (kg:Bool) (vt:Ty) (vg:Bool) (x:kt.den×vt.den) (env:Env):Env:=match e with
 |none=>env
 |some s=>(s,.cw [bU.iH kg (bU kt x.1),bU.iH vg (bU vt x.2)])::env
section
variable {P:Program} {N:Nat} {Y:Ctx} {ι ι':ai} {μ μ':Mu} {H H':aG} {w w':World} {out:Option Nat} {base:Nat}
theorem p0 : ∀ {cl : List Nat} {env : Env} {t : Nat}, get t (dP cl env) = .any ∨ get t (dP cl env) = get t env
 |[],env,t=>.inr rfl
 |s::r,env,t=>by
  rw [dP,bK]
  split
  ·exact .inl rfl
  ·exact p0
theorem dV.forget {env:Env} {tmps:Array Value} (h:dV ι μ env tmps) (cl:List Nat):dV ι μ (dP cl env) tmps:=fun t=>by
 rcases p0 (cl:=cl) (env:=env) (t:=t) with e|e<;>rw [e]
 ·exact .any _
 ·exact h t
theorem dV.over {env:Env} {a:Act} (h:dV ι μ env a.tmps) {d:Nat} (hd:get d env = .any) (v:Value):dV ι μ env (a.put (some d) v).tmps:=fun t=>by
 by_cases e:d=t
 ·subst e;rw [hd];exact .any _
 ·have:(a.tmps.setIfInBounds d v).getD t undef=a.tmps.getD t undef:=by
   simp only [Array.getD_eq_getD_getElem?]
   rw [Array.getElem?_setIfInBounds_ne e]
  simp only [Act.put]
  rw [this];exact h t
theorem ek.over {S:St} {a:Act} (h:ek P N Y ι μ S a w) {d:Nat} (hd:get d S.env = .any) (v:Value):ek P N Y ι μ S (a.put (some d) v) w :=
 ⟨h.env.over hd v,by simp [Act.put,h.sz],h.inv,h.ms⟩
theorem AY {a:Act} {d:Nat} {v:Value} (hd:d<a.tmps.size):(a.put (some d) v).tmps.getD d undef=v:=by simp [Act.put,Array.getD,hd]
theorem Mn {a:Act} {d t:Nat} {v:Value} (h:d≠t):(a.put (some d) v).tmps.getD t undef=a.tmps.getD t undef:=by
 simp only [Act.put,Array.getD_eq_getD_getElem?]
 rw [Array.getElem?_setIfInBounds_ne h]
theorem Inv.name (h:Inv P Y ι μ H w) (L:Loc):Inv P Y ι (μ.set H.next L) ⟨H.next+1,H.bl⟩ w:=by
 have hn:=h.nx H.next (Nat.le_refl _)
 have hle:=Mu.fe (L:=L) hn
 have hne:∀id B,aj id H.bl=some B→id≠H.next:=fun id B hB=>Nat.ne_of_lt (h.lt id B hB)
 refine ⟨h.below,h.i0,h.iB,h.rd,Mu.le_trans h.m0 hle,fun id hid=>?_,fun id B hB=>?_,fun id id' B B' L1 L2 h1 h2 fE hm2 e=>?_,fun id B hB=>Nat.lt_succ_of_lt (h.lt id B hB),h.gl⟩
 ·simp only at hid
  unfold Mu.set;rw [if_neg (by omega)];exact h.nx id (by omega)
 ·exact (h.live id B hB).mono (ai.le_refl _) hle (fun hm=>by unfold Mu.set;rw [if_neg (hne id B hB)];exact hm) (fun _ _=>rfl) (fun _ _ h=>h)
 ·unfold Mu.set at fE hm2
  rw [if_neg (hne id B h1)] at fE
  rw [if_neg (hne id' B' h2)] at hm2
  exact h.inj id id' B B' L1 L2 h1 h2 fE hm2 e
theorem gu {o:Oper} (h:o.guard=none) (f:Nat→Option Bool):Region.wanted o f=true:=by
 unfold Region.wanted;rw [h]
theorem Ft {a b:Code} {hd:Uh} (h:vz P N a b=some hd):∃(ia:Nat) (yA:Array Oper) (o:Oper) (rr:List Oper) (t:TypeId) (x:Operand) (b3 i2:Nat) (sQ:Array Oper) (o1 o2:Oper) (n ok:Nat) (y:Code),
  a = .region ia yA false∧yA.toList=rr++[o]∧o.op = .range t x∧o.dst=some hd.it∧o.guard=none∧hd.it<N∧jN P t=some (hd.kt,hd.kg,hd.vt,hd.vg)∧de x=some hd.m∧dK P N yA rr=some hd.pre ∧
  b = .block hd.pg (.loop (.seq (.region i2 sQ false) (.seq (.cond (.tmp ok) .skip (.exit hd.pg)) (.block b3 y))))∧sQ.toList=[o1,o2]∧o1.op = .next (.tmp hd.it) false∧o1.dst=some n∧o1.guard=none ∧
  o2.op = .extract (.tmp n) 0∧o2.dst=some ok∧o2.guard=none∧n<N∧ok<N∧n≠hd.it∧ok≠hd.it∧hd.cl=[n,ok]∧hd.e=su N hd.it y:=by
 unfold vz at h
 split at h<;>try (cases h;done)
 rename_i b1 x2 t b2 b3 y
 split at h<;>try (cases h;done)
 rename_i is m it kt vt vg h1
 split at h<;>try (cases h;done)
 rename_i n ok h2
 split at h<;>try (cases h;done)
 rename_i hc
 obtain ⟨e1,e2⟩:=hc
 subst e1;subst e2
 cases h
 unfold Ln at h1
 split at h1<;>try (cases h1;done)
 rename_i ia yA
 split at h1<;>try (cases h1;done)
 rename_i o rr hrev
 split at h1<;>try (cases h1;done)
 rename_i t x hop
 split at h1<;>try (cases h1;done)
 rename_i it' QK
 split at h1<;>try (cases h1;done)
 rename_i hg
 split at h1<;>try (cases h1;done)
 rename_i KX KY P6 m' is' CC hx mB
 cases h1
 unfold Lp at h2
 split at h2<;>try (cases h2;done)
 rename_i i2 sQ
 split at h2<;>try (cases h2;done)
 rename_i o1 o2 hl
 split at h2<;>try (cases h2;done)
 rename_i i Fu
 split at h2<;>try (cases h2;done)
 rename_i n' Mo
 split at h2<;>try (cases h2;done)
 rename_i n2 JE
 split at h2<;>try (cases h2;done)
 rename_i ok' hd2
 split at h2<;>try (cases h2;done)
 rename_i Uk
 obtain ⟨g1,g2,e1,e2,l1,l2,l3,l4⟩:=Uk
 subst e1;subst e2
 cases h2
 have EC:yA.toList=rr.reverse++[o]:=by
  have:=congrArg List.reverse hrev
  simpa using this
 exact ⟨ia,yA,o,rr.reverse,t,x,b3,i2,sQ,o1,o2,_,_,y,rfl,EC,hop,QK,hg.1,hg.2,CC,hx,mB,rfl,hl,Fu,Mo,g1,JE,hd2,g2,l1,l2,l3,l4,rfl,rfl⟩
end
section
variable {P:Program} {N:Nat} {Y:Ctx} {ι ι':ai} {μ μ':Mu} {H H':aG} {w w':World} {out:Option Nat} {base:Nat}
theorem QL {b1 i2 b3 ok:Nat} {sQ:Array Oper} {y:Code} {cb:C} (h:eX P N (.block b1 (.loop (.seq (.region i2 sQ false) (.seq (.cond (.tmp ok) .skip (.exit b1)) (.block b3 y)))))=some cb) :
  ∃cx cc cy,eX P N y=some cy∧cb = .block b1 (.loop (.seq cx (.seq cc (.block b3 cy)))):=by
 have h1:∀z,vz P N (.cond (.tmp ok) .skip (.exit b1)) z=none:=fun z=>by
  unfold vz
  split
  ·split
   ·rename_i h1;cases h1
   ·rfl
  ·rfl
 have h2:∀z u v,vz P N z (.seq u v)=none:=fun z u v=>rfl
 simp only [eX] at h
 cases hx:dK P N sQ sQ.toList with
 |none=>simp [hx] at h
 |some is =>
  simp only [hx] at h
  cases hy:eX P N y with
  |none=>simp [hy] at h
  |some cy =>
   simp only [hy,de,Option.map_some,h1,h2] at h
   cases h
   exact ⟨_,_,cy,rfl,rfl⟩
theorem wF {id:Nat} {K:Ex→St→Prop} {e:Exit} {a:Act} {w:World} (hp:Post P N Y (fun e S=>match e with
  | .normal=>K .normal S
  | .exit id'=>match Nat.beq id' id with
   |true=>K .normal S
   |false=>K (.exit id') S
  | .ret=>K .ret S) e a w):Exit.inBlock id (Post P N Y K) e a w:=by
 obtain ⟨Y1,hY,ι',μ',S',e',h1,h2,h3⟩:=hp
 cases e' with
 |normal=>cases h2;exact ⟨Y1,hY,ι',μ',S',.normal,h1,rfl,h3⟩
 |exit id' =>
  cases h2
  simp only [Exit.inBlock]
  simp only at h3
  split at h3
  ·rename_i AF
   rw [if_pos (Nat.eq_of_beq_eq_true AF)]
   exact ⟨Y1,hY,ι',μ',S',.normal,h1,rfl,h3⟩
  ·rename_i AF
   rw [if_neg (fun e=>by subst e;rw [Nat.beq_refl] at AF;cases AF)]
   exact ⟨Y1,hY,ι',μ',S',.exit id',h1,rfl,h3⟩
 |ret=>cases h2;exact ⟨Y1,hY,ι',μ',S',.ret,h1,rfl,h3⟩
theorem Mp (gJ : mA P N out base) {it b1 b3 : Nat} {y : Code} {cx cc cy bd : C} (JF : eX P N y = some cy) (hbd : GQ (su N it y) (.block b1 (.loop (.seq cx (.seq cc (.block b3 cy))))) = some bd) {S0 : St} {a : Act}
  (ho:jT Y out) (hb:Y.base base) (hR:ek P N Y ι μ S0 a w) {r:Nat} (hit:a.tmps.getD it undef = .pointer (some ⟨r,0,none⟩)) {kv vv:Value} (bY:(Instr.entry (.pointer (some ⟨r,0,none⟩))).run P w = .ok (.tuple #[kv,vv]) w)
  {kt vt:Ty} {kg vg:Bool} {x:kt.den×vt.den} (hk:Rel ι μ (bU.iH kg (bU kt x.1)) kv) (hv:Rel ι μ (bU.iH vg (bU vt x.2)) vv) {Q:Ex→St→Prop}
  (h:qF (fh P N out base) bd ⟨QJ (su N it y) kt kg vt vg x S0.env,S0.H,S0.ms⟩ Q):(Code.block b3 y).wpIn Y.F 0 P (Post P N Y Q) a w:=by
 cases he:su N it y with
 |none =>
  rw [he] at hbd h
  cases hbd
  exact gq gJ (.block b3 y) (c:=.block b3 cy) (by simp [eX,JF]) h Y ι μ a w ho hb hR
 |some s =>
  rw [he] at hbd h
  unfold su at he
  split at he<;>try (cases he;done)
  rename_i ri ops rest
  split at he<;>try (cases he;done)
  rename_i o os hl
  split at he<;>try (cases he;done)
  rename_i i hop
  split at he<;>try (cases he;done)
  rename_i s' QK
  split at he<;>try (cases he;done)
  rename_i hc
  obtain ⟨hg,hi,hs,hne⟩:=hc
  cases he
  subst hi
  -- the code
  simp only [eX] at JF
  cases mB:dK P N ops ops.toList with
  |none=>simp [mB] at JF
  |some is0 =>
   simp only [mB] at JF
   cases Z6:eX P N rest with
   |none=>simp [Z6] at JF
   |some cr =>
    simp only [Z6] at JF
    split at JF
    rotate_left
    ·rename_i hd2 _
     split at JF<;>try (cases JF;done)
     cases JF
     simp [GQ] at hbd
    cases JF
    rw [hl] at mB
    unfold dK at mB
    split at mB<;>try (cases mB;done)
    rename_i i0 is hi0 mB
    cases mB
    simp only [GQ] at hbd
    cases hbd
    simp only [qF] at h
    refine wpIn_block (wpIn_mono ?_ fun e a w hp=>wF hp)
    refine wpIn_seq (wpIn_region ?_)
    have hsz:ops.size=os.length+1:=by rw [←Array.length_toList,hl];rfl
    rw [List.range_eq_range',hsz,List.range'_succ]
    have ho0:ops[0]?=some o:=by rw [←Array.getElem?_toList,hl];rfl
    have ag:a.eval (.tmp i) = .pointer (some ⟨r,0,none⟩):=hit
    have hN:qB N o.dst=true:=by rw [QK];simpa [qB] using hs
    refine tK (x := .tuple #[kv, vv]) (w' := w) (fun _ => trivial) rfl ho0 (gu hg _) (by rw [hop]; intro c; simp) (.inl (by
     unfold execOp;rw [hop];simp only [ag,Sem.run_bind,bY];rfl)) ?_
    have mS:ek P N Y ι μ ⟨QJ (some s) kt kg vt vg x S0.env,S0.H,S0.ms⟩ (a.put o.dst (.tuple #[kv,vv])) w:=by
     have := hR.put hN (ai.le_refl _) (Mu.le_refl _) hR.inv (v := .cw [bU.iH kg (bU kt x.1), bU.iH vg (bU vt x.2)]) (x := .tuple #[kv, vv])
      (.cw _ _ rfl (fun i v x oK hx=>by
       match i with
       |0=>simp at oK hx;subst oK;subst hx;exact hk
       |1=>simp at oK hx;subst oK;subst hx;exact hv
       |i+2=>simp at oK))
     rw [QK] at this ⊢
     exact this
    exact vW (Y:=Y) (out:=out) (base:=base) (k:=1) (Q:=Exit.then (rest.wpIn Y.F 0 P _) _) (fun ι μ S a w hR hK=>gq gJ rest Z6 hK Y ι μ a w ho hb hR) mB (fun j=>by rw [←Array.getElem?_toList,hl,Nat.add_comm];simp) mS h
end
section
variable {P:Program} {N:Nat} {Y:Ctx} {ι ι':ai} {μ μ':Mu} {H H':aG} {w w':World} {out:Option Nat} {base:Nat}
theorem eB.at {kt vt : Ty} {kg vg : Bool} : ∀ {es : List (kt.den × vt.den)} {ms : List MapEntry}, eB ι kt kg vt vg es ms → ∀ {i : Nat} {m : MapEntry}, ms[i]? = some m → ∃ e, es[i]? = some e ∧ fD ι kg kt e.1 m.key ∧ fD ι vg vt e.2 m.val
 |[],_,h,i,m,hm=>by simp [eB] at h;subst h;simp at hm
 |e::es,_,⟨m0,r,rfl,h1,h2,h3⟩,i,m,hm=>by
  cases i with
  |zero=>simp at hm;subst hm;exact ⟨e,rfl,h1,h2⟩
  |succ i=>simpa using h3.at (i:=i) (by simpa using hm)
theorem C3 {E α β:Type} {step:E→α→Option (α ⊕ β)} {e:E} {r:List E} {x:α} {res:α ⊕ β} (h:yz step (e::r) x=some res) :
  (∃y,step e x=some (.inl y))∨∃b,step e x=some (.inr b)∧res = .inr b:=by
 simp only [yz] at h
 split at h
 ·cases h
 ·rename_i y e;exact .inl ⟨y,e⟩
 ·rename_i b e;cases h;exact .inr ⟨b,e,rfl⟩
theorem get_mem : ∀ {env : Env} {t : Nat} {v : V}, get t env = v → v ≠ .any → (t, v) ∈ env
 |[],t,v,h,hv=>absurd h.symm hv
 |(s,u)::r,t,v,h,hv=>by
  rw [bK] at h
  split at h
  ·rename_i e;subst e;subst h;exact List.mem_cons_self ..
  ·exact List.mem_cons_of_mem _ (get_mem h hv)
theorem HC {π : List Nat} {cl : List Nat} {env : Env} {Hh : aG} {mss : List Nat} {S' : St} (h : ja base π ⟨dP cl env, Hh, mss⟩ S') {mn id bm : Nat} (hid : get mn env = .mp id) {kt vt : Ty} {kg vg : Bool} {es : List (kt.den × vt.den)}
  (yf:jh Hh.bl kt kg vt vg id=some es) {L:Loc} (hL:μ id=some L) (V4:L.b=bm) (yc:Nat) (h2:get mn S'.env = .mp yc) :
  (∃L,(μ.eF π) yc=some L∧L.b=bm)∧∀es',jh S'.H.bl kt kg vt vg yc=some es'→es'=es:=by
 have ag:=h.env _ (get_mem h2 (by simp))
 try simp only at ag
 have hπ:π[yc]?=some id:=by
  rcases p0 (cl:=cl) (env:=env) (t:=mn) with e|e<;>rw [e] at ag
  ·cases ag
  ·rw [hid] at ag;cases ag with|mp _ _ hi=>exact hi
 refine ⟨⟨L,by simp [Mu.eF,hπ,hL],V4⟩,fun es' he'=>?_⟩
 obtain ⟨i,e1,hb⟩:=h.bl _ (cW (dM he'))
 try simp only at e1 hb
 rw [hπ] at e1;cases e1
 have JG:=dM yf
 try simp only at JG
 rw [JG] at hb
 simp only [Option.some.injEq,kF.map.injEq,heq_eq_eq,true_and] at hb
 exact hb.symm
theorem jT.up {w:World} {ι:ai} {r:Nat} (h:jT Y out) (hm:Y.m0.le μ):jT (Y.side w ι μ r) out:=by
 cases out with
 |none=>exact h
 |some o=>obtain ⟨Lo,h1,h2⟩:=h;exact ⟨Lo,hm _ _ h1,h2⟩
theorem Ext.lift {Ya Yb : Ctx} {r : Nat} (hinv : ∀ {ι : ai} {μ : Mu} {H : aG} {w : World}, Inv P Ya ι μ H w → Inv P Yb ι μ H w) (hown : ∀ b, Ya.own b → Yb.own b) (hro : Yb.ro = Ya.ro) (hm0 : Yb.m0.le Ya.m0) (AJ : Yb.hid = Ya.hid)
  (hr:r<Ya.w0.heap.size∧¬Ya.own r) (hrb:Yb.own r) {Y1:Ctx} (h:Ext P Ya Y1) :
  ∃Y2,Ext P Yb Y2∧(∀{ι:ai} {μ:Mu} {H:aG} {w:World},Inv P Y1 ι μ H w→Inv P Y2 ι μ H w)∧(∀b,Y1.own b→Y2.own b)∧Y2.ro=Y1.ro∧Y2.m0.le Y1.m0∧Y2.hid=Y1.hid∧(r<Y1.w0.heap.size∧¬Y1.own r)∧Y2.own r:=by
 induction h with
 |refl=>exact ⟨Yb,.refl Yb,hinv,hown,hro,hm0,AJ,hr,hrb⟩
 |step h ro hI hr' own ih =>
  rename_i Y1 ι1 μ1 H1 w1 r'
  obtain ⟨Y2,e1,e2,e3,e4,e5,e6,e7,e8⟩:=ih
  have hlt:=(Array.getElem?_eq_some_iff.1 hr').1
  have hne:r≠r':=fun e=>by subst e;exact e7.2 own
  have hs:=hI.below.size
  refine ⟨Y2.uo w1 ι1 r',.step e1 (e4.trans ro) (e2 hI) hr' (e3 _ own),fun {ι μ H w} h=>?_,fun b hb=>?_,e4,e5,?_,⟨?_,fun hX=>?_⟩,.inr ⟨e8,hne⟩⟩
  ·have hx : ∀ b, (Y1.uo w1 ι1 r').x b → (Y2.uo w1 ι1 r').x b := fun b hb => ⟨e3 _ hb.1, hb.2⟩
   exact ⟨⟨h.below.os,h.below.tape,h.below.output,h.below.size,fun k hk hx'=>h.below.block k hk (fun hh=>hx' (hx _ hh)),h.below.dr,h.below.maps⟩,h.i0,fun b o hb hx'=>h.iB b o hb (fun hh=>hx' (hx _ hh)),h.rd,Mu.le_trans e5 h.m0,h.nx,
    fun id B hB=>(h.live id B hB).owns fun L _ ho=>ho.imp (fun h=>h) (hx _),h.inj,h.lt,h.gl⟩
  ·exact hb.imp (fun h=>h) fun h=>⟨e3 _ h.1,h.2⟩
  ·show r' :: Y2.hid = r' :: Y1.hid
   rw [e6]
  ·exact Nat.lt_of_lt_of_le e7.1 hs
  ·rcases hX with hX | hX
   ·have : w1.heap.size ≤ r := hX
    omega
   ·exact e7.2 hX.1
theorem KD.inj {t:Ty} {β:Type} {es:List (t.den×β)} (h:KD t es) {a b:t.den×β} (ha:a∈es) (hb:b∈es) (hab:dx t a.1 b.1=true):a=b:=by
 have haa:dx t a.1 a.1=true:=by
  have:=bu hab
  rw [←this] at hab;exact hab
 have h1:=mo (d:=a.2) h ha haa
 have h2:=mo (d:=a.2) h hb hab
 exact Prod.ext (bu hab) (h1.symm.trans h2)
theorem sR {ι ι' : ai} : ∀ {t : Ty} {ks : List Kd} {x y : t.den} {vs : List Value}, bp t = some ks → aa ι t x vs → aa ι' t y vs → dx t x y = true
 | .unit,ks,x,y,vs,h,hx,hy=>rfl
 | .bool,ks,x,y,vs,h,hx,hy=>by simp only [aa] at hx hy;subst hx;simpa [dx] using hy
 | .str,ks,x,y,vs,h,hx,hy=>by
  simp only [aa] at hx hy;subst hx
  simp only [List.cons.injEq,Value.string.injEq,and_true] at hy
  subst hy;simp [dx]
 | .int k,ks,x,y,vs,h,hx,hy=>by simp only [aa] at hx hy;subst hx;simpa [dx] using hy
 | .list _,ks,x,y,vs,h,hx,hy=>by cases h
 | .bT _ _ _,ks,x,y,vs,h,hx,hy=>by cases h
 | .prod a b,ks,x,y,vs,h,hx,hy=>by
  simp only [bp] at h
  split at h<;>try (cases h;done)
  rename_i k1 k2 h1 h2
  obtain ⟨us,ws,e1,d1,d2⟩:=hx
  obtain ⟨us',ws',e2,d1',d2'⟩:=hy
  rw [e1] at e2
  obtain ⟨rfl,rfl⟩:=List.append_inj e2 (by rw [d1.length,d1'.length])
  simp only [dx,sR h1 d1 d1',sR h2 d2 d2',Bool.and_self]
theorem Mq {k:TypeId} {kt:Ty} {kg:Bool} (h:vw P k=some (kt,kg)):∃ks,bp kt=some ks:=by
 unfold vw at h
 split at h<;>try (cases h;done)
 ·cases h;exact ⟨_,rfl⟩
 ·cases h;exact ⟨_,rfl⟩
 ·split at h <;> try (cases h; done)
  split at h<;>try (cases h;done)
  rename_i hc
  cases h
  exact ⟨_,hc.1⟩
theorem JH {g:Bool} {xs ys:List Value} {v:Value} (h1:gV g xs=some v) (h2:gV g ys=some v):xs=ys:=by
 cases g with
 |true =>
  simp only [gV,Option.some.injEq] at h1 h2
  subst h1
  simp only [Value.agg.injEq] at h2
  have:=congrArg Array.toList h2
  simpa using this.symm
 |false =>
  match xs,ys,h1,h2 with
  |[x],[y],h1,h2 =>
   simp only [gV,Option.some.injEq] at h1 h2
   rw [h1,h2]
  |[],_,h1,_=>simp [gV] at h1
  |_::_::_,_,h1,_=>simp [gV] at h1
  |[_],[],_,h2=>simp [gV] at h2
  |[_],_::_::_,_,h2=>simp [gV] at h2
theorem QM {k:TypeId} {kt:Ty} {kg:Bool} (h:vw P k=some (kt,kg)) {x y:kt.den} {z:Value} (hx:fD ι kg kt x z) (hy:fD ι' kg kt y z):dx kt x y=true:=by
 obtain ⟨ks,hks⟩:=Mq h
 obtain ⟨xs,h1,h2⟩:=hx
 obtain ⟨ys,h3,h4⟩:=hy
 have:=JH h2 h4
 subst this
 exact sR hks h1 h3
structure MI {α:Type} (P:Program) (N:Nat) (Y:Ctx) (I:α→St) (mn it:Nat) (kt:Ty) (kg:Bool) (vt:Ty) (vg:Bool) (es dg:List (kt.den×vt.den)) (kz:List Value) (bm r since:Nat) (bs todo:List Nat) (x:α) (a:Act) (w:World) (ι:ai) (μ:Mu) (seen:Array Nat) (c0:Nat) (ms:Array MapEntry) (clock:Nat):Prop where
 rep:ek P N Y ι μ (I x) a w
 it:a.tmps.getD it undef = .pointer (some ⟨r,0,none⟩)
 own:Y.own r
 hr:w.heap[r]?=some (.mapIter (some bm) since seen c0)
 sc:since≤c0
 ck:since≤clock
 hm:w.heap[bm]?=some (.map ms clock)
 Uv:ms.toList.map (·.born)=bs
 hkz:ms.toList.map (·.key)=kz
 hke:∀(i:Nat) e z,dg[i]?=some e→kz[i]?=some z→fD ι kg kt e.1 z
 old:∀b∈bs,b<since
 nd:bs.Nodup
 len:dg.length=bs.length
 td:todo.Nodup
 left:∀i,i∈todo↔∃b,bs[i]?=some b∧b∉seen.toList
 here:∀id,get mn (I x).env = .mp id→(∃L,μ id=some L∧L.b=bm)∧∀es',jh (I x).H.bl kt kg vt vg id=some es'→es'=es
def C4 (pg : Nat) : Ex → Ex
 | .exit i=>match Nat.beq i pg with
  |true=>.normal
  |false=>.exit i
 |e=>e
theorem Mr {α:Type} (es:List α) (d:α):(List.range es.length).map (fun i=>es.getD i d)=es:=by
 apply List.ext_getElem
 ·simp
 ·intro i h1 h2;simp at h1;simp [List.getD,h1]
theorem C5 (gJ : ∀ base, mA P N out base) {α β : Type} {I : α → St} {X : β → Ex × St} {pre : List eA} {mn it : Nat} {cl : List Nat} {e : Option Nat} {kt vt : Ty} {kg vg : Bool} {pg : Nat} {bd : C}
  {step:kt.den×vt.den→α→Option (α ⊕ β)} {aB:Nat} (hI:∀x s,s∈it::cl→get s (I x).env = .any) (Hw:∀x,(I x).H.next=aB)
  (hstep:∀kU x r,step kU x=some r→∃id es',get mn (I x).env = .mp id∧jh (I x).H.bl kt kg vt vg id=some es' ∧
   qF (fh P N out (aB+1)) bd ⟨QJ e kt kg vt vg kU ((it,.ptr aB 0)::(I x).env),⟨aB+1,(I x).H.bl⟩,(I x).ms⟩ fun ex S'=>match r with
    | .inl y=>ex = .normal∧get it S'.env = .ptr aB 0∧get mn S'.env = .mp id∧jh S'.H.bl kt kg vt vg id=some es'∧∃π,ja base π ⟨dP (it::cl) S'.env,S'.H,S'.ms⟩ (I y)
    | .inr b=>ex ≠ .normal∧ex=(X b).1∧∃π,ja base π S' (X b).2)
  {S:St} {K:Ex→St→Prop}
  (hpre:eZ (fh P N out base) pre S fun S1=>∃id es x π,get mn S1.env = .mp id∧jh S1.H.bl kt kg vt vg id=some es∧ja base π ⟨dP (it::cl) S1.env,S1.H,S1.ms⟩ (I x) ∧
   ∀l:List (kt.den×vt.den),l.Perm es→∃res,yz step l x=some res∧(match res with | .inl y=>K .normal (I y) | .inr b=>K (C4 pg (X b).1) (X b).2)) :
  (fh P N out base).gz (.gz pre (.t mn) it cl e kt kg vt vg pg bd) S K:=by
 intro ca cb htr hsome
 have htr0:=htr
 simp only [eX] at htr
 split at htr<;>try (cases htr;done)
 rename_i xa xb htra htrb
 split at htr
 ·rename_i hn;rw [hn] at hsome;cases hsome
 rename_i hd hmh
 split at htr<;>try (cases htr;done)
 rename_i Qy hbd
 obtain ⟨hpre',hm',qa,hcl',he',wG,Wy,yB,Wz,zy⟩:=hd
 simp only [Option.some.injEq,C.gz.injEq] at htr
 obtain ⟨rfl,rfl,rfl,rfl,rfl,rfl,rfl,rfl,rfl,rfl,rfl⟩:=htr
 obtain ⟨ia,yA,oA,rr,t,xo,b3,i2,sQ,o1,o2,n,ok,y,rfl,hlA,WA,hdA,hgA,hitN,CC,K2,mB,rfl,EC,Fu,Mo,hg1,JE,hd2,hg2,hnN,hokN,hnit,Uw,ye,he⟩:=Ft hmh
 simp only at WA hdA hgA hitN CC K2 mB Fu hnit Uw ye he hbd
 subst ye
 obtain ⟨cx,cc,cy,JF,rfl⟩:=QL htrb
 subst he
 intro Y ι μ a w hout hbase hR
 refine wpIn_seq (wpIn_region ?_)
 have hszA:yA.size=rr.length+1:=by rw [←Array.length_toList,hlA];simp
 have WB:List.range yA.size=List.range' 0 rr.length++[rr.length]:=by
  rw [hszA,List.range_succ,List.range_eq_range']
 rw [WB]
 refine sG (Y:=Y) (out:=out) (base:=base) (k:=0) (K:=fun S1=>∃id es x π,get mn S1.env = .mp id∧jh S1.H.bl wG Wy yB Wz id=some es∧ja base π ⟨dP (qa::[n,ok]) S1.env,S1.H,S1.ms⟩ (I x) ∧
   ∀l:List (wG.den×yB.den),l.Perm es→∃res,yz step l x=some res∧(match res with | .inl y=>K .normal (I y) | .inr b=>K (C4 zy (X b).1) (X b).2)) ?_ mB (fun j hj=>?_) hR hpre
 rotate_left
 ·rw [←Array.getElem?_toList,hlA,Nat.zero_add,List.getElem?_append_left (by assumption)]
 clear hR hpre
 intro ι μ S1 a w hR hK1
 obtain ⟨id,es,x,π,hmid,qb,bY,hres⟩:=hK1
 -- the iterator is made
 have hv:=hR.env mn
 rw [hmid] at hv
 generalize hav:a.tmps.getD mn undef=mv at hv
 cases hv with
 |mp _ L hL =>
 have hb:=dM qb
 obtain ⟨L',ms,clock,dg,q1,q2,q3,q4,q5,q6,hp0,hd0⟩:=hR.inv.live _ _ hb
 rw [hL] at q1;cases q1
 obtain ⟨kT,eT,huT,hkT,_⟩:=jS CC
 have dh:a.eval xo = .map (some L.b):=by
  have:xo = .tmp mn:=by
   cases xo<;>simp only [de] at K2
   ·cases K2;rfl
   ·split at K2<;>cases K2
   ·cases K2
   ·cases K2
  rw [this];exact hav
 have hoA:yA[rr.length]?=some oA:=by rw [←Array.getElem?_toList,hlA];simp
 refine tK (x := .pointer (some ⟨w.heap.size, 0, none⟩)) (w' := w.alloc (.mapIter (some L.b) clock #[] clock)) (fun _ => trivial) rfl hoA (gu hgA _) (by rw [WA]; intro c; simp) (.inl (by
  unfold execOp;rw [WA];simp only [dh,Sem.run_bind,run_range_map w t kT eT L.b ms clock huT q3];rfl)) ?_
 simp only [wpOpsIn]
 rw [hdA]
 have qv:ek P N Y ι μ ⟨dP (qa::[n,ok]) S1.env,S1.H,S1.ms⟩ (a.put (some qa) (.pointer (some ⟨w.heap.size,0,none⟩))) (w.alloc (.mapIter (some L.b) clock #[] clock)):=by
  have h1:ek P N Y ι μ ⟨dP (qa::[n,ok]) S1.env,S1.H,S1.ms⟩ a w:=⟨hR.env.forget _,hR.sz,hR.inv,hR.ms⟩
  have h2:=h1.over (d:=qa) (by simp [dP,get]) (.pointer (some ⟨w.heap.size,0,none⟩))
  exact ⟨h2.env,h2.sz,h2.inv.junk _,h2.ms⟩
 have mS:=bY.rep hbase qv
 have hlt:L.b<w.heap.size:=(Array.getElem?_eq_some_iff.1 q3).1
 have QN:MI P N Y I mn qa wG Wy yB Wz es dg (ms.toList.map (·.key)) L.b w.heap.size clock (ms.toList.map (·.born)) (List.range dg.length) x (a.put (some qa) (.pointer (some ⟨w.heap.size,0,none⟩))) (w.alloc (.mapIter (some L.b) clock #[] clock)) ι (μ.eF π) #[] clock ms clock:=by
  refine ⟨mS,AY (by rw [hR.sz];exact hitN),.inl hR.inv.below.size,heap_alloc_new _ _,Nat.le_refl _,Nat.le_refl _,(heap_alloc_old _ _ hlt).trans q3,rfl,rfl,fun i e z he hz=>?_,fun b hb=>?_,q6,?_,List.nodup_range,fun i=>?_,fun yc h2=>?_⟩
  ·rw [List.getElem?_map] at hz
   cases hm:ms.toList[i]? with
   |none=>rw [hm] at hz;cases hz
   |some m =>
    rw [hm] at hz;cases hz
    obtain ⟨e',he',hk,_⟩:=q4.at hm
    rw [he] at he';cases he'
    exact hk
  ·obtain ⟨m, hm, rfl⟩ := List.mem_map.1 hb
   exact q5 m hm
  ·rw [List.length_map,eB.length q4]
  ·have hlen := eB.length q4
   simp only [List.mem_range,List.not_mem_nil,not_false_eq_true,and_true]
   constructor
   ·intro hi
    exact ⟨_,List.getElem?_eq_getElem (show i<(ms.toList.map (·.born)).length by simp at hlen ⊢;omega)⟩
   ·rintro ⟨b, hb⟩
    have:=(List.getElem?_eq_some_iff.1 hb).1
    simp at this hlen;omega
  ·exact HC bY hmid qb hL rfl yc h2
 have hat0:∀J:List Nat,J.Perm (List.range dg.length)→∃res,yz step (J.map fun i=>dg.getD i (wG.zero,yB.zero)) x=some res∧(match res with | .inl y=>K .normal (I y) | .inr b=>K (C4 zy (X b).1) (X b).2):=fun J hJ =>
  hres _ (((hJ.map _).trans (by rw [Mr])).trans hp0)
 have hdE:KD wG es:=hd0.perm hp0
 clear hres qv mS qb hmid bY q3 q5 q6 dh hoA hav hb hR hL hlt
 generalize (a.put (some qa) (.pointer (some ⟨w.heap.size,0,none⟩)))=a1 at QN ⊢
 generalize hw1:w.alloc (.mapIter (some L.b) clock #[] clock)=w1 at QN ⊢
 generalize w.heap.size=r at QN
 generalize Uv:ms.toList.map (·.born)=bs at QN
 generalize hkz:ms.toList.map (·.key)=kz at QN
 generalize L.b=bm at QN
 have hlen:dg.length=bs.length:=QN.len
 clear hw1 Uv hkz
 show Code.wpIn _ _ _ (.block zy _) _ _ _
 refine wpIn_block (wpIn_mono ?_ fun e a w hp=>wF hp)
 refine wpIn_loop_ghost (fun (g:List Nat×α) a w=>(∃Y1,Ext P Y Y1∧∃ι μ seen c0 ms clock',MI P N Y1 I mn qa wG Wy yB Wz es dg kz bm r clock bs g.1 g.2 a w ι μ seen c0 ms clock') ∧
  ∀J:List Nat,J.Perm g.1→∃res,yz step (J.map fun i=>dg.getD i (wG.zero,yB.zero)) g.2=some res∧(match res with | .inl y=>K .normal (I y) | .inr b=>K (C4 zy (X b).1) (X b).2)) (fun g=>g.1.length) (x:=(List.range dg.length,x)) ⟨⟨Y,.refl Y,_,_,_,_,_,_,QN⟩,hat0⟩ ?_
 clear QN hat0
 rintro ⟨todo,x⟩ a w ⟨⟨Y0,PL,ι,μ,seen,c0,ms,clock',M⟩,He⟩
 simp only at M He
 refine wpIn_seq (wpIn_region ?_)
 have hsz2:sQ.size=2:=by rw [←Array.length_toList,EC];rfl
 rw [show List.range sQ.size=[0,1] by rw [hsz2];rfl]
 have hO0:sQ[0]?=some o1:=by rw [←Array.getElem?_toList,EC];rfl
 have hO1:sQ[1]?=some o2:=by rw [←Array.getElem?_toList,EC];rfl
 have WC:=M.rep.sz
 have Ux:a.eval (.tmp qa) = .pointer (some ⟨r,0,none⟩):=M.it
 have hold:∀m∈ms.toList,m.born<clock:=fun m hm=>M.old _ (by rw [←M.Uv];exact List.mem_map.2 ⟨m,hm,rfl⟩)
 have dW:∀v,get n (I x).env = .any∧get ok (I x).env = .any∧(a.put (some n) v).eval (.tmp n)=v:=fun v=>⟨hI x n (by simp),hI x ok (by simp),AY (by rw [WC];exact hnN)⟩
 rcases run_next_at (P:=P) w o1.type r bm clock c0 seen ms clock' M.hr M.hm hold M.sc with ⟨h0,hrun⟩|⟨en,hel,w1,hw1,hrun⟩
 ·refine tK (x := .tuple #[.bool false]) (w' := w) (fun _ => trivial) rfl hO0 (gu hg1 _) (by rw [Fu]; intro c; simp) (.inl (by
   unfold execOp;rw [Fu];simp only [Ux,Sem.run_bind,hrun];rfl)) ?_
  rw [Mo]
  refine tK (x := .bool false) (w' := w) (fun _ => trivial) rfl hO1 (gu hg2 _) (by rw [JE]; intro c; simp) (.inl (by
   unfold execOp;rw [JE];simp only [(dW _).2.2];simp [Instr.extract])) ?_
  rw [hd2]
  simp only [wpOpsIn]
  show Code.wpIn _ _ _ (.seq _ _) _ _ _
  refine wpIn_seq (wpIn_cond_false (AY (by simpa [Act.put,WC] using hokN)) (wpIn_exit ?_))
  have aaG:todo=[]:=by
   cases htd:todo with
   |nil=>rfl
   |cons i _ =>
    exfalso
    obtain ⟨b,iL,ez⟩:=(M.left i).1 (by rw [htd];exact List.mem_cons_self ..)
    rw [←M.Uv,List.getElem?_map] at iL
    cases WD:ms.toList[i]? with
    |none=>rw [WD] at iL;cases iL
    |some m =>
     rw [WD] at iL;cases iL
     have:m∈leftOf ms seen:=by
      simp only [leftOf,Array.mem_filter]
      exact ⟨by simpa using List.mem_of_getElem? WD,by simpa using ez⟩
     have hp:=Array.size_pos_of_mem this
     omega
  subst aaG
  obtain ⟨res,hr,hK⟩:=He [] (.refl _)
  simp only [List.map_nil,yz,Option.some.injEq] at hr
  subst hr
  refine ⟨Y0,PL,ι,μ,I x,.exit zy,?_,rfl,?_⟩
  ·have h1 := (M.rep.over (dW .nilFunc).1 (.tuple #[.bool false])).over (dW .nilFunc).2.1 (.bool false)
   exact h1
  ·simp only [Nat.beq_refl];exact hK
 ·-- an entry
  have WE:w1.heap=w.heap:=by rcases hw1 with rfl|rfl<;>rfl
  have qv:ek P N Y0 ι μ (I x) a w1:=by
   rcases hw1 with rfl|rfl
   ·exact M.rep
   ·exact ⟨M.rep.env,M.rep.sz,M.rep.inv.drew,M.rep.ms⟩
  have Cu:w1.heap[r]?=some (.mapIter (some bm) clock seen c0):=by rw [WE];exact M.hr
  have fE:w1.heap[bm]?=some (.map ms clock'):=by rw [WE];exact M.hm
  have hne:bm≠r:=fun e=>by subst e;rw [Cu] at fE;cases fE
  have hrlt:r<w1.heap.size:=(Array.getElem?_eq_some_iff.1 Cu).1
  change (Instr.next _ _ _).run P w = .ok _ (w1.putObj r (.mapIter (some bm) clock (seen.push en.born) clock')) at hrun
  generalize hw2:w1.putObj r (.mapIter (some bm) clock (seen.push en.born) clock')=w2 at hrun
  have Cv:w2.heap[r]?=some (.mapIter (some bm) clock (seen.push en.born) clock'):=by rw [←hw2];exact World.putObj_heap_same hrlt
  have hm2:w2.heap[bm]?=some (.map ms clock'):=by rw [←hw2,World.putObj_heap_other hne];exact fE
  have tV:Inv P Y0 ι μ (I x).H w2:=by rw [←hw2];exact qv.inv.side Cu M.own _
  have aaJ:Y0.w0.heap.size≤w2.heap.size:=tV.below.size
  clear hw2 fE Cu qv hw1 WE hrlt
  refine tK (x := .tuple #[.bool true, en.key, en.val]) (w' := w2) (fun _ => trivial) rfl hO0 (gu hg1 _) (by rw [Fu]; intro c; simp) (.inl (by
   unfold execOp;rw [Fu];simp only [Ux,Sem.run_bind,hrun];rfl)) ?_
  rw [Mo]
  refine tK (x := .bool true) (w' := w2) (fun _ => trivial) rfl hO1 (gu hg2 _) (by rw [JE]; intro c; simp) (.inl (by
   unfold execOp;rw [JE];simp only [(dW _).2.2];simp [Instr.extract])) ?_
  rw [hd2]
  simp only [wpOpsIn]
  show Code.wpIn _ _ _ (.seq _ _) _ _ _
  refine wpIn_seq (wpIn_cond_true (AY (by simpa [Act.put,WC] using hokN)) (wpIn_skip ?_))
  have hRa:ek P N Y0 ι μ (I x) ((a.put (some n) (.tuple #[.bool true,en.key,en.val])).put (some ok) (.bool true)) w2:=by
   have h1:=(M.rep.over (dW .nilFunc).1 (.tuple #[.bool true,en.key,en.val])).over (dW .nilFunc).2.1 (.bool true)
   exact ⟨h1.env,h1.sz,tV,h1.ms⟩
  have WG:((a.put (some n) (.tuple #[.bool true,en.key,en.val])).put (some ok) (.bool true)).tmps.getD qa undef = .pointer (some ⟨r,0,none⟩):=by
   rw [Mn Uw,Mn hnit];exact M.it
  show Code.wpIn _ _ _ (.block b3 y) _ _ _
  generalize ((a.put (some n) (.tuple #[.bool true,en.key,en.val])).put (some ok) (.bool true))=a2 at hRa WG
  -- which one
  have WH:en∈ms.toList∧en.born∉seen.toList:=by
   have:en∈leftOf ms seen:=by simpa using hel
   simp only [leftOf,Array.mem_filter] at this
   exact ⟨by simpa using this.1,by simpa using this.2⟩
  obtain ⟨i,hi⟩:=List.getElem?_of_mem WH.1
  have hbi:bs[i]?=some en.born:=by rw [←M.Uv,List.getElem?_map,hi];rfl
  have Fv:i∈todo:=(M.left i).2 ⟨_,hbi,WH.2⟩
  have HD:∀J:List Nat,J.Perm (todo.erase i)→∃res,yz step (dg.getD i (wG.zero,yB.zero)::J.map fun i=>dg.getD i (wG.zero,yB.zero)) x=some res∧(match res with | .inl y=>K .normal (I y) | .inr b=>K (C4 zy (X b).1) (X b).2):=fun J hJ =>
   He (i::J) ((hJ.cons i).trans (List.perm_cons_erase Fv).symm)
  have hs1:∃q,step (dg.getD i (wG.zero,yB.zero)) x=some q:=by
   obtain ⟨res,hr,_⟩:=HD _ (.refl _)
   rcases C3 hr with ⟨y,hy⟩|⟨b,hb,_⟩
   ·exact ⟨_,hy⟩
   ·exact ⟨_,hb⟩
  obtain ⟨q,hq⟩:=hs1
  obtain ⟨id,es',hmid,qb,hwp⟩:=hstep _ _ _ hq
  obtain ⟨⟨L,hL,V4⟩,yf⟩:=M.here id hmid
  have:=yf es' qb
  subst this
  obtain ⟨L',ms2,ck2,EF,z1,z2,z3,z4,z5,z6,z7,z8⟩:=tV.live id _ (dM qb)
  rw [hL] at z1;cases z1
  rw [V4,hm2] at z3;cases z3
  obtain ⟨e0,he0,hk,hv⟩:=z4.at hi
  have Zy:dg.getD i (wG.zero,yB.zero)=e0:=by
   have hil:i<dg.length:=by
    have:=(List.getElem?_eq_some_iff.1 hbi).1
    rw [M.len];exact this
   have h1:dg[i]?=some dg[i]:=List.getElem?_eq_getElem hil
   have h2:=M.hke i _ en.key h1 (by rw [←M.hkz,List.getElem?_map,hi];rfl)
   have h3:=hdE.inj (hp0.mem_iff.1 (List.getElem_mem hil)) (z7.mem_iff.1 (List.mem_of_getElem? he0)) (QM hkT h2 hk)
   rw [List.getD_eq_getElem?_getD,h1]
   exact h3
  rw [Zy] at hq hwp HD
  have hx0:=Hw x
  let L0:Loc:=⟨r,0,0,0⟩
  have Ms:Inv P Y0 ι (μ.set aB L0) ⟨aB+1,(I x).H.bl⟩ w2:=by rw [←hx0];exact tV.name L0
  have hnone:μ aB=none:=by rw [←hx0];exact tV.nx _ (Nat.le_refl _)
  have hle:=Mu.fe (L:=L0) hnone
  have hRs:ek P N (Y0.side w2 ι (μ.set aB L0) r) ι (μ.set aB L0) ⟨(qa,.ptr aB 0)::(I x).env,⟨aB+1,(I x).H.bl⟩,(I x).ms⟩ a2 w2:=by
   refine ⟨fun t=>?_,hRa.sz,Ms.into Cv,hRa.ms.mono hle⟩
   rw [bK]
   split
   ·rename_i e; subst e
    rw [WG]
    have:=Rel.ptr (ι:=ι) (μ:=μ.set aB L0) aB 0 L0 (by simp [Mu.set])
    exact this
   ·exact (hRa.env t).mono (ai.le_refl _) hle
  have bY:=run_entry_at (P:=P) w2 r bm clock seen ms clock' en Cv hm2 WH.1 (by rw [M.Uv];exact M.nd)
  have Mt:jT (Y0.side w2 ι (μ.set aB L0) r) out:=(PL.Wb hout).up (Mu.le_trans M.rep.inv.m0 hle)
  have iq:(Y0.side w2 ι (μ.set aB L0) r).base (aB+1):=fun id hid=>Ms.nx id hid
  have hF:(Y0.side w2 ι (μ.set aB L0) r).F=Y.F:=PL.F
  rw [←hF]
  refine wpIn_mono (Mp (Y:=Y0.side w2 ι (μ.set aB L0) r) (gJ (aB+1)) JF hbd Mt iq hRs WG bY (hk.rel) (hv.rel) hwp) fun e3 a3 w3 hp=>?_
  obtain ⟨Y1,L5,ι3,μ3,S3,ex,K1,Us,Qz⟩:=hp
  have pG:Inv P (Y0.side w2 ι (μ.set aB L0) r) ι3 μ3 S3.H w3:=L5.inv K1.inv
  have QO:(μ.set aB L0).le μ3:=pG.m0
  have aaL:=(Array.getElem?_eq_some_iff.1 Cv).1
  obtain ⟨Y2,hY2,Mv,-,-,-,AJ,-,Mw⟩:=L5.lift (Yb:=Y0) (r:=r) (fun h=>Ms.aaB h) (fun b hb=>by
   rcases hb with hb|hb
   ·exact .inl (Nat.le_trans aaJ hb)
   ·exact hb.1) rfl (Mu.le_trans M.rep.inv.m0 hle) rfl ⟨aaL,fun h=>by
    rcases h with h|h
    ·have : w2.heap.size ≤ r := h
     omega
    ·exact h.2 rfl⟩ M.own
  have hYt:=PL.trans hY2
  have HE:Inv P Y2 ι3 μ3 S3.H w3:=Mv K1.inv
  have hms3:iZ Y2.hid μ3 S3.ms a3.defers:=by rw [AJ];exact K1.ms
  cases q with
  |inr b =>
   obtain ⟨hne3,hex,π3,HF⟩:=Qz
   obtain ⟨res,hr,hK⟩:=HD _ (.refl _)
   have hres:res = .inr b:=by
    rcases C3 hr with ⟨y,hy⟩|⟨b',hb,h⟩
    ·rw [hq] at hy;cases hy
    ·rw [hq] at hb;cases hb;exact h
   subst hres
   have hRb:=HF.rep (hYt.tH hbase) (⟨K1.env,K1.sz,HE,hms3⟩:ek P N Y2 ι3 μ3 S3 a3 w3)
   subst hex
   simp only at hK
   generalize hxb:(X b).1=xb at hK Us hne3
   cases xb with
   |normal=>exact absurd rfl hne3
   |exit i' =>
    cases Us
    refine ⟨Y2,hYt,ι3,_,_,.exit i',hRb,rfl,?_⟩
    simp only [C4] at hK
    split at hK
    ·rename_i hb;simp only [hb];exact hK
    ·rename_i hb;simp only [hb];exact hK
   |ret=>cases Us;exact ⟨Y2,hYt,ι3,_,_,.ret,hRb,rfl,hK⟩
  |inl y =>
   obtain ⟨rfl,hit3,hmn3,AZ,π3,HF⟩:=Qz
   cases Us
   have hRf:ek P N Y2 ι3 μ3 ⟨dP (qa::[n,ok]) S3.env,S3.H,S3.ms⟩ a3 w3:=⟨K1.env.forget _,K1.sz,HE,hms3⟩
   have hRy:=HF.rep (hYt.tH hbase) hRf
   have hbm3 : w3.heap[bm]? = some (.map ms clock') ∨ ∃ Uy ck3, w3.heap[bm]? = some (.map Uy ck3) := .inr (by
    obtain ⟨L3,Uy,ck3,es3,y1,y2,y3,_⟩:=HE.live id _ (dM AZ)
    rw [QO _ _ (hle _ _ hL)] at y1;cases y1
    exact ⟨Uy,ck3,by rw [←V4];exact y3⟩)
   obtain ⟨L3,Uy,ck3,es3,y1,y2,y3,y4,y5,y6,y7,_⟩:=HE.live id _ (dM AZ)
   rw [QO _ _ (hle _ _ hL)] at y1;cases y1
   rw [V4] at y3
   have aaQ:bm<w2.heap.size:=(Array.getElem?_eq_some_iff.1 hm2).1
   have hgrow:=pG.below.maps bm aaQ ms clock' hm2
   obtain ⟨ms4,ck4,g1,g2,g3⟩:=hgrow
   rw [y3] at g1;cases g1
   have hbk:(Uy.toList.map fun m=>(m.born,m.key))=ms.toList.map fun m=>(m.born,m.key):=by
    refine (g2.eq_of_length ?_).symm
    have h1:=tV.live id _ (dM qb)
    have h2:ms.toList.length=bs.length:=by rw [←M.Uv,List.length_map]
    rw [List.length_map,List.length_map,eB.length y4,y7.length_eq,←hp0.length_eq,hlen,h2]
   have vQ:Uy.toList.map (·.born)=bs:=by
    have:=congrArg (List.map Prod.fst) hbk
    rw [←M.Uv];simpa [List.map_map,Function.comp_def] using this
   have hkeys:Uy.toList.map (·.key)=kz:=by
    have:=congrArg (List.map Prod.snd) hbk
    rw [←M.hkz];simpa [List.map_map,Function.comp_def] using this
   refine ⟨⟨todo.erase i,y⟩,⟨⟨Y2,hYt,ι3,_,seen.push en.born,clock',Uy,ck3,hRy,?_,Mw,?_,M.ck,Nat.le_trans M.ck g3,y3,vQ,hkeys,fun i e z he hz=>(M.hke i e z he hz).mono (fun b o x hx=>pG.i0 b o x hx),M.old,M.nd,M.len,M.td.erase i,fun j=>?_,?_⟩,fun J hJ=>?_⟩,?_⟩
   ·have := K1.env qa
    rw [hit3] at this
    generalize a3.tmps.getD qa undef=tv at this ⊢
    cases this with
    |ptr _ _ L4 h4 =>
     rw [QO aB L0 (by simp [Mu.set])] at h4
     cases h4
     rfl
   ·have := pG.below.block r (Array.getElem?_eq_some_iff.1 Cv).1 (fun h => h.2 rfl)
    rw [this];exact Cv
   ·rw [List.Nodup.mem_erase_iff M.td, M.left j]
    simp only [Array.toList_push,List.mem_append,List.mem_singleton]
    constructor
    ·rintro ⟨hj, b, hb, hs⟩
     refine ⟨b,hb,fun h=>?_⟩
     rcases h with h|h
     ·exact hs h
     ·subst h
      exact hj ((List.getElem?_inj (List.getElem?_eq_some_iff.1 hb).1 M.nd).1 (hb.trans hbi.symm))
    ·rintro ⟨b, hb, hs⟩
     refine ⟨fun e=>?_,b,hb,fun h=>hs (.inl h)⟩
     subst e
     rw [hbi] at hb;cases hb
     exact hs (.inr rfl)
   ·exact fun yc h2=>HC HF hmn3 AZ (QO _ _ (hle _ _ hL)) V4 yc h2
   ·obtain ⟨res, h, hK⟩ := HD J hJ
    simp only [yz,hq] at h
    exact ⟨res,h,hK⟩
   ·rw [List.length_erase_of_mem Fv]
    have:=List.length_pos_of_mem Fv
    show todo.length - 1<todo.length
    omega
end
end Go.AM
end
section
namespace Go.AM
structure Kz (R:Type) where
 br:Bool→R→R→R
 am:R→R→R
 nd:Bool→R→R
 no:R
 bd:{A:Type}→Option A→(A→R)→R
 sm:{A B:Type}→A ⊕ B→(A→R)→(B→R)→R
 an:{E:Type}→List E→(List E→R)→R
noncomputable def need {X:Type} (c:Bool) (x:Option X):Option X:=@ite _ (c=true) (Classical.propDecidable _) x none
noncomputable def tW {X:Type} (c:Bool) (x y:Option X):Option X:=@ite _ (c=true) (Classical.propDecidable _) x y
noncomputable def C6 {X:Type} (x y:Option X):Option X:=@ite _ (x=y) (Classical.propDecidable _) x none
noncomputable def cL {A X:Type} (o:Option A) (f:A→Option X):Option X:=@dite _ (∃a,o=some a) (Classical.propDecidable _) (fun h=>f h.choose) (fun _=>none)
@[reducible] noncomputable def iO (X:Type):Kz (Option X) where
 br c a b:=tW c a b
 am a b:=C6 a b
 nd c a:=need c a
 no:=none
 bd o f:=cL o f
 sm s f g:=match s with
  | .inl a=>f a
  | .inr b=>g b
 an es f:=ij f es
theorem JI {X:Type} {x y:Option X} {r:X} (h:C6 x y=some r):x=some r∧y=some r:=by
 unfold C6 at h
 split at h
 ·rename_i e;exact ⟨h,e▸h⟩
 ·cases h
@[simp] theorem zz {X:Type} {x:Option X}:C6 x x=x:=by unfold C6;rw [if_pos rfl]
theorem fU {X:Type} {c:Bool} {x:Option X} (h:c=true):need c x=x:=by unfold need;rw [if_pos h]
@[simp] theorem ax {X:Type} {x:Option X}:need true x=x:=fU rfl
@[simp] theorem WI {X:Type} {x:Option X}:need false x=none:=by unfold need;rw [if_neg (by simp)]
@[simp] theorem eG {X:Type} {x y:Option X}:tW true x y=x:=by unfold tW;rw [if_pos rfl]
@[simp] theorem cD {X:Type} {x y:Option X}:tW false x y=y:=by unfold tW;rw [if_neg (by simp)]
@[simp] theorem aF {A X:Type} {a:A} {f:A→Option X}:cL (some a) f=f a:=by
 have h:∃b,some a=some b:=⟨a,rfl⟩
 unfold cL;rw [dif_pos h]
 have:=h.choose_spec
 rw [←Option.some.inj this]
@[simp] theorem oM {A X:Type} {f:A→Option X}:cL none f=none:=by
 unfold cL;rw [dif_neg];rintro ⟨a,h⟩;cases h
theorem cE {X:Type} {c:Bool} {x:Option X} {r:X} (h:need c x=some r):c=true∧x=some r:=by
 cases c<;>simp at h ⊢;exact h
theorem qc {A X:Type} {o:Option A} {f:A→Option X} {r:X} (h:cL o f=some r):∃a,o=some a∧f a=some r:=by
 cases o<;>simp at h ⊢;exact h
theorem oN {X A:Type} {o:Option A} {f:A→Option X} {r:X} (h:(iO X).bd o f=some r):∃a,o=some a∧f a=some r:=qc h
theorem ir {X:Type} {c:Bool} {x y:Option X} {r:X} (h:tW c x y=some r):(c=true∧x=some r)∨(c=false∧y=some r):=by
 cases c<;>simp at h ⊢<;>exact h
section
variable {R:Type}
def fV (v:V) (k:V→R):R:=match v with
 | .any=>k .any
 | .tf b=>match b with
  |true=>k (.tf true)
  |false=>k (.tf false)
 | .bool b=>k (.bool b)
 | .int ik n=>k (.int ik n)
 | .str s=>k (.str s)
 | .dY=>k .dY
 | .b7=>k .b7
 | .eP=>k .eP
 | .ew t xs=>k (.ew t xs)
 | .bL=>k .bL
 | .sl id t lo n=>k (.sl id t lo n)
 | .ptr id off=>k (.ptr id off)
 | .eW cs=>k (.eW cs)
 | .ep id t i p=>k (.ep id t i p)
 | .ip t x=>k (.ip t x)
 | .fn f a b=>k (.fn f a b)
 | .yl id=>k (.yl id)
 | .agg cs=>k (.agg cs)
 | .cw vs=>k (.cw vs)
 | .bT t v=>k (.bT t v)
 | .cb c=>k (.cb c)
 | .mp id=>k (.mp id)
 | .bX=>k .bX
 | .pa id t n=>k (.pa id t n)
 | .kH t xs=>k (.kH t xs)
 | .sp id o l=>k (.sp id o l)
theorem mT (v:V) (k:V→R):fV v k=k v:=by
 cases v<;>try rfl
 rename_i b;cases b<;>rfl
def fN (n:Nat) (k:Nat→R):R:=match n with
 |0=>k 0
 |n+1=>k (n+1)
theorem fG (n:Nat) (k:Nat→R):fN n k=k n:=by cases n<;>rfl
def uu (d:Option Nat) (v:V) (env:Env) (k:Env→R):R:=match d with
 |some t=>k ((t,v)::env)
 |none=>k env
theorem kV (d:Option Nat) (v:V) (env:Env) (k:Env→R):uu d v env k=k (put d v env):=by cases d<;>rfl
def pH (id : Nat) : ah → (ah → R) → R
 |[],k=>k []
 |(s,b)::r,k=>match Nat.beq s id with
  |true=>pH id r k
  |false=>pH id r fun r'=>k ((s,b)::r')
theorem jZ (id : Nat) : ∀ (bl : ah) (k : ah → R), pH id bl k = k (aX id bl)
 |[],k=>rfl
 |(s,b)::r,k=>by
  simp only [pH,aX]
  split<;>rename_i h<;>simp only [h]<;>exact jZ id r _
def gK : dZ → ah → (ah → R) → R
 |[],bl,k=>k bl
 |(id,none)::r,bl,k=>pH id bl fun bl=>gK r bl k
 |(id,some b)::r,bl,k=>pH id bl fun bl=>gK r ((id,b)::bl) k
theorem fH : ∀ (u : dZ) (bl : ah) (k : ah → R), gK u bl k = k (bg u bl)
 |[],_,_=>rfl
 |(id,none)::r,bl,k=>by simp only [gK,jZ,bg];exact fH r _ k
 |(id,some b)::r,bl,k=>by simp only [gK,jZ,bg];exact fH r _ k
def qR (kz : Kz R) : List Bool → R → R
 |[],k=>k
 |b::r,k=>kz.nd b (qR kz r k)
structure Cx where
 pc:{R:Type}→Kz R→Nat→List V→(V→R)→R
 ca:{R:Type}→Kz R→Nat→List V→Nat→ah→(V→Nat→ah→R)→R
 rd:{R:Type}→Kz R→Nat→List V→Nat→ah→(V→Nat→ah→R)→R
 op:Nat:=0
structure Cx.Ok (P:Program) (cx:Cx):Prop where
 Uz:∀{X:Type} {f:Nat} {vs:List V} {K:V→Option X} {r:X},cx.pc (iO X) f vs K=some r→∃v,gE P f vs v∧K v=some r
 QS:∀{X:Type} {f:Nat} {vs:List V} {nx:Nat} {bl:ah} {K:V→Nat→ah→Option X} {r:X},cx.ca (iO X) f vs nx bl K=some r →
  ∀{Q:V→aG→Prop},(∀v nx bl,K v nx bl=some r→Q v ⟨nx,bl⟩)→gH P f vs ⟨nx,bl⟩ Q
 WJ:∀{X:Type} {id:Nat} {vs:List V} {nx:Nat} {bl:ah} {K:V→Nat→ah→Option X} {r:X},cx.rd (iO X) id vs nx bl K=some r →
  ∀{Q:V→aG→Prop},(∀v nx bl,K v nx bl=some r→Q v ⟨nx,bl⟩)→around P id vs ⟨nx,bl⟩ Q
def Cx.l8 (cx:Cx) (n:Nat):Cx:={ cx with op:=n }
def A2 (kz:Kz R) (g:Option (Nat×Bool)) (env:Env) (skip run:Env→R):R:=match g with
 |none=>run env
 |some (s,b)=>match get s env with
  | .tf c=>match c,b with
   |true,true=>run env
   |false,false=>run env
   |true,false=>skip env
   |false,true=>skip env
  | .bool c => kz.br c
   (match b with
    |true=>run ((s,.tf true)::env)
    |false=>skip ((s,.tf true)::env))
   (match b with
    |false=>run ((s,.tf false)::env)
    |true=>skip ((s,.tf false)::env))
  | .cw _=>skip env
  |_=>kz.no
def UA (kz:Kz R) (op:Nat) (ar:Ar) (bl:ah) (k:ah→R):R:=match op with
 |0=>k bl
 |n+1=>match (match n with
   |0=>Lh bl
   |_+1=>Am bl) with
  |[]=>k bl
  |ids=>match KZ ar ids bl with
   |some u=>gK u bl k
   |none=>kz.no
def dmOp : Nat → Nat
 |0=>0
 |_+1=>1
def kI (kz : Kz R) (cx : Cx) (ar : Ar) : List eA → Env → Nat → ah → (Env → Nat → ah → R) → R
 |[],env,nx,bl,K=>K env nx bl
 | .op d g i::r,env,nx,bl,K=>A2 kz g env (fun env=>uu d (.cw []) env fun env=>kI kz cx ar r env nx bl K) fun env =>
   match cx.op with
   |0=>(match Ut ar i env bl nx with
    |some (ob,v,u)=>qR kz ob (fV v fun v=>uu d v env fun env=>match i.lays with
     |true=>fN (nx+1) fun nx=>gK u bl fun bl=>kI kz cx ar r env nx bl K
     |false=>gK u bl fun bl=>kI kz cx ar r env nx bl K)
    |none=>kz.no)
   |_+1=>match ym ar i env bl nx with
    |some (ob,v,u)=>qR kz ob (fV v fun v=>uu d v env fun env=>match i.lays with
     |true=>fN (nx+1) fun nx=>gK u bl fun bl=>kI kz cx ar r env nx bl K
     |false=>gK u bl fun bl=>kI kz cx ar r env nx bl K)
    |none=>match Ut ar i env bl nx with
     |some (ob,v,u)=>qR kz ob (fV v fun v=>uu d v env fun env=>match i.lays with
      |true=>fN (nx+1) fun nx=>gK u bl fun bl=>kI kz cx ar r env nx bl K
      |false=>gK u bl fun bl=>kI kz cx ar r env nx bl K)
     |none=>UA kz 1 ar bl fun bl=>match Ut ar i env bl nx with
      |some (ob,v,u)=>qR kz ob (fV v fun v=>uu d v env fun env=>match i.lays with
       |true=>fN (nx+1) fun nx=>gK u bl fun bl=>kI kz cx ar r env nx bl K
       |false=>gK u bl fun bl=>kI kz cx ar r env nx bl K)
      |none=>kz.no
 | .call d g f a tys::r,env,nx,bl,K=>A2 kz g env (fun env=>uu d (.cw []) env fun env=>kI kz cx ar r env nx bl K) fun env=>UA kz (dmOp cx.op) ar bl fun bl =>
   match f.ev env with
   | .fn f fs cs=>cx.ca kz f (fs++cA tys (a.map (·.ev env))++cs) nx bl fun v nx bl=>fV v fun v=>uu d v env fun env=>kI kz cx ar r env nx bl K
   | .yl id=>cx.rd kz id (cA tys (a.map (·.ev env))) nx bl fun v nx bl=>fV v fun v=>uu d v env fun env=>kI kz cx ar r env nx bl K
   |_=>kz.no
def zA (kz:Kz R) (gs:List Nat) (d:Option Nat) (v:V) (env:Env) (K:Env→R):R:=match d with
 |none=>K env
 |some t=>match Au t gs with
  |false=>K ((t,v)::env)
  |true=>match v with
   | .bool c=>kz.br c (K ((t,.tf true)::env)) (K ((t,.tf false)::env))
   |v=>K ((t,v)::env)
def PM (kz : Kz R) (cx : Cx) (ar : Ar) (gs : List Nat) (b : Nat) : List eA → Nat → Env → ah → List DR → (Env → ah → List DR → R) → R
 |[],_,env,bl,cO,K=>K env bl cO
 | .op d g i::r,k,env,bl,cO,K=>match GU g env with
  |some true=>match (match cx.op with
    |0=>none
    |_+1=>ym ar i env bl (b+k)) with
   |some (ob,v,u)=>qR kz ob (fV v fun v=>zA kz gs d v env fun env'=>gK u bl fun bl=>PM kz cx ar gs b r (k+1) env' bl (vA k (mg i env) (u.map (·.1)) cO) K)
   |none=>match Ut ar i env bl (b+k) with
    |some (ob,v,u)=>qR kz ob (fV v fun v=>zA kz gs d v env fun env'=>gK u bl fun bl=>PM kz cx ar gs b r (k+1) env' bl (vA k (mg i env) (u.map (·.1)) cO) K)
    |none=>kz.no
  |some false=>uu d (.cw []) env fun env=>PM kz cx ar gs b r (k+1) env bl cO K
  |none=>kz.no
 | .call d g f a tys::r,k,env,bl,cO,K=>match GU g env with
  |some true=>match f.ev env with
   | .fn f fs cs=>match fs++cA tys (a.map (·.ev env))++cs with
    |vs=>match cS (fin ar bl 8) vs with
     |some vs'=>cx.pc kz f vs' fun x=>fV x fun x=>match Cm x||vs.all (dy 8) with
      |true=>zA kz gs d x env fun env'=>PM kz cx ar gs b r (k+1) env' bl (vA k (ji bl vs) [] cO) K
      |false=>match vB (ji bl vs) bl with
       |some u=>zA kz gs d x env fun env'=>gK u bl fun bB=>PM kz cx ar gs b r (k+1) env' bB (vA k (ji bl vs) (u.map (·.1)) cO) K
       |none=>kz.no
     |none=>kz.no
   |_=>kz.no
  |some false=>uu d (.cw []) env fun env=>PM kz cx ar gs b r (k+1) env bl cO K
  |none=>kz.no
end
abbrev Kc (R:Type):=Ex→Env→Nat→ah→List Nat→R
structure cq (P:Program) (N:Nat) (out:Option Nat) (base:Nat):Type 1 where
 c:C
 run:{R:Type}→Kz R→Env→Nat→ah→List Nat→Kc R→R
 ok:∀{X:Type} {env:Env} {nx:Nat} {bl:ah} {ms:List Nat} {K:Kc (Option X)} {r:X},run (iO X) env nx bl ms K=some r →
  ∀{Q:Ex→St→Prop},(∀e env nx bl ms,K e env nx bl ms=some r→Q e ⟨env,⟨nx,bl⟩,ms⟩)→(fh P N out base).loop c ⟨env,⟨nx,bl⟩,ms⟩ Q
structure fW (P:Program) (N:Nat) (out:Option Nat) (base:Nat):Type 1 where
 f:O
 ps:List Nat
 a:C
 b:C
 run:{R:Type}→Kz R→Env→Nat→ah→List Nat→Kc R→R
 ok:∀{X:Type} {env:Env} {nx:Nat} {bl:ah} {ms:List Nat} {K:Kc (Option X)} {r:X},run (iO X) env nx bl ms K=some r →
  ∀{Q:Ex→St→Prop},(∀e env nx bl ms,K e env nx bl ms=some r→Q e ⟨env,⟨nx,bl⟩,ms⟩)→(fh P N out base).bq f ps a b ⟨env,⟨nx,bl⟩,ms⟩ Q
structure qS (P:Program) (N:Nat) (out:Option Nat) (base:Nat):Type 1 where
 pre:List eA
 m:O
 it:Nat
 cl:List Nat
 e:Option Nat
 kt:Ty
 kg:Bool
 vt:Ty
 vg:Bool
 pg:Nat
 b:C
 run:{R:Type}→Kz R→Env→Nat→ah→List Nat→Kc R→R
 ok:∀{X:Type} {env:Env} {nx:Nat} {bl:ah} {ms:List Nat} {K:Kc (Option X)} {r:X},run (iO X) env nx bl ms K=some r →
  ∀{Q:Ex→St→Prop},(∀e env nx bl ms,K e env nx bl ms=some r→Q e ⟨env,⟨nx,bl⟩,ms⟩)→(fh P N out base).gz (.gz pre m it cl e kt kg vt vg pg b) ⟨env,⟨nx,bl⟩,ms⟩ Q
structure Fw (P:Program) (N:Nat) (out:Option Nat) (base:Nat) (f:O) (ps:List Nat) (a b:C):Type 1 where
 run:{R:Type}→Kz R→Env→Nat→ah→List Nat→Kc R→R
 ok:∀{X:Type} {env:Env} {nx:Nat} {bl:ah} {ms:List Nat} {K:Kc (Option X)} {r:X},run (iO X) env nx bl ms K=some r →
  ∀{Q:Ex→St→Prop},(∀e env nx bl ms,K e env nx bl ms=some r→Q e ⟨env,⟨nx,bl⟩,ms⟩)→(fh P N out base).bq f ps a b ⟨env,⟨nx,bl⟩,ms⟩ Q
def Fw.s {P:Program} {N:Nat} {out:Option Nat} {base:Nat} {f:O} {ps:List Nat} {a b:C} (T:Fw P N out base f ps a b):fW P N out base:=⟨f,ps,a,b,T.run,T.ok⟩
inductive D (P:Program) (N:Nat) (out:Option Nat) (base:Nat):Type 1 where
 |skip
 |aN (items:List eA)
 |draw (cF:List (List Nat)) (items:List eA)
 |seq (a b:D P N out base)
 |cond (c:O) (a b:D P N out base)
 |block (id:Nat) (c:D P N out base)
 |loop (l:cq P N out base)
 |exit (id:Nat)
 |ret
 |bq (l:fW P N out base)
 |gz (l:qS P N out base)
section
variable {P:Program} {N:Nat} {out:Option Nat} {base:Nat} {R:Type}
def D.er : D P N out base → C
 | .skip=>.skip
 | .aN is=>.aN is
 | .draw ps is=>.draw ps is
 | .seq a b=>.seq a.er b.er
 | .cond c a b=>.cond c a.er b.er
 | .block id c=>.block id c.er
 | .loop l=>.loop l.c
 | .exit id=>.exit id
 | .ret=>.ret
 | .bq l=>.bq l.f l.ps l.a l.b
 | .gz l=>.gz l.pre l.m l.it l.cl l.e l.kt l.kg l.vt l.vg l.pg l.b
def ZM (c:O) (b:Bool) (env:Env):Env:=match c with
 | .t n=>(n,.tf b)::env
 | .c _=>env
 | .m _ _=>env
def kE (kz : Kz R) (cx : Cx) (ar : Ar) : D P N out base → Env → Nat → ah → List Nat → Kc R → R
 | .skip,env,nx,bl,ms,K=>K .normal env nx bl ms
 | .aN is,env,nx,bl,ms,K=>kI kz cx ar is env nx bl fun env nx bl=>K .normal env nx bl ms
 | .draw ps is,env,nx,bl,ms,K=>PM kz cx ar (vE is) nx is 0 env bl [] fun env bl cO=>match Lr ps cO with
  |true=>fN (nx+is.length) fun nx=>K .normal env nx bl ms
  |false=>kz.no
 | .seq a b,env,nx,bl,ms,K=>kE kz cx ar a env nx bl ms fun e env nx bl ms=>match e with
  | .normal=>kE kz cx ar b env nx bl ms K
  | .exit id=>K (.exit id) env nx bl ms
  | .ret=>K .ret env nx bl ms
 | .cond c a b,env,nx,bl,ms,K=>match c.ev env with
  | .tf true=>kE kz cx ar a env nx bl ms K
  | .tf false=>kE kz cx ar b env nx bl ms K
  | .bool x=>kz.br x (kE kz cx ar a (ZM c true env) nx bl ms K) (kE kz cx ar b (ZM c false env) nx bl ms K)
  | .cb x=>kz.br x (kz.am (kE kz cx ar a (ZM c true env) nx bl ms K) (kE kz cx ar b (ZM c false env) nx bl ms K)) (kE kz cx ar b (ZM c false env) nx bl ms K)
  |_=>kz.no
 | .block id c,env,nx,bl,ms,K=>kE kz cx ar c env nx bl ms fun e env nx bl ms=>match e with
  | .normal=>K .normal env nx bl ms
  | .exit id'=>match Nat.beq id' id with
   |true=>K .normal env nx bl ms
   |false=>K (.exit id') env nx bl ms
  | .ret=>K .ret env nx bl ms
 | .loop l,env,nx,bl,ms,K=>UA kz cx.op ar bl fun bl=>l.run kz env nx bl ms K
 | .exit id,env,nx,bl,ms,K=>K (.exit id) env nx bl ms
 | .ret,env,nx,bl,ms,K=>K .ret env nx bl ms
 | .bq l,env,nx,bl,ms,K=>UA kz cx.op ar bl fun bl=>l.run kz env nx bl ms K
 | .gz l,env,nx,bl,ms,K=>UA kz cx.op ar bl fun bl=>l.run kz env nx bl ms K
variable {X:Type} {cx:Cx}
theorem mH {ob:List Bool} {x:Option X} {r:X} (h:qR (iO X) ob x=some r):uk ob∧x=some r:=by
 induction ob with
 |nil=>exact ⟨trivial,h⟩
 |cons b l ih =>
  obtain ⟨h1,h2⟩:=cE h
  obtain ⟨h3,h4⟩:=ih h2
  cases l with
  |nil=>exact ⟨h1,h4⟩
  |cons c l=>exact ⟨⟨h1,h3⟩,h4⟩
theorem zB {g : Option (Nat × Bool)} {env : Env} {nx : Nat} {bl : ah} {ms : List Nat} {skip run : Env → Option X} {r : X} (h : A2 (iO X) g env skip run = some r) {d : Option Nat} {K run' : St → Prop}
  (hs:∀env,skip env=some r→K ⟨put d (.cw []) env,⟨nx,bl⟩,ms⟩) (hr:∀env,run env=some r→run' ⟨env,⟨nx,bl⟩,ms⟩):oD g d ⟨env,⟨nx,bl⟩,ms⟩ K run':=by
 unfold A2 at h
 unfold oD
 split at h
 ·exact hr _ h
 ·rename_i s b
  simp only
  split at h
  ·rename_i c hc
   rw [hc]
   cases c<;>cases b<;>simp only at h ⊢
   ·exact hr _ h
   ·exact hs _ h
   ·exact hs _ h
   ·exact hr _ h
  ·rename_i c hc
   rw [hc]
   rcases ir h with ⟨e,h⟩|⟨e,h⟩
   ·refine ⟨fun _ => ?_, fun e' => by rw [e] at e'; cases e'⟩
    cases b<;>simp only at h ⊢
    ·exact hs _ h
    ·exact hr _ h
   ·refine ⟨fun e' => (by rw [e] at e'; cases e'), fun _ => ?_⟩
    cases b<;>simp only at h ⊢
    ·exact hr _ h
    ·exact hs _ h
  ·rename_i hc
   rw [hc]
   exact hs _ h
  ·cases h
theorem Mx {op:Nat} {bl:ah} {k:ah→Option X} {r:X} (h:UA (iO X) op dU bl k=some r):k bl=some r∨∃ids u,KZ (fh P N out base) ids bl=some u∧k (bg u bl)=some r:=by
 unfold UA at h
 split at h
 ·exact .inl h
 ·split at h
  ·exact .inl h
  ·split at h <;> try (cases h; done)
   rename_i u hu
   rw [fH] at h
   exact .inr ⟨_,u,by unfold fh;rw [Md];exact hu,h⟩
theorem A3 {op:Nat} {env:Env} {nx:Nat} {bl:ah} {ms:List Nat} {k:ah→Option X} {r:X} (h:UA (iO X) op dU bl k=some r) {K:St→Prop} (hK:∀bl,k bl=some r→K ⟨env,⟨nx,bl⟩,ms⟩):Li (fh P N out base) ⟨env,⟨nx,bl⟩,ms⟩ K:=by
 rcases Mx (P:=P) (N:=N) (out:=out) (base:=base) h with h|⟨ids,u,hu,h⟩
 ·exact .inl (hK _ h)
 ·exact .inr ⟨ids,u,hu,hK _ h⟩
theorem nV (fZ:cx.Ok P):∀{is:List eA} {env:Env} {nx:Nat} {bl:ah} {ms:List Nat} {K:Env→Nat→ah→Option X} {r:X} {Q:St→Prop},kI (iO X) cx dU is env nx bl K=some r →
  (∀env nx bl,K env nx bl=some r→Q ⟨env,⟨nx,bl⟩,ms⟩)→eZ (fh P N out base) is ⟨env,⟨nx,bl⟩,ms⟩ Q
 |[],env,nx,bl,ms,K,r,Q,h,hK=>hK _ _ _ h
 | .op d g i::is,env,nx,bl,ms,K,r,Q,h,hK=>by
  simp only [kI] at h
  simp only [eZ]
  have body:∀{env:Env} {bl:ah} {ob:List Bool} {v:V} {u:dZ},Ut dU i env bl nx=some (ob,v,u) →
    qR (iO X) ob (fV v fun v=>uu d v env fun env=>match i.lays with
     |true=>fN (nx+1) fun nx=>gK u bl fun bl=>kI (iO X) cx dU is env nx bl K
     |false=>gK u bl fun bl=>kI (iO X) cx dU is env nx bl K)=some r →
    bM (fh P N out base) i env bl nx=some (ob,v,u)∧uk ob∧eZ (fh P N out base) is ⟨put d v env,⟨K0 i.lays nx,bg u bl⟩,ms⟩ Q:=by
   intro env bl ob v u ag h
   obtain ⟨cI,h⟩:=mH h
   rw [mT,kV] at h
   rw [Mk] at ag
   refine ⟨by unfold fh;rw [Mb];exact ag,cI,?_⟩
   split at h
   ·rename_i hl
    rw [fG,fH] at h
    simp only [hl,K0]
    exact nV fZ h hK
   ·rename_i hl
    rw [fH] at h
    simp only [hl,K0]
    exact nV fZ h hK
  refine zB h (fun env h=>?_) (fun env h=>?_)
  ·rw [kV] at h;exact nV fZ h hK
  ·split at h
   ·split at h
    ·rename_i ob v u ag
     obtain ⟨h1,h2,h3⟩:=body ag h
     exact AV h1 h2 h3
    ·cases h
   ·split at h
    ·rename_i ob v u ag
     obtain ⟨cI,h⟩:=mH h
     rw [mT,kV] at h
     refine Wu (by unfold fh;rw [Mc];exact ag) cI ?_
     split at h
     ·rename_i hl
      rw [fG,fH] at h
      simp only [hl,K0]
      exact nV fZ h hK
     ·rename_i hl
      rw [fH] at h
      simp only [hl,K0]
      exact nV fZ h hK
    ·split at h
     ·rename_i ob v u ag
      obtain ⟨h1,h2,h3⟩:=body ag h
      exact AV h1 h2 h3
     ·rcases Mx (P := P) (N := N) (out := out) (base := base) h with h | ⟨ids, u', hu, h⟩
      ·split at h
       ·rename_i ob v u ag
        obtain ⟨h1,h2,h3⟩:=body ag h
        exact AV h1 h2 h3
       ·cases h
      ·split at h
       ·rename_i ob v u ag
        obtain ⟨h1,h2,h3⟩:=body ag h
        exact Wv hu h1 h2 h3
       ·cases h
 | .call d g f a tys::is,env,nx,bl,ms,K,r,Q,h,hK=>by
  simp only [kI] at h
  simp only [eZ]
  refine zB h (fun env h=>?_) (fun env h=>?_)
  ·rw [kV] at h;exact nV fZ h hK
  ·simp only [EZ]
   refine A3 h fun bl h=>?_
   simp only [uJ]
   split at h
   ·rename_i f' fs cs hf
    rw [hf]
    refine fZ.QS h fun v nx bl h=>?_
    rw [mT,kV] at h
    exact nV fZ h hK
   ·rename_i id hf
    rw [hf]
    refine fZ.WJ h fun v nx bl h=>?_
    rw [mT,kV] at h
    exact nV fZ h hK
   ·cases h
theorem qT {gs:List Nat} {d:Option Nat} {v:V} {env:Env} {K:Env→Option X} {r:X} (h:zA (iO X) gs d v env K=some r) {K':Env→Prop} (hK:∀env,K env=some r→K' env):Cn gs d v env K':=by
 unfold zA at h
 unfold Cn
 cases d with
 |none=>exact hK _ h
 |some t =>
  simp only at h ⊢
  split at h
  ·rename_i hm;rw [hm];exact hK _ h
  ·rename_i hm
   rw [hm]
   simp only
   split at h
   ·rename_i c
    simp only
    rcases ir h with ⟨e,h⟩|⟨e,h⟩
    ·exact ⟨fun _=>hK _ h,fun e'=>by rw [e] at e';cases e'⟩
    ·exact ⟨fun e'=>(by rw [e] at e';cases e'),fun _=>hK _ h⟩
   ·rename_i hv
    have:=hK _ h
    cases v<;>first|exact this|exact (hv _ rfl).elim
theorem qd (fZ:cx.Ok P) {gs:List Nat} {b:Nat}:∀{is:List eA} {k:Nat} {env:Env} {bl:ah} {cO:List DR} {K:Env→ah→List DR→Option X} {r:X} {Q:Env→ah→List DR→Prop},
  PM (iO X) cx dU gs b is k env bl cO K=some r→(∀env bl cO,K env bl cO=some r→Q env bl cO)→qE (fh P N out base) gs b is k env bl cO Q
 |[],k,env,bl,cO,K,r,Q,h,hK=>hK _ _ _ h
 | .op d g i::is,k,env,bl,cO,K,r,Q,h,hK=>by
  simp only [PM] at h
  simp only [qE]
  split at h
  ·rename_i hg
   rw [hg]
   split at h
   ·rename_i ob v u ag
    obtain ⟨cI,h⟩:=mH h
    rw [mT] at h
    have WK:ym (fh P N out base) i env bl (b+k)=some (ob,v,u):=by
     unfold fh;rw [Mc]
     split at ag
     ·cases ag
     ·exact ag
    refine .inr (yS WK cI (qT h fun env h=>?_))
    rw [fH] at h
    exact qd fZ h hK
   ·split at h
    ·rename_i ob v u ag
     obtain ⟨cI,h⟩:=mH h
     rw [mT] at h
     rw [Mk] at ag
     have WK:bM (fh P N out base) i env bl (b+k)=some (ob,v,u):=by unfold fh;rw [Mb];exact ag
     refine .inl (yS WK cI (qT h fun env h=>?_))
     rw [fH] at h
     exact qd fZ h hK
    ·cases h
  ·rename_i hg
   rw [hg]
   rw [kV] at h
   exact qd fZ h hK
  ·cases h
 | .call d g f a tys::is,k,env,bl,cO,K,r,Q,h,hK=>by
  simp only [PM] at h
  simp only [qE]
  split at h
  ·rename_i hg
   rw [hg]
   split at h
   ·rename_i f' fs cs hf
    rw [hf]
    split at h
    ·rename_i vs' hm
     obtain ⟨v,hp,h⟩:=fZ.Uz h
     rw [mT] at h
     have e:cS (fin (fh P N out base) bl 8)=cS (fin dU bl 8):=funext fun vs=>mE (fun v=>by unfold fh;exact wq) vs
     simp only [e,hm]
     split at h
     ·rename_i hsc
      exact ⟨v,[],hp,by rw [hsc];rfl,qT h fun env h=>qd fZ h hK⟩
     ·rename_i hsc
      split at h
      ·rename_i u hu
       exact ⟨v,u,hp,by rw [hsc];exact hu,qT h fun env h=>qd fZ (by rw [fH] at h;exact h) hK⟩
      ·cases h
    ·cases h
   ·cases h
  ·rename_i hg
   rw [hg]
   rw [kV] at h
   exact qd fZ h hK
  ·cases h
theorem kW (fZ:cx.Ok P):∀{d:D P N out base} {env:Env} {nx:Nat} {bl:ah} {ms:List Nat} {K:Kc (Option X)} {r:X} {Q:Ex→St→Prop},kE (iO X) cx dU d env nx bl ms K=some r →
  (∀e env nx bl ms,K e env nx bl ms=some r→Q e ⟨env,⟨nx,bl⟩,ms⟩)→qF (fh P N out base) d.er ⟨env,⟨nx,bl⟩,ms⟩ Q:=by
 intro d
 induction d with
 |skip=>intro env nx bl ms K r Q h hK;exact hK _ _ _ _ _ h
 |aN is=>intro env nx bl ms K r Q h hK;exact nV fZ h fun env nx bl h=>hK _ _ _ _ _ h
 |draw ps is =>
  intro env nx bl ms K r Q h hK
  refine qd fZ h fun env bl cO h=>?_
  split at h
  ·rename_i hd
   rw [fG] at h
   exact ⟨hd,hK _ _ _ _ _ h⟩
  ·cases h
 |seq a b Fy EG =>
  intro env nx bl ms K r Q h hK
  refine Fy h fun e env nx bl ms h=>?_
  cases e with
  |normal=>exact EG h hK
  |exit id=>exact hK _ _ _ _ _ h
  |ret=>exact hK _ _ _ _ _ h
 |cond c a b Fy EG =>
  intro env nx bl ms K r Q h hK
  simp only [kE] at h
  simp only [D.er,qF]
  have hrw:∀x env,Qb c x ⟨env,⟨nx,bl⟩,ms⟩=⟨ZM c x env,⟨nx,bl⟩,ms⟩:=fun x env=>by cases c<;>rfl
  split at h
  ·rename_i hc;rw [hc];exact Fy h hK
  ·rename_i hc;rw [hc];exact EG h hK
  ·rename_i x hc
   rw [hc]
   rcases ir h with ⟨e,h⟩|⟨e,h⟩
   ·refine ⟨fun _ => ?_, fun e' => by rw [e] at e'; cases e'⟩
    rw [hrw];exact Fy h hK
   ·refine ⟨fun e' => (by rw [e] at e'; cases e'), fun _ => ?_⟩
    rw [hrw];exact EG h hK
  ·rename_i x hc
   rw [hc]
   rcases ir h with ⟨e,h⟩|⟨e,h⟩
   ·obtain ⟨h1, h2⟩ := JI h
    exact ⟨fun _=>by rw [hrw];exact Fy h1 hK,by rw [hrw];exact EG h2 hK⟩
   ·exact ⟨fun e'=>(by rw [e] at e';cases e'),by rw [hrw];exact EG h hK⟩
  ·cases h
 |block id c ih =>
  intro env nx bl ms K r Q h hK
  refine ih h fun e env nx bl ms h=>?_
  cases e with
  |normal=>exact hK _ _ _ _ _ h
  |exit id' =>
   simp only at h ⊢
   split at h
   ·rename_i e;rw [e];exact hK _ _ _ _ _ h
   ·rename_i e;rw [e];exact hK _ _ _ _ _ h
  |ret=>exact hK _ _ _ _ _ h
 |loop l=>intro env nx bl ms K r Q h hK;exact A3 h fun bl h=>l.ok h hK
 |exit id=>intro env nx bl ms K r Q h hK;exact hK _ _ _ _ _ h
 |ret=>intro env nx bl ms K r Q h hK;exact hK _ _ _ _ _ h
 |bq l=>intro env nx bl ms K r Q h hK;exact A3 h fun bl h=>l.ok h hK
 |gz l=>intro env nx bl ms K r Q h hK;exact A3 h fun bl h=>l.ok h hK
end
end Go.AM
end
section
namespace Go.AM
inductive CP where
 |any
 |tf (b:Bool)
 |dY
 |b7
 |eP
 |bL
 |hole (t:Ty)
 |cB (b:Nat) (t:Ty)
 |PN (b:Nat) (t:Ty)
 |ptr (b off:Nat)
 |yl (b:Nat)
 |eW (t:Ty)
 |fn0 (f:Nat)
 |JJ (l:CP)
 |JK (l:CP)
 |fn (f:Nat) (a b:CP)
 |Fz (t:Nat) (g:Bool) (l:CP)
 |mp (b:Nat)
 |bX
 |pa (b:Nat) (t:Ty) (n:Nat)
 |kH (t:Ty)
 |nil
 |cons (c l:CP)
inductive SP where
 |c (c:CP)
 |agg (cs:List CP)
 |cw (cs:List CP)
 |fn (f:Nat) (a b:List CP)
 |alt (a b:List CP)
def CP.T : CP → Type → Type
 | .hole t,A=>t.den×A
 | .cB _ _,A=>Nat×A
 | .PN _ _,A=>Nat×Nat×A
 | .eW t,A=>t.den×A
 | .kH t,A=>List t.den×A
 | .Fz _ _ l,A=>l.T A
 | .mp _,A=>A
 | .bX,A=>A
 | .pa _ _ _,A=>A
 | .JJ l,A=>l.T A
 | .JK l,A=>l.T A
 | .fn _ a b,A=>a.T (b.T A)
 | .cons c l,A=>c.T (l.T A)
 | .any,A=>A
 | .tf _,A=>A
 | .dY,A=>A
 | .b7,A=>A
 | .eP,A=>A
 | .bL,A=>A
 | .ptr _ _,A=>A
 | .yl _,A=>A
 | .fn0 _,A=>A
 | .nil,A=>A
def tyV : (t : Ty) → t.den → V
 | .unit,_=>.agg []
 | .bool,b=>.bool b
 | .str,s=>.str s
 | .int k,n=>.int k n
 | .list t,xs=>.ew t xs
 | .prod a b,x=>.agg (bU (.prod a b) x)
 | .bT d g t,x=>.bT d (bU.iH g (bU t x))
def CP.r : (c : CP) → {A : Type} → c.T A → A
 | .any,_,x=>x
 | .tf _,_,x=>x
 | .dY,_,x=>x
 | .b7,_,x=>x
 | .eP,_,x=>x
 | .bL,_,x=>x
 | .hole _,_,x=>x.2
 | .cB _ _,_,x=>x.2
 | .PN _ _,_,x=>x.2.2
 | .ptr _ _,_,x=>x
 | .yl _,_,x=>x
 | .eW _,_,x=>x.2
 | .kH _,_,x=>x.2
 | .Fz _ _ l,_,x=>l.r x
 | .mp _,_,x=>x
 | .bX,_,x=>x
 | .pa _ _ _,_,x=>x
 | .fn0 _,_,x=>x
 | .JJ l,_,x=>l.r x
 | .JK l,_,x=>l.r x
 | .fn _ a b,_,x=>b.r (a.r x)
 | .nil,_,x=>x
 | .cons c l,_,x=>l.r (c.r x)
def CP.vs : (c : CP) → {A : Type} → c.T A → List V
 | .any,_,_=>[.any]
 | .tf b,_,_=>[.tf b]
 | .dY,_,_=>[.dY]
 | .b7,_,_=>[.b7]
 | .eP,_,_=>[.eP]
 | .bL,_,_=>[.bL]
 | .hole t,_,x=>[tyV t x.1]
 | .cB b t,_,x=>[.sl b t 0 x.1]
 | .PN b t,_,x=>[.sl b t x.1 x.2.1]
 | .ptr b off,_,_=>[.ptr b off]
 | .yl b,_,_=>[.yl b]
 | .eW t,_,x=>[.eW (bU t x.1)]
 | .fn0 f,_,_=>[.fn f [] []]
 | .JJ l,_,x=>[.eW (l.vs x)]
 | .JK l,_,x=>[.agg (l.vs x)]
 | .Fz t g l,_,x=>[.bT t (bU.iH g (l.vs x))]
 | .mp b,_,_=>[.mp b]
 | .bX,_,_=>[.bX]
 | .pa b t n,_,_=>[.pa b t n]
 | .kH t,_,x=>[.kH t x.1]
 | .fn f a b,_,x=>[.fn f (a.vs x) (b.vs (a.r x))]
 | .nil,_,_=>[]
 | .cons c l,_,x=>c.vs x++l.vs (c.r x)
def Mo : List V → V
 |v::_=>v
 |[]=>.any
def CP.v {A:Type} (c:CP) (x:c.T A):V:=Mo (c.vs x)
def lR : List CP → Type → Type
 |[],A=>A
 |c::r,A=>c.T (lR r A)
def qe {A : Type} : (cs : List CP) → lR cs A → List V
 |[],_=>[]
 |c::r,x=>c.v x::qe r (c.r x)
def qU {A : Type} : (cs : List CP) → lR cs A → A
 |[],x=>x
 |c::r,x=>qU r (c.r x)
def SP.T : SP → Type → Type
 | .c q,A=>q.T A
 | .agg cs,A=>lR cs A
 | .cw cs,A=>lR cs A
 | .fn _ a b,A=>lR a (lR b A)
 | .alt a b,A=>lR a A ⊕ lR b A
def SP.v {A : Type} : (p : SP) → p.T A → V
 | .c q,x=>q.v x
 | .agg cs,x=>.agg (qe cs x)
 | .cw cs,x=>.cw (qe cs x)
 | .fn f a b,x=>.fn f (qe a x) (qe b (qU a x))
 | .alt a b,x=>match x with
  | .inl y=>.cw (qe a y)
  | .inr y=>.cw (qe b y)
def SP.r {A : Type} : (p : SP) → p.T A → A
 | .c q,x=>q.r x
 | .agg cs,x=>qU cs x
 | .cw cs,x=>qU cs x
 | .fn _ a b,x=>qU b (qU a x)
 | .alt a b,x=>match x with
  | .inl y=>qU a y
  | .inr y=>qU b y
def yC : List (Nat × SP) → Type → Type
 |[],A=>A
 |(_,p)::r,A=>p.T (yC r A)
def wH {A : Type} : (ps : List (Nat × SP)) → yC ps A → Env
 |[],_=>[]
 |(s,p)::r,x=>(s,p.v x)::wH r (p.r x)
def My {A : Type} : (ps : List (Nat × SP)) → yC ps A → A
 |[],x=>x
 |(_,p)::r,x=>My r (p.r x)
inductive BP where
 |arr (t:Ty) (fz:Bool)
 |cells (cs:List CP) (fz:Bool)
 |loop (st:pR) (j:Option Ex) (d:Nat) (env:List (Nat×SP)) (ps:List Nat) (as bd:C) (N:Nat)
 |gQ
 |map (kt:Ty) (kg:Bool) (vt:Ty) (vg:Bool)
 |l8 (t:Ty) (i:Nat) (p:List Bool) (c:CP)
def BP.T : BP → Type → Type
 | .arr t _,A=>List t.den×A
 | .cells cs _,A=>lR cs A
 | .loop _ _ _ env _ _ _ _,A=>yC env A
 | .gQ,A=>A
 | .map kt _ vt _,A=>List (kt.den×vt.den)×A
 | .l8 t _ _ c,A=>List t.den×c.T A
def BP.v {A : Type} : (p : BP) → p.T A → kF
 | .arr t fz,x=>.arr t x.1 fz
 | .cells cs fz,x=>.cells (qe cs x) fz
 | .loop st j d env ps as bd N,x=>.loop st j d (wH env x) ps as bd N
 | .gQ,_=>.gQ
 | .map kt kg vt vg,x=>.map kt kg vt vg x.1
 | .l8 t i p c,x=>.l8 t x.1 i p (c.v x.2)
def BP.r {A : Type} : (p : BP) → p.T A → A
 | .arr _ _,x=>x.2
 | .cells cs _,x=>qU cs x
 | .loop _ _ _ env _ _ _ _,x=>My env x
 | .gQ,x=>x
 | .map _ _ _ _,x=>x.2
 | .l8 _ _ _ c,x=>c.r x.2
def QT : List (Nat × BP) → Type → Type
 |[],A=>A
 |(_,p)::r,A=>p.T (QT r A)
def PO {A : Type} : (ps : List (Nat × BP)) → QT ps A → ah
 |[],_=>[]
 |(s,p)::r,x=>(s,p.v x)::PO r (p.r x)
inductive Lc where
 |slot (s:Nat)
 |part (s k:Nat)
 |cell (b k:Nat)
 |old (i:Nat)
 |mark (j:Nat)
structure ay where
 env:List (Nat×SP)
 bl:List (Nat×BP)
 gA:List Lc
 ms:List Nat
def ay.T (p:ay):Type:=yC p.env (QT p.bl Unit)
def ay.E (p:ay) (x:p.T):Env:=wH p.env x
def ay.B (p:ay) (x:p.T):ah:=PO p.bl (My p.env x)
def ay.st (base:Nat) (p:ay) (x:p.T):St:=⟨p.E x,⟨base+p.gA.length,p.B x⟩,p.ms⟩
def uv : List Nat → Nat → Option Nat
 |[],_=>none
 |i::_,0=>some i
 |_::r,n+1=>uv r n
def lC : Bool → Bool → Bool
 |true,true=>true
 |false,false=>true
 |_,_=>false
def lS : (t t' : Ty) → Bool
 | .unit,.unit=>true
 | .bool,.bool=>true
 | .str,.str=>true
 | .int k,.int k'=>decide (k=k')
 | .list t,.list t'=>lS t t'
 | .prod a b,.prod a' b'=>match lS a a' with
  |true=>lS b b'
  |false=>false
 | .bT d g a,.bT d' g' a'=>match Nat.beq d d' with
  |true=>match lC g g' with
   |true=>lS a a'
   |false=>false
  |false=>false
 |_,_=>false
def yD (π:List Nat) (b i:Nat):Bool:=match uv π b with
 |some j=>Nat.beq j i
 |none=>false
def A4 : (t : Ty) → V → Option t.den
 | .bool,.bool b=>some b
 | .bool,.tf b=>some b
 | .str,.str s=>some s
 | .int k,.int k' n=>match decide (k=k') with
  |true=>some n
  |false=>none
 | .list t,.ew t' xs=>jL t' t xs
 | .list _,.bL=>some []
 | .prod a b,.agg cs=>match aV dU [] (.prod a b) cs with
  |some (x,_,[])=>some x
  |_=>none
 | .bT d g a,v=>match aV dU [] (.bT d g a) [v] with
  |some (x,_,[])=>some x
  |_=>none
 |_,_=>none
def CP.rd1 {A:Type} (π:List Nat) (c:CP) (v:V):Option (A→c.T A) :=
 match c with
 | .any=>some fun a=>a
 | .tf b=>match v with
  | .tf b'=>match lC b b' with
   |true=>some fun a=>a
   |false=>none
  |_=>none
 | .dY=>match v with
  | .dY=>some fun a=>a
  |_=>none
 | .b7=>match v with
  | .b7=>some fun a=>a
  |_=>none
 | .eP=>match v with
  | .eP=>some fun a=>a
  |_=>none
 | .bL=>match v with
  | .bL=>some fun a=>a
  |_=>none
 | .hole t=>match A4 t v with
  |some x=>some fun a=>(x,a)
  |none=>none
 | .cB b t=>match v with
  | .sl i t' lo n=>match yD π b i with
   |true=>match lS t' t with
    |true=>match Nat.beq lo 0 with
     |true=>some fun a=>(n,a)
     |false=>none
    |false=>none
   |false=>none
  | .bL=>some fun a=>((0:Nat),a)
  |_=>none
 | .PN b t=>match v with
  | .sl i t' lo n=>match yD π b i with
   |true=>match lS t' t with
    |true=>some fun a=>(lo,n,a)
    |false=>none
   |false=>none
  | .bL=>some fun a=>((0:Nat),(0:Nat),a)
  |_=>none
 | .ptr b off=>match v with
  | .ptr i o=>match yD π b i with
   |true=>match Nat.beq o off with
    |true=>some fun a=>a
    |false=>none
   |false=>none
  |_=>none
 | .yl b=>match v with
  | .yl i=>match yD π b i with
   |true=>some fun a=>a
   |false=>none
  |_=>none
 | .eW t=>match v with
  | .eW cs=>match aV dU [] t cs with
   |some (x,_,[])=>some fun a=>(x,a)
   |_=>none
  |_=>none
 | .mp b=>match v with
  | .mp i=>match yD π b i with
   |true=>some fun a=>a
   |false=>none
  |_=>none
 | .bX=>match v with
  | .bX=>some fun a=>a
  |_=>none
 | .pa b t n=>match v with
  | .pa i t' n'=>match yD π b i with
   |true=>match lS t' t with
    |true=>match Nat.beq n' n with
     |true=>some fun a=>a
     |false=>none
    |false=>none
   |false=>none
  |_=>none
 | .kH t=>match v with
  | .kH t' xs=>match jL t' t xs with
   |some ys=>some fun a=>(ys,a)
   |none=>none
  |_=>none
 | .fn0 f=>match v with
  | .fn f' [] []=>match Nat.beq f' f with
   |true=>some fun a=>a
   |false=>none
  |_=>none
 |_=>none
def CP.EH (π : List Nat) : (c : CP) → {A : Type} → List V → Option ((A → c.T A) × List V)
 | .nil,_,vs=>some (fun a=>a,vs)
 | .cons c l,A,vs=>match c.EH π (A:=l.T A) vs with
  |some (f,vs')=>match l.EH π (A:=A) vs' with
   |some (g,vs'')=>some (fun a=>f (g a),vs'')
   |none=>none
  |none=>none
 | .JJ l,A,vs=>match vs with
  | .eW cs::r=>match l.EH π (A:=A) cs with
   |some (f,[])=>some (f,r)
   |_=>none
  |_=>none
 | .JK l,A,vs=>match vs with
  | .agg cs::r=>match l.EH π (A:=A) cs with
   |some (f,[])=>some (f,r)
   |_=>none
  |_=>none
 | .Fz t g l,A,vs=>match vs with
  | .bT t' v::r=>match Nat.beq t' t with
   |true=>match Ak g v with
    |some cs=>match l.EH π (A:=A) cs with
     |some (f,[])=>some (f,r)
     |_=>none
    |none=>none
   |false=>none
  |_=>none
 | .fn f a b,A,vs=>match vs with
  | .fn f' va vb::r=>match Nat.beq f' f with
   |true=>match a.EH π (A:=b.T A) va with
    |some (g,[])=>match b.EH π (A:=A) vb with
     |some (h,[])=>some (fun x=>g (h x),r)
     |_=>none
    |_=>none
   |false=>none
  |_=>none
 |c,_,vs=>match vs with
  |v::r=>match c.rd1 π v with
   |some f=>some (f,r)
   |none=>none
  |[]=>none
def CP.rd {A:Type} (π:List Nat) (c:CP) (v:V):Option (A→c.T A):=match c.EH π (A:=A) [v] with
 |some (f,[])=>some f
 |_=>none
def eY {A : Type} (π : List Nat) : (cs : List CP) → List V → Option (A → lR cs A)
 |[],[]=>some fun a=>a
 |c::r,v::vs=>match CP.rd (A:=lR r A) π c v with
  |some f=>match eY (A:=A) π r vs with
   |some g=>some fun a=>f (g a)
   |none=>none
  |none=>none
 |_,_=>none
def SP.rd {A:Type} (π:List Nat) (p:SP) (v:V):Option (A→p.T A) :=
 match p with
 | .c q=>q.rd π v
 | .agg cs=>match v with
  | .agg vs=>eY π cs vs
  |_=>none
 | .cw cs=>match v with
  | .cw vs=>eY π cs vs
  |_=>none
 | .fn f a b=>match v with
  | .fn f' va vb=>match Nat.beq f' f with
   |true=>match eY (A:=lR b A) π a va with
    |some g=>match eY (A:=A) π b vb with
     |some h=>some fun x=>g (h x)
     |none=>none
    |none=>none
   |false=>none
  |_=>none
 | .alt a b=>match v with
  | .cw vs=>match eY (A:=A) π a vs with
   |some f=>some fun x=>.inl (f x)
   |none=>match eY (A:=A) π b vs with
    |some f=>some fun x=>.inr (f x)
    |none=>none
  |_=>none
def SP.kv {R : Type} (kz : Kz R) : (p : SP) → p.T Unit → (V → R) → R
 | .alt a b,y,K=>kz.sm (A:=lR a Unit) (B:=lR b Unit) y (fun x=>K (.cw (qe a x))) (fun x=>K (.cw (qe b x)))
 | .c q,y,K=>K (SP.v (.c q) y)
 | .agg cs,y,K=>K (SP.v (.agg cs) y)
 | .cw cs,y,K=>K (SP.v (.cw cs) y)
 | .fn f a b,y,K=>K (SP.v (.fn f a b) y)
theorem SP.aaS {X : Type} : ∀ (p : SP) (y : p.T Unit) (K : V → Option X), p.kv (iO X) y K = K (p.v y)
 | .alt _ _,.inl _,_=>rfl
 | .alt _ _,.inr _,_=>rfl
 | .c _,_,_=>rfl
 | .agg _,_,_=>rfl
 | .cw _,_,_=>rfl
 | .fn _ _ _,_,_=>rfl
def zC {A : Type} (π : List Nat) (env : Env) : (ps : List (Nat × SP)) → Option (A → yC ps A)
 |[]=>some fun a=>a
 |(s,p)::r=>match SP.rd (A:=yC r A) π p (get s env) with
  |some f=>match zC (A:=A) π env r with
   |some g=>some fun a=>f (g a)
   |none=>none
  |none=>none
mutual
def QU : V → V → Bool
 | .any,.any=>true
 | .tf a,.tf b=>lC a b
 | .bool a,.bool b=>lC a b
 | .int k n,.int k' m=>match decide (k=k') with
  |true=>decide (n=m)
  |false=>false
 | .dY,.dY=>true
 | .b7,.b7=>true
 | .eP,.eP=>true
 | .bX,.bX=>true
 | .bL,.bL=>true
 | .str s,.str s'=>decide (s=s')
 | .fn f a b,.fn f' a' b'=>match Nat.beq f f' with
  |true=>match pI a a' with
   |true=>pI b b'
   |false=>false
  |false=>false
 | .agg a,.agg b=>pI a b
 |_,_=>false
def pI : List V → List V → Bool
 |[],[]=>true
 |a::r,b::s=>match QU a b with
  |true=>pI r s
  |false=>false
 |_,_=>false
end
mutual
theorem HG : ∀ {a b : V}, QU a b = true → a = b
 |a,b,h=>by
  cases a<;>cases b<;>simp only [QU,Bool.false_eq_true] at h<;>try rfl
  case tf.tf x y=>cases x<;>cases y<;>simp_all [lC]
  case bool.bool x y=>cases x<;>cases y<;>simp_all [lC]
  case int.int=>split at h<;>simp_all
  case str.str=>simp_all
  case fn.fn =>
   split at h<;>try (cases h;done)
   rename_i h1
   split at h<;>try (cases h;done)
   rename_i h2
   rw [Nat.eq_of_beq_eq_true h1,lT h2,lT h]
  case agg.agg=>rw [lT h]
theorem lT : ∀ {a b : List V}, pI a b = true → a = b
 |[],[],_=>rfl
 |a::r,b::s,h=>by
  simp only [pI] at h
  split at h<;>try (cases h;done)
  rename_i h1
  rw [HG h1,lT h]
 |[],_::_,h=>by simp [pI] at h
 |_::_,[],h=>by simp [pI] at h
end
end Go.AM
end
section
namespace Go.AM
def an (a b:Bool):Bool:=match a with
 |true=>b
 |false=>false
theorem aM {a b:Bool}:an a b=true↔a=true∧b=true:=by cases a<;>simp [an]
theorem dQ {a b:Bool} (h:lC a b=true):a=b:=by cases a<;>cases b<;>simp_all [lC]
theorem kX:∀{t t':Ty},lS t t'=true→t=t':=by
 intro t
 induction t with
 |unit=>intro t' h;cases t'<;>simp [lS] at h ⊢
 |bool=>intro t' h;cases t'<;>simp [lS] at h ⊢
 |str=>intro t' h;cases t'<;>simp [lS] at h ⊢
 |int k=>intro t' h;cases t'<;>simp [lS] at h ⊢;exact h
 |list t ih=>intro t' h;cases t'<;>simp [lS] at h ⊢;exact ih h
 |prod a b Fy EG =>
  intro t' h
  cases t'<;>simp only [lS,Bool.false_eq_true] at h
  split at h<;>try (cases h;done)
  rename_i h1
  rw [Fy h1,EG h]
 |bT d g a ih =>
  intro t' h
  cases t'<;>simp only [lS,Bool.false_eq_true] at h
  split at h<;>try (cases h;done)
  rename_i h1
  split at h<;>try (cases h;done)
  rename_i h2
  rw [Nat.eq_of_beq_eq_true h1,dQ h2,ih h]
def Mz (a b:IntKind):Bool:=decide (a=b)
theorem MA {a b:IntKind} (h:Mz a b=true):a=b:=by simpa [Mz] using h
def MB (a b:yg):Bool:=decide (a=b)
theorem MC {a b:yg} (h:MB a b=true):a=b:=by simpa [MB] using h
def MD : Kd → Kd → Bool
 | .b,.b=>true
 | .i,.i=>true
 | .s,.s=>true
 |_,_=>false
theorem ME {x y:Kd} (h:MD x y=true):x=y:=by cases x<;>cases y<;>simp_all [MD]
def j4 {α : Type} (f : α → α → Bool) : List α → List α → Bool
 |[],[]=>true
 |a::r,b::s=>match f a b with
  |true=>j4 f r s
  |false=>false
 |_,_=>false
theorem eH {α : Type} {f : α → α → Bool} (hf : ∀ {a b}, f a b = true → a = b) : ∀ {a b : List α}, j4 f a b = true → a = b
 |[],[],_=>rfl
 |a::r,b::s,h=>by
  simp only [j4] at h
  split at h<;>try (cases h;done)
  rename_i h1
  rw [hf h1,eH hf h]
 |[],_::_,h=>by simp [j4] at h
 |_::_,[],h=>by simp [j4] at h
def UB:=j4 MD
theorem MF {a b:List Kd} (h:UB a b=true):a=b:=eH ME h
def MG:=j4 lC
theorem C7 {a b:List Bool} (h:MG a b=true):a=b:=eH dQ h
def C8:=j4 Nat.beq
theorem qV {a b:List Nat} (h:C8 a b=true):a=b:=eH Nat.eq_of_beq_eq_true h
def MH:=j4 C8
theorem JL {a b:List (List Nat)} (h:MH a b=true):a=b:=eH qV h
def dD : O → O → Bool
 | .t n,.t m=>Nat.beq n m
 | .c v,.c u=>QU v u
 | .m n l,.m m k=>an (Nat.beq n m) (decide (l=k))
 |_,_=>false
theorem aP {a b:O} (h:dD a b=true):a=b:=by
 cases a<;>cases b<;>simp only [dD,Bool.false_eq_true] at h
 ·rw [Nat.eq_of_beq_eq_true h]
 ·rw [HG h]
 ·rw [aM] at h;rw [Nat.eq_of_beq_eq_true h.1,of_decide_eq_true h.2]
def wI:=j4 dD
theorem lU {a b:List O} (h:wI a b=true):a=b:=eH aP h
def C9 : Option O → Option O → Bool
 |none,none=>true
 |some a,some b=>dD a b
 |_,_=>false
theorem wJ {a b:Option O} (h:C9 a b=true):a=b:=by
 cases a<;>cases b<;>simp only [C9,Bool.false_eq_true] at h
 ·rfl
 ·rw [aP h]
def WL : Nat × Nat × O → Nat × Nat × O → Bool
 |(a,b,x),(a',b',x')=>an (Nat.beq a a') (an (Nat.beq b b') (dD x x'))
theorem QV {p q:Nat×Nat×O} (h:WL p q=true):p=q:=by
 obtain ⟨a,b,c⟩:=p
 obtain ⟨a',b',c'⟩:=q
 simp only [WL,aM] at h
 rw [Nat.eq_of_beq_eq_true h.1,Nat.eq_of_beq_eq_true h.2.1,aP h.2.2]
def UC:=j4 WL
theorem MJ {a b:List (Nat×Nat×O)} (h:UC a b=true):a=b:=eH QV h
def ga : I → I → Bool
 | .mv x0,.mv y0=>dD x0 y0
 | .pick x0 x1 x2,.pick y0 y1 y2=>an (dD x0 y0) (an (dD x1 y1) (dD x2 y2))
 | .alloc x0,.alloc y0=>pI x0 y0
 | .box x0,.box y0=>dD x0 y0
 | .build x0 x1,.build y0 y1=>an (pI x0 y0) (UC x1 y1)
 | .dH x0 x1,.dH y0 y1=>an (lS x0 y0) (wI x1 y1)
 | .load x0 x1 x2,.load y0 y1 y2=>an (lC x0 y0) (an (Nat.beq x1 y1) (dD x2 y2))
 | .store x0 x1 x2,.store y0 y1 y2=>an (Nat.beq x0 y0) (an (dD x1 y1) (dD x2 y2))
 | .bin x0 x1 x2,.bin y0 y1 y2=>an (MB x0 y0) (an (dD x1 y1) (dD x2 y2))
 | .P0 x0 x1 x2,.P0 y0 y1 y2=>an (lC x0 y0) (an (dD x1 y1) (dD x2 y2))
 | .eqs x0 x1 x2 x3,.eqs y0 y1 y2 y3=>an (lC x0 y0) (an (UB x1 y1) (an (dD x2 y2) (dD x3 y3)))
 | .neg x0,.neg y0=>dD x0 y0
 | .not x0,.not y0=>dD x0 y0
 | .conv x0 x1,.conv y0 y1=>an (Mz x0 y0) (dD x1 y1)
 | .mb x0 x1 x2,.mb y0 y1 y2=>an (Nat.beq x0 y0) (an (MG x1 y1) (dD x2 y2))
 | .field x0 x1 x2 x3,.field y0 y1 y2 y3=>an (lC x0 y0) (an (Nat.beq x1 y1) (an (Nat.beq x2 y2) (dD x3 y3)))
 | .idx x0 x1 x2,.idx y0 y1 y2=>an (Nat.beq x0 y0) (an (dD x1 y1) (dD x2 y2))
 | .yh x0 x1 x2 x3,.yh y0 y1 y2 y3=>an (Nat.beq x0 y0) (an (Nat.beq x1 y1) (an (dD x2 y2) (dD x3 y3)))
 | .ext x0 x1,.ext y0 y1=>an (Nat.beq x0 y0) (dD x1 y1)
 | .len x0,.len y0=>dD x0 y0
 | .lens x0,.lens y0=>dD x0 y0
 | .yj x0,.yj y0=>Nat.beq x0 y0
 | .append x0 x1 x2,.append y0 y1 y2=>an (Nat.beq x0 y0) (an (dD x1 y1) (dD x2 y2))
 | .iz x0 x1,.iz y0 y1=>an (lS x0 y0) (dD x1 y1)
 | .Ai x0 x1 x2,.Ai y0 y1 y2=>an (Nat.beq x0 y0) (an (wI x1 y1) (wI x2 y2))
 | .slice x0 x1 x2 x3 x4,.slice y0 y1 y2 y3 y4=>an (Nat.beq x0 y0) (an (dD x1 y1) (an (C9 x2 y2) (an (C9 x3 y3) (C9 x4 y4))))
 | .lp x0 x1 x2,.lp y0 y1 y2=>an (lC x0 y0) (an (dD x1 y1) (wI x2 y2))
 | .ex x0 x1,.ex y0 y1=>an (decide (x0=y0)) (wI x1 y1)
 |_,_=>false
theorem QW {a b:I} (h:ga a b=true):a=b:=by
 cases a<;>cases b<;>first|(simp only [ga,Bool.false_eq_true] at h;done)|skip
 case mv.mv=>simp only [ga,aM] at h;rw [aP h]
 case pick.pick=>simp only [ga,aM] at h;rw [aP h.1,aP h.2.1,aP h.2.2]
 case alloc.alloc=>simp only [ga,aM] at h;rw [lT h]
 case box.box=>simp only [ga,aM] at h;rw [aP h]
 case build.build=>simp only [ga,aM] at h;rw [lT h.1,MJ h.2]
 case dH.dH=>simp only [ga,aM] at h;rw [kX h.1,lU h.2]
 case load.load=>simp only [ga,aM] at h;rw [dQ h.1,Nat.eq_of_beq_eq_true h.2.1,aP h.2.2]
 case store.store=>simp only [ga,aM] at h;rw [Nat.eq_of_beq_eq_true h.1,aP h.2.1,aP h.2.2]
 case bin.bin=>simp only [ga,aM] at h;rw [MC h.1,aP h.2.1,aP h.2.2]
 case P0.P0=>simp only [ga,aM] at h;rw [dQ h.1,aP h.2.1,aP h.2.2]
 case eqs.eqs=>simp only [ga,aM] at h;rw [dQ h.1,MF h.2.1,aP h.2.2.1,aP h.2.2.2]
 case neg.neg=>simp only [ga,aM] at h;rw [aP h]
 case not.not=>simp only [ga,aM] at h;rw [aP h]
 case conv.conv=>simp only [ga,aM] at h;rw [MA h.1,aP h.2]
 case mb.mb=>simp only [ga,aM] at h;rw [Nat.eq_of_beq_eq_true h.1,C7 h.2.1,aP h.2.2]
 case field.field=>simp only [ga,aM] at h;rw [dQ h.1,Nat.eq_of_beq_eq_true h.2.1,Nat.eq_of_beq_eq_true h.2.2.1,aP h.2.2.2]
 case idx.idx=>simp only [ga,aM] at h;rw [Nat.eq_of_beq_eq_true h.1,aP h.2.1,aP h.2.2]
 case yh.yh=>simp only [ga,aM] at h;rw [Nat.eq_of_beq_eq_true h.1,Nat.eq_of_beq_eq_true h.2.1,aP h.2.2.1,aP h.2.2.2]
 case ext.ext=>simp only [ga,aM] at h;rw [Nat.eq_of_beq_eq_true h.1,aP h.2]
 case len.len=>simp only [ga,aM] at h;rw [aP h]
 case lens.lens=>simp only [ga,aM] at h;rw [aP h]
 case yj.yj=>simp only [ga,aM] at h;rw [Nat.eq_of_beq_eq_true h]
 case append.append=>simp only [ga,aM] at h;rw [Nat.eq_of_beq_eq_true h.1,aP h.2.1,aP h.2.2]
 case iz.iz=>simp only [ga,aM] at h;rw [kX h.1,aP h.2]
 case Ai.Ai=>simp only [ga,aM] at h;rw [Nat.eq_of_beq_eq_true h.1,lU h.2.1,lU h.2.2]
 case slice.slice=>simp only [ga,aM] at h;rw [Nat.eq_of_beq_eq_true h.1,aP h.2.1,wJ h.2.2.1,wJ h.2.2.2.1,wJ h.2.2.2.2]
 case lp.lp=>simp only [ga,aM] at h;rw [dQ h.1,aP h.2.1,lU h.2.2]
 case ex.ex=>simp only [ga,aM] at h;rw [of_decide_eq_true h.1,lU h.2]
def QX : Option (Nat × Bool) → Option (Nat × Bool) → Bool
 |none,none=>true
 |some (s,b),some (s',b')=>an (Nat.beq s s') (lC b b')
 |_,_=>false
theorem HH {p q:Option (Nat×Bool)} (h:QX p q=true):p=q:=by
 rcases p with _|⟨a,b⟩<;>rcases q with _|⟨a',b'⟩<;>simp only [QX,Bool.false_eq_true,aM] at h
 ·rfl
 ·rw [Nat.eq_of_beq_eq_true h.1,dQ h.2]
def MK : Option Nat → Option Nat → Bool
 |none,none=>true
 |some a,some b=>Nat.beq a b
 |_,_=>false
theorem A5 {a b:Option Nat} (h:MK a b=true):a=b:=by
 cases a<;>cases b<;>simp only [MK,Bool.false_eq_true] at h
 ·rfl
 ·rw [Nat.eq_of_beq_eq_true h]
def ML : Option Ty → Option Ty → Bool
 |none,none=>true
 |some a,some b=>lS a b
 |_,_=>false
theorem MM {a b:Option Ty} (h:ML a b=true):a=b:=by
 cases a<;>cases b<;>simp only [ML,Bool.false_eq_true] at h
 ·rfl
 ·rw [kX h]
def wK : eA → eA → Bool
 | .op d g i,.op d' g' i'=>an (MK d d') (an (QX g g') (ga i i'))
 | .call d g f a t,.call d' g' f' a' t'=>an (MK d d') (an (QX g g') (an (dD f f') (an (wI a a') (j4 ML t t'))))
 |_,_=>false
theorem sS {a b:eA} (h:wK a b=true):a=b:=by
 cases a<;>cases b<;>simp only [wK,Bool.false_eq_true,aM] at h
 ·rw [A5 h.1,HH h.2.1,QW h.2.2]
 ·rw [A5 h.1,HH h.2.1,aP h.2.2.1,lU h.2.2.2.1,eH MM h.2.2.2.2]
def jc : C → C → Bool
 | .skip,.skip=>true
 | .aN is,.aN is'=>j4 wK is is'
 | .draw ps is,.draw ps' is'=>an (MH ps ps') (j4 wK is is')
 | .seq a b,.seq a' b'=>an (jc a a') (jc b b')
 | .cond c a b,.cond c' a' b'=>an (dD c c') (an (jc a a') (jc b b'))
 | .block id c,.block id' c'=>an (Nat.beq id id') (jc c c')
 | .loop c,.loop c'=>jc c c'
 | .exit id,.exit id'=>Nat.beq id id'
 | .ret,.ret=>true
 | .bq f ps a b,.bq f' ps' a' b'=>an (dD f f') (an (C8 ps ps') (an (jc a a') (jc b b')))
 | .gz p m i cl e kt kg vt vg d b,.gz p' m' i' cl' e' KX Ud KY P6 d' b'=>an (j4 wK p p') (an (dD m m') (an (Nat.beq i i') (an (C8 cl cl') (an (MK e e') (an (lS kt KX) (an (lC kg Ud) (an (lS vt KY) (an (lC vg P6) (an (Nat.beq d d') (jc b b'))))))))))
 |_,_=>false
theorem uR:∀{a b:C},jc a b=true→a=b:=by
 intro a
 induction a with
 |skip=>intro b h;cases b<;>simp [jc] at h ⊢
 |ret=>intro b h;cases b<;>simp [jc] at h ⊢
 |exit id=>intro b h;cases b<;>simp only [jc,Bool.false_eq_true] at h;rw [Nat.eq_of_beq_eq_true h]
 |aN is=>intro b h;cases b<;>simp only [jc,Bool.false_eq_true] at h;rw [eH sS h]
 |draw ps is=>intro b h;cases b<;>simp only [jc,Bool.false_eq_true,aM] at h;rw [JL h.1,eH sS h.2]
 |seq a b Fy EG=>intro b h;cases b<;>simp only [jc,Bool.false_eq_true,aM] at h;rw [Fy h.1,EG h.2]
 |cond c a b Fy EG=>intro b h;cases b<;>simp only [jc,Bool.false_eq_true,aM] at h;rw [aP h.1,Fy h.2.1,EG h.2.2]
 |block id c ih=>intro b h;cases b<;>simp only [jc,Bool.false_eq_true,aM] at h;rw [Nat.eq_of_beq_eq_true h.1,ih h.2]
 |loop c ih=>intro b h;cases b<;>simp only [jc,Bool.false_eq_true] at h;rw [ih h]
 |gz p m i cl e kt kg vt vg d b ih =>
  intro b h
  cases b<;>simp only [jc,Bool.false_eq_true,aM] at h
  obtain ⟨h1,h2,h3,h4,h5,h6,h7,h8,h9,Zw,Z1⟩:=h
  rw [eH sS h1,aP h2,Nat.eq_of_beq_eq_true h3,qV h4,A5 h5,kX h6,dQ h7,kX h8,dQ h9,Nat.eq_of_beq_eq_true Zw,ih Z1]
 |bq f ps a b Fy EG=>intro b h;cases b<;>simp only [jc,Bool.false_eq_true,aM] at h;rw [aP h.1,qV h.2.1,Fy h.2.2.1,EG h.2.2.2]
end Go.AM
end
section
namespace Go.AM
section
variable {π:List Nat}
theorem oO : ∀ (π : List Nat) (b : Nat), uv π b = π[b]?
 |[],_=>by simp [uv]
 |i::r,0=>by simp [uv]
 |i::r,n+1=>by simp [uv,oO r n]
theorem kY {b i:Nat} (h:yD π b i=true):π[b]?=some i:=by
 unfold yD at h
 split at h
 ·rename_i j e;rw [←oO,e,Nat.eq_of_beq_eq_true h]
 ·cases h
theorem Ce.append {as bs cs ds:List V} (h:Ce π as bs) (h':Ce π cs ds):Ce π (as++cs) (bs++ds):=by
 induction as generalizing bs with
 |nil =>
  have:bs=[]:=List.eq_nil_of_length_eq_zero h.1.symm
  subst this;simpa using h'
 |cons a as ih =>
  cases bs with
  |nil=>exact absurd h.1 (by simp)
  |cons b bs=>exact .cons (h.2 0 a b rfl rfl) (ih ⟨by have:=h.1;simpa using this,fun i v u hv hu=>h.2 (i+1) v u (by simpa using hv) (by simpa using hu)⟩)
theorem Da {t t':Ty} {xs:List t.den} {ys:List t'.den} (h:jL t t' xs=some ys):V.ew t' ys=V.ew t xs:=by
 obtain ⟨e,he⟩:=dI h
 subst e;subst he;rfl
theorem Db {g:Bool} {v:V} {ds cs:List V} (h:Ak g v=some cs) (ag:Ce π ds cs):EV π (bU.iH g ds) v:=by
 cases g with
 |true =>
  cases v<;>simp [Ak] at h
  subst h
  exact .agg _ _ ag.1 ag.2
 |false =>
  have:cs=[v]:=by cases v<;>simp_all [Ak,V.cells?]
  subst this
  match ds,ag with
  |[w],ag=>exact ag.2 0 w v rfl rfl
  |[],ag=>exact absurd ag.1 (by simp)
  |_::_::_,ag=>exact absurd ag.1 (by simp)
theorem oP {ar : Ar} : ∀ {t : Ty} {vs : List V} {x : t.den} {u : dZ} {r : List V}, aV ar [] t vs = some (x, u, r) → ∃ us, vs = us ++ r ∧ Ce π (bU t x) us
 | .unit,vs,x,u,r,h=>by
  simp [aV] at h;obtain ⟨_,_,rfl⟩:=h;exact ⟨[],rfl,.nil⟩
 | .bool,vs,x,u,r,h=>by
  rcases vs with _|⟨v,r'⟩
  ·simp [aV] at h
  ·cases v <;> simp [aV] at h
   ·obtain ⟨rfl,_,rfl⟩:=h;exact ⟨[_],rfl,.cons (.tfb _) .nil⟩
   ·obtain ⟨rfl,_,rfl⟩:=h;exact ⟨[_],rfl,.cons (.bool _) .nil⟩
 | .str,vs,x,u,r,h=>by
  rcases vs with _|⟨v,r'⟩
  ·simp [aV] at h
  ·cases v <;> simp [aV] at h
   obtain ⟨rfl,_,rfl⟩:=h;exact ⟨[_],rfl,.cons (.str _) .nil⟩
 | .int k,vs,x,u,r,h=>by
  rcases vs with _|⟨v,r'⟩
  ·simp [aV] at h
  ·cases v <;> simp [aV] at h
   obtain ⟨rfl,rfl,_,rfl⟩:=h;exact ⟨[_],rfl,.cons (.int _ _) .nil⟩
 | .list t,vs,x,u,r,h=>by
  rcases vs with _|⟨v,r'⟩
  ·simp [aV] at h
  ·cases v <;> simp only [aV] at h <;> try (cases h; done)
   ·split at h <;> try (cases h; done)
    rename_i hc
    cases h
    exact ⟨[_],rfl,.cons (by rw [Da hc];exact .ew _ _) .nil⟩
   ·cases h;exact ⟨[.bL],rfl,.cons (.Ww _) .nil⟩
 | .prod a b,vs,x,u,r,h=>by
  simp only [aV] at h
  split at h<;>try (cases h;done)
  rename_i x1 u1 r1 h1
  split at h<;>try (cases h;done)
  rename_i y1 u2 r2 h2
  cases h
  obtain ⟨us,rfl,e1⟩:=oP h1
  obtain ⟨V0,rfl,e2⟩:=oP h2
  exact ⟨us++V0,by simp,e1.append e2⟩
 | .bT d g t,vs,x,u,r,h=>by
  cases vs with
  |nil=>simp [aV] at h
  |cons v vs =>
   cases v<;>simp only [aV] at h<;>try (cases h;done)
   rename_i d' v'
   split at h<;>try (cases h;done)
   rename_i e;subst e
   split at h<;>try (cases h;done)
   rename_i cs hun
   split at h<;>try (cases h;done)
   rename_i x0 ho
   cases h
   obtain ⟨us,e1,ag⟩:=oP ho
   rw [List.append_nil] at e1
   exact ⟨[.bT d v'],rfl,.cons (.bT _ _ _ (Db hun (by rw [e1];exact ag))) .nil⟩
theorem QY : ∀ {t : Ty} {v : V} {x : t.den}, A4 t v = some x → EV π (tyV t x) v
 | .unit,v,x,h=>by simp [A4] at h
 | .bool,v,x,h=>by
  cases v<;>simp [A4] at h
  ·subst h;exact .tfb _
  ·subst h;exact .bool _
 | .str,v,x,h=>by
  cases v<;>simp [A4] at h
  subst h;exact .str _
 | .int k,v,x,h=>by
  cases v<;>simp only [A4] at h<;>try (cases h;done)
  split at h<;>try (cases h;done)
  rename_i hk
  cases h
  have:=of_decide_eq_true hk
  subst this;exact .int _ _
 | .list t,v,x,h=>by
  cases v<;>simp only [A4] at h<;>try (cases h;done)
  ·show EV π (.ew t x) _
   rw [Da h];exact .ew _ _
  ·cases h;exact .Ww _
 | .prod a b,v,x,h=>by
  cases v<;>simp only [A4] at h<;>try (cases h;done)
  split at h<;>try (cases h;done)
  rename_i hc
  cases h
  obtain ⟨us,e,ag⟩:=oP (π:=π) hc
  rw [List.append_nil] at e
  subst e
  exact .agg _ _ ag.1 ag.2
 | .bT d g t,v,x,h=>by
  simp only [A4] at h
  split at h<;>try (cases h;done)
  rename_i hc
  cases h
  obtain ⟨us,e,ag⟩:=oP (π:=π) hc
  rw [List.append_nil] at e
  subst e
  exact ag.2 0 _ _ rfl rfl
variable {A:Type}
theorem CP.WM {c:CP} {v:V} {f:A→c.T A} (h:c.rd1 π v=some f) (a:A):Ce π (c.vs (f a)) [v]∧c.r (f a)=a:=by
 cases c<;>simp only [CP.rd1] at h
 case any=>cases h;exact ⟨.cons (.any _) .nil,rfl⟩
 case tf b =>
  split at h<;>try (cases h;done)
  split at h<;>try (cases h;done)
  rename_i hb
  cases h
  rw [←dQ hb]
  exact ⟨.cons (.tf _) .nil,rfl⟩
 case dY=>split at h<;>cases h;exact ⟨.cons (.dY) .nil,rfl⟩
 case b7=>split at h<;>cases h;exact ⟨.cons (.b7) .nil,rfl⟩
 case eP=>split at h<;>cases h;exact ⟨.cons (.eP) .nil,rfl⟩
 case bL=>split at h<;>cases h;exact ⟨.cons (.bL) .nil,rfl⟩
 case hole t =>
  split at h<;>cases h
  rename_i hx
  exact ⟨.cons (QY hx) .nil,rfl⟩
 case cB b t =>
  split at h<;>try (cases h;done)
  ·rename_i i t' lo n
   split at h<;>try (cases h;done)
   rename_i h1
   split at h<;>try (cases h;done)
   rename_i h2
   split at h<;>try (cases h;done)
   rename_i h3
   cases h
   have e:=Nat.eq_of_beq_eq_true h3
   rw [kX h2,e]
   exact ⟨.cons (.sl _ _ _ _ _ (kY h1)) .nil,rfl⟩
  ·cases h;exact ⟨.cons (.Wx _ _ _) .nil,rfl⟩
 case PN b t =>
  split at h<;>try (cases h;done)
  ·rename_i i t' lo n
   split at h<;>try (cases h;done)
   rename_i h1
   split at h<;>try (cases h;done)
   rename_i h2
   cases h
   rw [kX h2]
   exact ⟨.cons (.sl _ _ _ _ _ (kY h1)) .nil,rfl⟩
  ·cases h;exact ⟨.cons (.Wx _ _ _) .nil,rfl⟩
 case ptr b off =>
  split at h<;>try (cases h;done)
  split at h<;>try (cases h;done)
  rename_i h1
  split at h<;>try (cases h;done)
  rename_i h2
  cases h
  rw [Nat.eq_of_beq_eq_true h2]
  exact ⟨.cons (.ptr _ _ _ (kY h1)) .nil,rfl⟩
 case yl b =>
  split at h<;>try (cases h;done)
  split at h<;>try (cases h;done)
  rename_i h1
  cases h
  exact ⟨.cons (.yl _ _ (kY h1)) .nil,rfl⟩
 case eW t =>
  split at h<;>try (cases h;done)
  split at h<;>try (cases h;done)
  rename_i hc
  cases h
  obtain ⟨us,e,ag⟩:=oP (π:=π) hc
  rw [List.append_nil] at e
  subst e
  exact ⟨.cons (.eW _ _ ag.1 ag.2) .nil,rfl⟩
 case mp b =>
  split at h<;>try (cases h;done)
  split at h<;>try (cases h;done)
  rename_i h1
  cases h
  exact ⟨.cons (.mp _ _ (kY h1)) .nil,rfl⟩
 case bX=>split at h<;>cases h;exact ⟨.cons (.bX) .nil,rfl⟩
 case pa b t n =>
  split at h<;>try (cases h;done)
  split at h<;>try (cases h;done)
  rename_i h1
  split at h<;>try (cases h;done)
  rename_i h2
  split at h<;>try (cases h;done)
  rename_i h3
  cases h
  rw [kX h2,Nat.eq_of_beq_eq_true h3]
  exact ⟨.cons (.pa _ _ _ _ (kY h1)) .nil,rfl⟩
 case kH t =>
  split at h<;>try (cases h;done)
  split at h<;>try (cases h;done)
  rename_i ys hc
  cases h
  obtain ⟨e,he⟩:=dI hc
  subst e;subst he
  exact ⟨.cons (.kH _ _) .nil,rfl⟩
 case Fz=>cases h
 case fn0 f' =>
  split at h<;>try (cases h;done)
  split at h<;>try (cases h;done)
  rename_i h1
  cases h
  rw [Nat.eq_of_beq_eq_true h1]
  exact ⟨.cons (.fn _ _ _ _ _ rfl (fun i v u hv=>by simp at hv) rfl (fun i v u hv=>by simp at hv)) .nil,rfl⟩
 case JJ=>cases h
 case JK=>cases h
 case fn=>cases h
 case nil=>cases h
 case cons=>cases h
theorem CP.WN:∀{c:CP} {A:Type} {vs r:List V} {f:A→c.T A},c.EH π vs=some (f,r)→∃us,vs=us++r∧∀a,Ce π (c.vs (f a)) us∧c.r (f a)=a:=by
 intro c
 induction c with
 |nil=>intro A vs r f h;simp only [CP.EH] at h;cases h;exact ⟨[],rfl,fun a=>⟨.nil,rfl⟩⟩
 |cons c l ihc ihl =>
  intro A vs r f h
  simp only [CP.EH] at h
  split at h<;>try (cases h;done)
  rename_i f1 vs' h1
  split at h<;>try (cases h;done)
  rename_i g vs'' h2
  cases h
  obtain ⟨us,rfl,e1⟩:=ihc h1
  obtain ⟨V0,rfl,e2⟩:=ihl h2
  refine ⟨us++V0,by simp,fun a=>?_⟩
  obtain ⟨q1,q2⟩:=e1 (g a)
  obtain ⟨q3,q4⟩:=e2 a
  simp only [CP.vs,CP.r,q2]
  exact ⟨q1.append q3,q4⟩
 |JJ l ih =>
  intro A vs r f h
  simp only [CP.EH] at h
  split at h<;>try (cases h;done)
  rename_i cs r'
  split at h<;>try (cases h;done)
  rename_i f1 h1
  cases h
  obtain ⟨us,e,e1⟩:=ih h1
  rw [List.append_nil] at e
  subst e
  refine ⟨[.eW cs],rfl,fun a=>?_⟩
  obtain ⟨q1,q2⟩:=e1 a
  exact ⟨.cons (.eW _ _ q1.1 q1.2) .nil,q2⟩
 |JK l ih =>
  intro A vs r f h
  simp only [CP.EH] at h
  split at h<;>try (cases h;done)
  rename_i cs r'
  split at h<;>try (cases h;done)
  rename_i f1 h1
  cases h
  obtain ⟨us,e,e1⟩:=ih h1
  rw [List.append_nil] at e
  subst e
  refine ⟨[.agg cs],rfl,fun a=>?_⟩
  obtain ⟨q1,q2⟩:=e1 a
  exact ⟨.cons (.agg _ _ q1.1 q1.2) .nil,q2⟩
 |Fz t g l ih =>
  intro A vs r f h
  simp only [CP.EH] at h
  split at h<;>try (cases h;done)
  rename_i t' v r'
  split at h<;>try (cases h;done)
  rename_i ht
  split at h<;>try (cases h;done)
  rename_i cs hun
  split at h<;>try (cases h;done)
  rename_i f1 h1
  cases h
  obtain ⟨us,e,e1⟩:=ih h1
  rw [List.append_nil] at e
  subst e
  have e0:=Nat.eq_of_beq_eq_true ht
  subst e0
  refine ⟨[.bT t' v],rfl,fun a=>?_⟩
  obtain ⟨q1,q2⟩:=e1 a
  exact ⟨.cons (.bT _ _ _ (Db hun q1)) .nil,q2⟩
 |fn f0 a b Fy EG =>
  intro A vs r f h
  simp only [CP.EH] at h
  split at h<;>try (cases h;done)
  rename_i f' va vb r'
  split at h<;>try (cases h;done)
  rename_i hf
  split at h<;>try (cases h;done)
  rename_i g hg
  split at h<;>try (cases h;done)
  rename_i k hk
  cases h
  obtain ⟨us,e,e1⟩:=Fy hg
  rw [List.append_nil] at e
  subst e
  obtain ⟨V0,e',e2⟩:=EG hk
  rw [List.append_nil] at e'
  subst e'
  have e0:=Nat.eq_of_beq_eq_true hf
  subst e0
  refine ⟨[.fn f' va vb],rfl,fun x=>?_⟩
  obtain ⟨q1,q2⟩:=e1 (k x)
  obtain ⟨q3,q4⟩:=e2 x
  simp only [CP.vs,CP.r,q2]
  exact ⟨.cons (.fn _ _ _ _ _ q1.1 q1.2 q3.1 q3.2) .nil,q4⟩
 |_ =>
  intro A vs r f h
  simp only [CP.EH] at h
  split at h<;>try (cases h;done)
  rename_i v r'
  split at h<;>try (cases h;done)
  rename_i f1 h1
  cases h
  exact ⟨[v],rfl,fun a=>CP.WM h1 a⟩
theorem CP.qW {c:CP} {v:V} {f:A→c.T A} (h:c.rd π v=some f) (a:A):EV π (c.v (f a)) v∧c.r (f a)=a:=by
 unfold CP.rd at h
 split at h<;>try (cases h;done)
 rename_i f1 h1
 cases h
 obtain ⟨us,e,e1⟩:=CP.WN h1
 rw [List.append_nil] at e
 subst e
 obtain ⟨q1,q2⟩:=e1 a
 refine ⟨?_,q2⟩
 unfold CP.v
 have hl:=q1.1
 cases hc:c.vs (f a) with
 |nil=>rw [hc] at hl;simp at hl
 |cons u r=>exact q1.2 0 u v (by rw [hc];rfl) rfl
theorem iP : ∀ {cs : List CP} {vs : List V} {f : A → lR cs A}, eY π cs vs = some f → ∀ a, Ce π (qe cs (f a)) vs ∧ qU cs (f a) = a
 |[],[],f,h,a=>by cases h;exact ⟨.nil,rfl⟩
 |c::r,v::vs,f,h,a=>by
  simp only [eY] at h
  split at h<;>try (cases h;done)
  rename_i f1 h1
  split at h<;>cases h
  rename_i g h2
  obtain ⟨q1,q2⟩:=CP.qW h1 (g a)
  obtain ⟨q3,q4⟩:=iP h2 a
  simp only [qe,qU,q2]
  exact ⟨.cons q1 q3,q4⟩
 |[],_::_,f,h,a=>by simp [eY] at h
 |_::_,[],f,h,a=>by simp [eY] at h
theorem SP.qW : ∀ {p : SP} {v : V} {f : A → p.T A}, p.rd π v = some f → ∀ (a : A), EV π (p.v (f a)) v ∧ p.r (f a) = a
 | .c q,v,f,h,a=>CP.qW (c:=q) h a
 | .agg cs,v,f,h,a=>by
  cases v<;>try (cases h;done)
  rename_i vs
  have h':eY π cs vs=some f:=h
  obtain ⟨h1,h2⟩:=iP h' a
  exact ⟨.agg _ _ h1.1 h1.2,h2⟩
 | .cw cs,v,f,h,a=>by
  cases v<;>try (cases h;done)
  rename_i vs
  have h':eY π cs vs=some f:=h
  obtain ⟨h1,h2⟩:=iP h' a
  exact ⟨.cw _ _ h1.1 h1.2,h2⟩
 | .fn f' x y,v,f,h,a=>by
  cases v with
  |fn f2 va vb =>
   have h':(match Nat.beq f2 f' with
    |true=>match eY (A:=lR y A) π x va with
     |some g=>match eY (A:=A) π y vb with
      |some h=>some fun z=>g (h z)
      |none=>none
     |none=>none
    |false=>none)=some f:=h
   clear h
   cases hf:Nat.beq f2 f' with
   |false=>rw [hf] at h';cases h'
   |true =>
    rw [hf] at h'
    simp only at h'
    cases hg:eY (A:=lR y A) π x va with
    |none=>rw [hg] at h';cases h'
    |some g =>
     rw [hg] at h'
     simp only at h'
     cases hk:eY (A:=A) π y vb with
     |none=>rw [hk] at h';cases h'
     |some k =>
      rw [hk] at h'
      have h2:(fun z=>g (k z))=f:=Option.some.inj h'
      obtain ⟨q1,q2⟩:=iP hg (k a)
      obtain ⟨q3,q4⟩:=iP hk a
      have e:=Nat.eq_of_beq_eq_true hf
      subst e
      have e2:SP.v (A:=A) (.fn f2 x y) (g (k a)) = .fn f2 (qe x (g (k a))) (qe y (k a)):=by
       show V.fn f2 _ (qe y (qU x (g (k a))))=_
       rw [q2]
      have e3:SP.r (A:=A) (.fn f2 x y) (g (k a))=a:=by
       show qU y (qU x (g (k a)))=a
       rw [q2,q4]
      have e4:f a=g (k a):=by rw [←h2]
      rw [e4]
      exact ⟨by rw [e2];exact .fn _ _ _ _ _ q1.1 q1.2 q3.1 q3.2,e3⟩
  |_=>cases h
 | .alt x y,v,f,h,a=>by
  cases v with
  |cw vs =>
   have h':(match eY (A:=A) π x vs with
    |some f=>some fun z=>(Sum.inl (f z):lR x A ⊕ lR y A)
    |none=>match eY (A:=A) π y vs with
     |some f=>some fun z=>Sum.inr (f z)
     |none=>none)=some f:=h
   clear h
   cases hx:eY (A:=A) π x vs with
   |some g =>
    rw [hx] at h'
    have h2:=Option.some.inj h'
    subst h2
    obtain ⟨h1,h2⟩:=iP hx a
    exact ⟨.cw _ _ h1.1 h1.2,h2⟩
   |none =>
    rw [hx] at h'
    simp only at h'
    cases hy:eY (A:=A) π y vs with
    |none=>rw [hy] at h';cases h'
    |some g =>
     rw [hy] at h'
     have h2:=Option.some.inj h'
     subst h2
     obtain ⟨h1,h2⟩:=iP hy a
     exact ⟨.cw _ _ h1.1 h1.2,h2⟩
  |_=>cases h
theorem qX {env : Env} : ∀ {ps : List (Nat × SP)} {f : A → yC ps A}, zC π env ps = some f → ∀ a, EE π (wH ps (f a)) env ∧ My ps (f a) = a
 |[],f,h,a=>by cases h;exact ⟨fun p hp=>by simp [wH] at hp,rfl⟩
 |(s,p)::r,f,h,a=>by
  simp only [zC] at h
  split at h<;>try (cases h;done)
  rename_i f1 h1
  split at h<;>cases h
  rename_i g h2
  obtain ⟨q1,q2⟩:=SP.qW h1 (g a)
  obtain ⟨q3,q4⟩:=qX h2 a
  simp only [wH,My,q2]
  refine ⟨fun x hx=>?_,q4⟩
  rcases List.mem_cons.1 hx with rfl|hx
  ·exact q1
  ·exact q3 x hx
def MN : pR → pR → Bool
 | .ready,.ready=>true
 | .busy,.busy=>true
 | .done,.done=>true
 | .exhausted,.exhausted=>true
 |_,_=>false
theorem MO {a b:pR} (h:MN a b=true):a=b:=by cases a<;>cases b<;>simp_all [MN]
def WO : Option Ex → Option Ex → Bool
 |none,none=>true
 |some .normal,some .normal=>true
 |some (.exit a),some (.exit b)=>Nat.beq a b
 |some .ret,some .ret=>true
 |_,_=>false
theorem QZ {a b:Option Ex} (h:WO a b=true):a=b:=by
 rcases a with _|(_|_|_)<;>rcases b with _|(_|_|_)<;>simp only [WO,Bool.false_eq_true] at h<;>try rfl
 rw [Nat.eq_of_beq_eq_true h]
def BP.rd (π:List Nat) (nx:Nat) (bl:ah) (id:Nat) (p:BP):Option (A→p.T A) :=
 match uv π id with
 |none=>none
 |some i=>match p with
  | .arr t fz=>match aj i bl with
   |some (.arr t' xs V1)=>match jL t' t xs with
    |some ys=>match lC V1 fz with
     |true=>some fun a=>(ys,a)
     |false=>none
    |none=>none
   |none=>match Nat.ble nx i with
    |true=>some fun a=>(([]:List t.den),a)
    |false=>none
   |_=>none
  | .cells cs fz=>match aj i bl with
   |some (.cells vs V1)=>match lC V1 fz with
    |true=>eY π cs vs
    |false=>none
   |_=>none
  | .loop st j d env ps as bd N=>match aj i bl with
   |some (.loop st' j' d' env' ps' as' Qy N')=>match an (MN st' st) (an (WO j' j)<|an (yD π d d') (an (C8 ps' ps) (an (Nat.beq N' N) (an (jc as' as) (jc Qy bd))))) with
    |true=>zC π env' env
    |false=>none
   |_=>none
  | .gQ=>match aj i bl with
   |some .gQ=>some fun a=>a
   |_=>none
  | .map kt kg vt vg=>match aj i bl with
   |some (.map KX Ud KY P6 es)=>match an (lC Ud kg) (lC P6 vg) with
    |true=>match GL KX KY kt vt es with
     |some fs=>some fun a=>(fs,a)
     |none=>none
    |false=>none
   |_=>none
  | .l8 t k q c=>match aj i bl with
   |some (.l8 t' xs k' q' v)=>match an (Nat.beq k' k) (MG q' q) with
    |true=>match jL t' t xs with
     |some ys=>match CP.rd π c v with
      |some f=>some fun a=>(ys,f a)
      |none=>none
     |none=>none
    |false=>none
   |_=>none
theorem BP.qW {nx:Nat} {bl:ah} {id:Nat} {p:BP} {f:A→p.T A} (h:p.rd π nx bl id=some f) (a:A):ZL π nx bl id (p.v (f a))∧p.r (f a)=a:=by
 unfold BP.rd at h
 split at h
 ·cases h
 ·rename_i i hi
  rw [oO] at hi
  cases p<;>simp only at h
  case arr t fz =>
   split at h
   ·rename_i t' xs V1 hb
    split at h<;>try (cases h;done)
    rename_i ys hc
    split at h<;>cases h
    rename_i hfz
    refine ⟨⟨i,hi,.inl ?_⟩,rfl⟩
    obtain ⟨e,he⟩:=dI hc
    subst e;subst he
    rw [hb,dQ hfz]
   ·rename_i hb
    split at h<;>cases h
    rename_i hle
    exact ⟨⟨i,hi,.inr ⟨rfl,Nat.le_of_ble_eq_true hle⟩⟩,rfl⟩
   ·cases h
  case cells cs fz =>
   split at h<;>try (cases h;done)
   rename_i vs V1 hb
   split at h<;>try (cases h;done)
   rename_i hfz
   obtain ⟨h1,h2⟩:=iP h a
   refine ⟨⟨i,hi,vs,?_,h1⟩,h2⟩
   rw [hb,dQ hfz]
  case loop st j d env ps as bd N =>
   split at h<;>try (cases h;done)
   rename_i st' j' d' env' ps' as' Qy N' hb
   split at h<;>try (cases h;done)
   rename_i hc
   simp only [aM] at hc
   obtain ⟨c1,cj,c2,c3,c4,c5,c6⟩:=hc
   obtain ⟨h1,h2⟩:=qX h a
   refine ⟨⟨i,hi,d',env',?_,kY c2,h1⟩,h2⟩
   rw [hb,MO c1,QZ cj,qV c3,Nat.eq_of_beq_eq_true c4,uR c5,uR c6]
  case gQ =>
   split at h<;>cases h
   rename_i hb
   exact ⟨⟨i,hi,hb⟩,rfl⟩
  case map kt kg vt vg =>
   split at h<;>try (cases h;done)
   rename_i KX Ud KY P6 es hb
   split at h<;>try (cases h;done)
   rename_i hg
   split at h<;>try (cases h;done)
   rename_i fs hc
   cases h
   simp only [aM] at hg
   rw [dQ hg.1,dQ hg.2] at hb
   unfold GL at hc
   split at hc<;>try (cases hc;done)
   rename_i he
   obtain ⟨rfl,rfl⟩:=he
   cases hc
   exact ⟨⟨i,hi,hb⟩,rfl⟩
  case l8 t k q c =>
   split at h<;>try (cases h;done)
   rename_i t' xs k' q' v hb
   split at h<;>try (cases h;done)
   rename_i hc
   simp only [aM] at hc
   split at h<;>try (cases h;done)
   rename_i ys hy
   split at h<;>try (cases h;done)
   rename_i f' hf
   cases h
   obtain ⟨e,he⟩:=dI hy
   subst e;subst he
   obtain ⟨h1,h2⟩:=CP.qW hf a
   refine ⟨⟨i,hi,v,?_,h1⟩,h2⟩
   rw [hb,Nat.eq_of_beq_eq_true hc.1,C7 hc.2]
def MP (π : List Nat) (nx : Nat) (bl : ah) : (ps : List (Nat × BP)) → Option (A → QT ps A)
 |[]=>some fun a=>a
 |(id,p)::r=>match BP.rd (A:=QT r A) π nx bl id p with
  |some f=>match MP π nx bl r with
   |some g=>some fun a=>f (g a)
   |none=>none
  |none=>none
theorem A6 {nx : Nat} {bl : ah} : ∀ {ps : List (Nat × BP)} {f : A → QT ps A}, MP π nx bl ps = some f → ∀ a, (∀ p ∈ PO ps (f a), ZL π nx bl p.1 p.2) ∧ (PO ps (f a)).map (·.1) = ps.map (·.1)
 |[],f,h,a=>by cases h;exact ⟨fun p hp=>by simp [PO] at hp,rfl⟩
 |(s,p)::r,f,h,a=>by
  simp only [MP] at h
  split at h<;>try (cases h;done)
  rename_i f1 h1
  split at h<;>cases h
  rename_i g h2
  obtain ⟨q1,q2⟩:=BP.qW h1 (g a)
  obtain ⟨q3,q4⟩:=A6 h2 a
  simp only [PO,q2]
  refine ⟨fun x hx=>?_,by simp [q4]⟩
  rcases List.mem_cons.1 hx with rfl|hx
  ·exact q1
  ·exact q3 x hx
def JM (nx b : Nat) : V → Option Nat
 | .sl i _ _ _=>some i
 | .ptr i _=>some i
 | .yl i=>some i
 | .mp i=>some i
 | .pa i _ _=>some i
 | .ep i _ _ _=>some i
 | .bL=>some (nx+b)
 | .bT _ (.ptr i _)=>some i
 |_=>none
def MQ : List V → Nat → Option V
 |[],_=>none
 |v::_,0=>some v
 |_::r,n+1=>MQ r n
def WQ (π : List Nat) (env : Env) (nx : Nat) (bl : ah) (ms : List Nat) (b : Nat) : Lc → Option Nat
 | .slot s=>JM nx b (get s env)
 | .part s k=>match get s env with
  | .agg cs=>match MQ cs k with
   |some v=>JM nx b v
   |none=>none
  | .fn _ a c=>match MQ (a++c) k with
   |some v=>JM nx b v
   |none=>none
  | .cw cs=>match MQ cs k with
   |some v=>JM nx b v
   |none=>none
  |_=>none
 | .cell b' k=>match uv π b' with
  |some i=>match aj i bl with
   |some (.cells cs _)=>match MQ cs k with
    |some v=>JM nx b v
    |none=>none
   |some (.l8 _ _ _ _ v)=>JM nx b v
   |_=>none
  |none=>none
 | .old i=>some i
 | .mark j=>uv ms j
def snoc {R : Type} : List Nat → Nat → (List Nat → R) → R
 |[],i,k=>k [i]
 |j::r,i,k=>snoc r i fun r'=>k (j::r')
theorem A7 {R : Type} : ∀ (l : List Nat) (i : Nat) (k : List Nat → R), snoc l i k = k (l ++ [i])
 |[],_,_=>rfl
 |j::r,i,k=>by simp only [snoc,A7 r];rfl
def qY {R : Type} (no : R) (env : Env) (nx : Nat) (bl : ah) (ms : List Nat) : List Lc → List Nat → Nat → (List Nat → R) → R
 |[],π,_,k=>k π
 |l::r,π,b,k=>match WQ π env nx bl ms b l with
  |some i=>fN i fun i=>snoc π i fun π=>fN (b+1) fun b=>qY no env nx bl ms r π b k
  |none=>no
theorem wL {X:Type} {no:Option X} {env:Env} {nx:Nat} {bl:ah} {ms:List Nat}:∀{ls:List Lc} {π:List Nat} {b:Nat} {k:List Nat→Option X} {x:X},qY no env nx bl ms ls π b k=some x →
  no=some x∨∃r,r.length=ls.length∧k (π++r)=some x
 |[],π,b,k,x,h=>.inr ⟨[],rfl,by simpa [qY] using h⟩
 |l::ls,π,b,k,x,h=>by
  simp only [qY] at h
  split at h
  ·rename_i i hi
   rw [fG,A7,fG] at h
   rcases wL h with h|⟨r,h1,h2⟩
   ·exact .inl h
   ·exact .inr ⟨i::r,by simp [h1],by simpa using h2⟩
  ·exact .inl h
def MR (π:List Nat) (a b:Nat):Bool:=match uv π a with
 |some i=>match uv π b with
  |some j=>match Nat.beq i j with
   |true=>false
   |false=>true
  |none=>false
 |none=>false
def A8 (π : List Nat) (a : Nat) : List (Nat × BP) → Bool
 |[]=>true
 |(b,_)::r=>match MR π a b with
  |true=>A8 π a r
  |false=>false
def wM (π : List Nat) : List (Nat × BP) → Bool
 |[]=>true
 |(a,_)::r=>match A8 π a r with
  |true=>wM π r
  |false=>false
theorem MS {a b:Nat} (h:MR π a b=true):π[a]?≠π[b]?:=by
 unfold MR at h
 split at h<;>try (cases h;done)
 rename_i i hi
 split at h<;>try (cases h;done)
 rename_i j hj
 split at h<;>try (cases h;done)
 rename_i hij
 rw [←oO,←oO,hi,hj]
 intro e;cases e
 rw [Nat.beq_refl] at hij;cases hij
theorem sU {a : Nat} : ∀ {r : List (Nat × BP)}, A8 π a r = true → ∀ b ∈ r.map (·.1), π[a]? ≠ π[b]?
 |[],_,b,hb=>by simp at hb
 |(c,_)::r,h,b,hb=>by
  simp only [A8] at h
  split at h<;>try (cases h;done)
  rename_i hd
  simp only [List.map_cons,List.mem_cons] at hb
  rcases hb with rfl|hb
  ·exact MS hd
  ·exact sU h b hb
theorem wN : ∀ {r : List (Nat × BP)}, wM π r = true → ∀ a ∈ r.map (·.1), ∀ b ∈ r.map (·.1), π[a]? = π[b]? → a = b
 |[],_,a,ha=>by simp at ha
 |(c,_)::r,h,a,ha=>by
  simp only [wM] at h
  split at h<;>try (cases h;done)
  rename_i hd
  intro b hb e
  simp only [List.map_cons,List.mem_cons] at ha hb
  rcases ha with rfl|ha<;>rcases hb with rfl|hb
  ·rfl
  ·exact absurd e (sU hd b hb)
  ·exact absurd e.symm (sU hd a ha)
  ·exact wN h a ha b hb e
def JN (π : List Nat) : List Nat → List Nat → Bool
 |[],[]=>true
 |a::r,i::s=>match yD π a i with
  |true=>JN π r s
  |false=>false
 |_,_=>false
theorem HI : ∀ {ps ms : List Nat}, JN π ps ms = true → ps.map (fun i => π[i]?) = ms.map some
 |[],[],_=>rfl
 |a::r,i::s,h=>by
  simp only [JN] at h
  split at h<;>try (cases h;done)
  rename_i ha
  simp [kY ha,HI h]
 |[],_::_,h=>by simp [JN] at h
 |_::_,[],h=>by simp [JN] at h
def ay.rd {R:Type} (no:R) (pre:List Nat) (base:Nat) (p:ay) (env:Env) (nx:Nat) (bl:ah) (ms:List Nat) (k:p.T→R):R :=
 qY no env nx bl ms p.gA pre base fun π=>match an (JN π p.ms ms) (wM π p.bl) with
  |true=>match zC (A:=QT p.bl Unit) π env p.env with
   |some f=>match MP (A:=Unit) π nx bl p.bl with
    |some g=>k (f (g ()))
    |none=>no
   |none=>no
  |false=>no
theorem ay.HJ {X:Type} {no:Option X} {base:Nat} {p:ay} {env:Env} {nx:Nat} {bl:ah} {ms:List Nat} {k:p.T→Option X} {r:X} (h:p.rd no (List.range base) base env nx bl ms k=some r) :
  no=some r∨∃x π,k x=some r∧ja base π ⟨env,⟨nx,bl⟩,ms⟩ (p.st base x):=by
 rcases wL h with h|⟨rr,hlen,h⟩
 ·exact .inl h
 split at h
 ·rename_i hc
  rw [aM] at hc
  split at h
  ·rename_i f hf
   split at h
   ·rename_i g hg
    obtain ⟨h1,h2⟩:=qX hf (g ())
    obtain ⟨h3,h4⟩:=A6 hg ()
    refine .inr ⟨f (g ()),List.range base++rr,h,?_⟩
    constructor
    ·simp
    ·simp [ay.st,hlen]
    ·exact HI hc.1
    ·exact h1
    ·simp only [ay.st,ay.B,h2];exact h3
    ·simp only [ay.st, ay.B, h2]
     intro q hq s hs e
     refine wN hc.2 q.1 ?_ s.1 ?_ e
     ·rw [←h4];exact List.mem_map_of_mem hq
     ·rw [←h4];exact List.mem_map_of_mem hs
   ·exact .inl h
  ·exact .inl h
 ·exact .inl h
theorem ay.dn {X:Type} {base:Nat} {p:ay} {env:Env} {nx:Nat} {bl:ah} {ms:List Nat} {k:p.T→Option X} {r:X} (h:p.rd none (List.range base) base env nx bl ms k=some r) :
  ∃x π,k x=some r∧ja base π ⟨env,⟨nx,bl⟩,ms⟩ (p.st base x):=by
 rcases ay.HJ h with h|h
 ·cases h
 ·exact h
end
end Go.AM
end
section
namespace Go.AM
@[reducible] def gm (k:IntKind) (z:Int):Bool:=k.min≤z&&z≤k.max
@[reducible] def fu (i n:Int):Bool:=decide (0≤i∧i<n)
@[reducible] def VS (a b:Int):Int:=if b<a then b else a
@[reducible] def imax (a b:Int):Int:=if b > a then b else a
@[reducible] def seq (a b:ByteArray):Bool:=a.toList==b.toList
@[reducible] def slt (a b:ByteArray):Bool:=Op.bytesLess a.toList b.toList
@[reducible] def ET (c a b:Bool):Bool:=if c then a else b
def FA : Ex → Ex → Bool
 | .normal,.normal=>true
 | .exit a,.exit b=>Nat.beq a b
 | .ret,.ret=>true
 |_,_=>false
theorem HK {a b:Ex} (h:FA a b=true):a=b:=by
 cases a<;>cases b<;>simp only [FA,Bool.false_eq_true] at h<;>try rfl
 rw [Nat.eq_of_beq_eq_true h]
abbrev aU:=List (Ex×ay)
def aU.T : aU → Type
 |[]=>Empty
 |[(_,p)]=>p.T
 |(_,p)::q::r=>p.T ⊕ aU.T (q::r)
def aU.st (base : Nat) : (xs : aU) → xs.T → Ex × St
 |[],x=>nomatch x
 |[(e,p)],x=>(e,p.st base x)
 |(_,_)::q::r,.inr y=>aU.st base (q::r) y
 |(e,p)::_::_,.inl x=>(e,p.st base x)
section
variable {R:Type}
def Q2 : List V → (List V → R) → R
 |[],k=>k []
 |v::r,k=>fV v fun v=>Q2 r fun r=>k (v::r)
theorem mI : ∀ (l : List V) (k : List V → R), Q2 l k = k l
 |[],k=>rfl
 |v::r,k=>by simp only [Q2,mT,mI r]
def JO : Env → (Env → R) → R
 |[],k=>k []
 |(s,v)::r,k=>fV v fun v=>JO r fun r=>k ((s,v)::r)
theorem qZ : ∀ (l : Env) (k : Env → R), JO l k = k l
 |[],k=>rfl
 |(s,v)::r,k=>by simp only [JO,mT,qZ r]
def WR (b:kF) (k:kF→R):R:=match b with
 | .cells cs fz=>Q2 cs fun cs=>k (.cells cs fz)
 | .arr t xs fz=>k (.arr t xs fz)
 | .loop st j d env ps as bd N=>JO env fun env=>k (.loop st j d env ps as bd N)
 | .gQ=>k .gQ
 | .map kt kg vt vg es=>k (.map kt kg vt vg es)
 | .l8 t xs i p v=>fV v fun v=>k (.l8 t xs i p v)
theorem Q3 (b:kF) (k:kF→R):WR b k=k b:=by cases b<;>simp only [WR,mI,qZ,mT]
def ZN : ah → (ah → R) → R
 |[],k=>k []
 |(s,b)::r,k=>WR b fun b=>ZN r fun r=>k ((s,b)::r)
theorem A9 : ∀ (l : ah) (k : ah → R), ZN l k = k l
 |[],k=>rfl
 |(s,b)::r,k=>by simp only [ZN,Q3,A9 r]
def ay.go (p:ay) (nx:Nat) (x:p.T) (k:Env→Nat→ah→List Nat→R):R:=JO (p.E x) fun env=>ZN (p.B x) fun bl=>k env nx bl p.ms
theorem ay.go_eq (p:ay) (nx:Nat) (x:p.T) (k:Env→Nat→ah→List Nat→R):p.go nx x k=k (p.E x) nx (p.B x) p.ms:=by
 unfold ay.go;rw [qZ,A9]
def aU.go (kz : Kz R) (base : Nat) : (xs : aU) → xs.T → Kc R → R
 |[],x,_=>nomatch x
 |[(e,p)],x,k=>fN (base+p.gA.length) fun nx=>p.go nx x (k e)
 |(e,p)::q::r,x,k=>kz.sm x (fun x=>fN (base+p.gA.length) fun nx=>p.go nx x (k e)) fun y=>aU.go kz base (q::r) y k
end
theorem aU.zD {X:Type} {base:Nat}:∀{xs:aU} {x:xs.T} {k:Kc (Option X)} {r:X},xs.go (iO X) base x k=some r →
  k (xs.st base x).1 (xs.st base x).2.env (xs.st base x).2.H.next (xs.st base x).2.H.bl (xs.st base x).2.ms=some r
 |[],x,_,_,_=>nomatch x
 |[(e,p)],x,k,r,h=>by
  simp only [aU.go,fG] at h
  exact (ay.go_eq p _ (show p.T from x) (k e)).symm.trans h
 |(e,p)::q::s,x,k,r,h=>by
  simp only [aU.go,iO] at h
  cases x with
  |inl x =>
   simp only [fG] at h
   rw [ay.go_eq] at h
   exact h
  |inr y=>exact aU.zD (xs:=q::s) (x:=y) h
def aU.rd {R : Type} (no : R) (pre : List Nat) (base : Nat) : (xs : aU) → Ex → Env → Nat → ah → List Nat → (xs.T → R) → R
 |[],_,_,_,_,_,_=>no
 |[(e',p)],e,env,nx,bl,ms,k=>match FA e' e with
  |true=>p.rd no pre base env nx bl ms k
  |false=>no
 |(e',p)::q::r,e,env,nx,bl,ms,k=>match FA e' e with
  |true=>p.rd (aU.rd no pre base (q::r) e env nx bl ms fun x=>k (.inr x)) pre base env nx bl ms fun x=>k (.inl x)
  |false=>aU.rd no pre base (q::r) e env nx bl ms fun x=>k (.inr x)
theorem aU.dn {X:Type} {base:Nat} {env:Env} {nx:Nat} {bl:ah} {ms:List Nat}:∀{xs:aU} {e:Ex} {k:xs.T→Option X} {r:X},xs.rd none (List.range base) base e env nx bl ms k=some r →
  ∃x π,k x=some r∧e=(xs.st base x).1∧ja base π ⟨env,⟨nx,bl⟩,ms⟩ (xs.st base x).2
 |[],_,_,_,h=>by simp [aU.rd] at h
 |[(e',p)],e,k,r,h=>by
  simp only [aU.rd] at h
  split at h<;>try (cases h;done)
  rename_i he
  obtain ⟨x,π,h1,h2⟩:=ay.dn h
  exact ⟨x,π,h1,(HK he).symm,h2⟩
 |(e',p)::q::s,e,k,r,h=>by
  simp only [aU.rd] at h
  split at h
  ·rename_i he
   rcases ay.HJ h with h|⟨x,π,h1,h2⟩
   ·obtain ⟨x, π, h1, h2, h3⟩ := aU.dn (xs := q :: s) h
    exact ⟨.inr x,π,h1,h2,h3⟩
   ·exact ⟨.inl x,π,h1,(HK he).symm,h2⟩
  ·obtain ⟨x, π, h1, h2, h3⟩ := aU.dn (xs := q :: s) h
   exact ⟨.inr x,π,h1,h2,h3⟩
def MT {R:Type} (no:R) (pre:List Nat) (base:Nat) (p:ay) (xs:aU) (inl:p.T→R) (inr:xs.T→R):Kc R:=fun e env nx bl ms=>match e with
 | .normal=>p.rd no pre base env nx bl ms inl
 | .exit i=>xs.rd no pre base (.exit i) env nx bl ms inr
 | .ret=>xs.rd no pre base .ret env nx bl ms inr
def wO {P:Program} {N:Nat} {out:Option Nat} {base:Nat} {R:Type} (kz:Kz R) (cx:Cx) (ar:Ar) (pre:List Nat) (p:ay) (xs:aU) (body:D P N out base) (inl:p.T→R) (inr:xs.T→R) (x:p.T):R :=
 fN (base+p.gA.length) fun nx=>p.go nx x fun env nx bl ms=>kE kz cx ar body env nx bl ms (MT kz.no pre base p xs inl inr)
section
variable {P:Program} {N:Nat} {out:Option Nat} {base:Nat}
noncomputable def bP (mixed : P.follows .mixedOrders = true) (cx : Cx) (fZ : cx.Ok P) (pre : List Nat) (hpre : pre = List.range base) (p : ay) (xs : aU) (hxs : xs.all (fun p => !FA p.1 .normal) = true) (body : D P N out base)
  (step:p.T→Option (p.T ⊕ xs.T)) (hstep:∀x,wO (iO (p.T ⊕ xs.T)) cx dU pre p xs body (fun y=>some (.inl y)) (fun b=>some (.inr b)) x=step x):cq P N out base where
 c:=body.er
 run kz env nx bl ms K:=p.rd kz.no pre base env nx bl ms fun x=>kz.bd (iter step x) fun b=>xs.go kz base b K
 ok:=by
  intro X env nx bl ms K r h Q hQ
  subst hpre
  obtain ⟨x,π,h1,h2⟩:=ay.dn h
  obtain ⟨b,h3,h4⟩:=oN h1
  have h5:=aU.zD h4
  refine JD (ig mixed) (I:=p.st base) (X:=xs.st base) (step:=step) (fun x r hx=>?_) h3 h2 (hQ _ _ _ _ _ h5)
  rw [←hstep x] at hx
  unfold wO at hx
  rw [fG,ay.go_eq] at hx
  refine kW fZ hx fun e env nx bl ms hk=>?_
  unfold MT at hk
  cases e with
  |normal =>
   obtain ⟨y,π,q1,q2⟩:=ay.dn hk
   cases q1
   exact ⟨rfl,π,q2⟩
  |exit i =>
   obtain ⟨y,π,q1,q2,q3⟩:=aU.dn hk
   cases q1
   exact ⟨by simp,q2,π,q3⟩
  |ret =>
   obtain ⟨y,π,q1,q2,q3⟩:=aU.dn hk
   cases q1
   exact ⟨by simp,q2,π,q3⟩
def qf : List SP → Type → Type
 |[],A=>A
 |p::r,A=>p.T (qf r A)
def Dc {A : Type} : (ps : List SP) → qf ps A → List V
 |[],_=>[]
 |p::r,x=>p.v x::Dc r (p.r x)
def WS {A : Type} : (ps : List SP) → qf ps A → A
 |[],x=>x
 |p::r,x=>WS r (p.r x)
def zF {A : Type} (π : List Nat) : (ps : List SP) → List V → Option (A → qf ps A)
 |[],[]=>some fun a=>a
 |p::r,v::vs=>match SP.rd (A:=qf r A) π p v with
  |some f=>match zF π r vs with
   |some g=>some fun a=>f (g a)
   |none=>none
  |none=>none
 |_,_=>none
theorem Dd {π : List Nat} {A : Type} : ∀ {ps : List SP} {vs : List V} {f : A → qf ps A}, zF π ps vs = some f → ∀ a, Ce π (Dc ps (f a)) vs ∧ WS ps (f a) = a
 |[],[],f,h,a=>by cases h;exact ⟨.nil,rfl⟩
 |c::r,v::vs,f,h,a=>by
  simp only [zF] at h
  split at h<;>try (cases h;done)
  rename_i f1 h1
  split at h<;>cases h
  rename_i g h2
  obtain ⟨q1,q2⟩:=SP.qW h1 (g a)
  obtain ⟨q3,q4⟩:=Dd h2 a
  simp only [Dc,WS,q2]
  exact ⟨.cons q1 q3,q4⟩
 |[],_::_,f,h,a=>by simp [zF] at h
 |_::_,[],f,h,a=>by simp [zF] at h
structure Ct where
 f:Nat
 ps:List SP
 res:SP
 fn:qf ps Unit→Option (res.T Unit)
def Ct.Ok (P:Program) (ct:Ct):Prop:=∀x y,ct.fn x=some y→gE P ct.f (Dc ct.ps x) (ct.res.v y)
theorem De {π:List Nat}:Mu.eF (fun _=>none) π=fun _=>none:=by
 funext i;simp only [Mu.eF];cases π[i]?<;>rfl
theorem Ba {f:Nat} {vs vs':List V} {v:V} {nx:Nat} {bl:ah} (h:gE P f vs' v) (hm:cS (fin dU bl 8) vs=some vs') (hs:Cm v=true) {Q:V→aG→Prop} (hQ:Q v ⟨nx,bl⟩):gH P f vs ⟨nx,bl⟩ Q:=by
 refine ⟨h.1,fun Y ι μ w as hI hl=>?_⟩
 refine (h.2 (ι.all Y.own w) w as (hI.dc.mono (ai.AH hI.rd)) (fun b o x hx=>?_) (iN (fun v r x h hr=>uN (fun _ _ _=>rfl) hI h hr) hm hl)).mono ?_
 ·exact ai.Fg hI.rd hx
 ·rintro e w' ⟨x, ι', rfl, _, _, _, jy, Fc⟩
  exact ⟨x,ι,μ,v,_,rfl,ai.le_refl _,Mu.le_refl _,hI.called (ai.le_refl _) (fun _ _ _=>rfl) (cV.kept (fun b o x hx=>hI.rd b o x hx) jy) jy,CV hs Fc,hQ⟩
def Df {R : Type} (kz : Kz R) (f : Nat) (vs : List V) (K : V → R) : List Ct → R
 |[]=>kz.no
 |ct::r=>match Nat.beq ct.f f with
  |true=>match zF (A:=Unit) [] ct.ps vs with
   |some g=>kz.bd (ct.fn (g ())) fun y=>ct.res.kv kz y K
   |none=>Df kz f vs K r
  |false=>Df kz f vs K r
def HL (P : Program) : List Ct → Prop
 |[]=>True
 |c::r=>c.Ok P∧HL P r
theorem oQ {X : Type} {f : Nat} {vs : List V} {K : V → Option X} {r : X} : ∀ {uS : List Ct}, HL P uS → Df (iO X) f vs K uS = some r → ∃ v, gE P f vs v ∧ K v = some r
 |[],_,hk=>by cases hk
 |ct::uS,h,hk=>by
  simp only [Df] at hk
  split at hk
  ·rename_i hf
   have e:=Nat.eq_of_beq_eq_true hf
   subst e
   split at hk
   ·rename_i g hg
    obtain ⟨y,hy,hk⟩:=qc hk
    rw [SP.aaS] at hk
    obtain ⟨q1,_⟩:=Dd hg ()
    refine ⟨_,?_,hk⟩
    have hp:=h.1 _ _ hy
    exact ⟨hp.1, fun ι w as hgl hrd hl => hp.2 ι w as hgl hrd (by
     have:=aH.eF (π:=[]) q1.1 (fun i v u hv hu=>fun {x} hr=>(q1.2 i v u hv hu).rel hr) hl
     rwa [De] at this)⟩
   ·exact oQ h.2 hk
  ·exact oQ h.2 hk
theorem JP {f:Nat} {vs vs':List V} {v:V} {nx:Nat} {bl bB:ah} (h:gE P f vs' v) (hm:cS (fin dU bl 8) vs=some vs') (hb:tS (ji bl vs) bl=some bB) {Q:V→aG→Prop} (hQ:Q v ⟨nx,bB⟩):gH P f vs ⟨nx,bl⟩ Q:=by
 refine ⟨h.1,fun Y ι μ w as hI hl=>?_⟩
 obtain ⟨ι',h1,h2,h3⟩:=uP hI hb
 have hl':aH ι' (fun _=>none) vs' as.toList:=by
  have key:∀{vs vs':List V} {xs:List Value},cS (fin dU bl 8) vs=some vs'→(∀id∈ji bl vs,yw ι' μ id (aj id bl))→aH ι μ vs xs→aH ι' (fun _=>none) vs' xs:=by
   intro vs
   induction vs with
   |nil=>intro vs' xs hm _ hl;cases hm;rw [hl.of_nil];exact .nil
   |cons v r ih =>
    intro vs' xs hm hfz hl
    unfold cS at hm
    split at hm<;>try (cases hm;done)
    rename_i u hu
    split at hm<;>cases hm
    rename_i us Hj
    obtain ⟨x,xs',rfl,r1,r2⟩:=hl.bh
    simp only [ji,List.flatMap_cons,List.mem_append] at hfz
    exact .cons (AL hu (fun id hid=>hfz id (.inl hid)) (r1.mono h1 (Mu.le_refl _))) (ih Hj (fun id hid=>hfz id (.inr hid)) r2)
  exact key hm h3 hl
 refine (h.2 ι' w as h2.dc (fun b o x hx=>h2.rd b o x hx) hl').mono ?_
 rintro e w' ⟨x,ι2,rfl,hi,hib,hrd,jy,Fc⟩
 exact ⟨x,ι2,μ,v,_,rfl,ai.le_trans h1 hi,Mu.le_refl _,h2.called hi hib hrd jy,Fc.mono (ai.le_refl _) (fun _ _ h=>by cases h),hQ⟩
def WT {R:Type} (uS:List Ct) (kz:Kz R) (f:Nat) (vs:List V) (nx:Nat) (bl:ah) (K:V→Nat→ah→R):R:=match vs.all (dy 8) with
 |true=>Df kz f vs (fun v=>K v nx bl) uS
 |false=>match cS (fin dU bl 8) vs with
  |some vs'=>Df kz f vs' (fun v=>match Cm v with
   |true=>K v nx bl
   |false=>match tS (ji bl vs) bl with
    |some bB=>ZN bB fun bB=>K v nx bB
    |none=>kz.no) uS
  |none=>kz.no
def mkCx (uS:List Ct):Cx where
 pc kz f vs K:=Df kz f vs K uS
 ca kz f vs nx bl K:=WT uS kz f vs nx bl K
 rd kz _ _ _ _ _:=kz.no
theorem Q4 {uS:List Ct} (h:HL P uS):(mkCx uS).Ok P where
 Uz hk:=oQ h hk
 QS:=by
  intro X f vs nx bl K r hk Q hQ
  simp only [mkCx,WT] at hk
  split at hk
  ·rename_i hd
   obtain ⟨v,hp,hk⟩:=oQ h hk
   exact Fl hp hd (hQ _ _ _ hk)
  ·split at hk <;> try (cases hk; done)
   rename_i vs' hm
   obtain ⟨v,hp,hk⟩:=oQ h hk
   split at hk
   ·rename_i hs
    exact Ba hp hm hs (hQ _ _ _ hk)
   ·split at hk <;> try (cases hk; done)
    rename_i bB hb
    rw [A9] at hk
    exact JP hp hm hb (hQ _ _ _ hk)
 WJ hk:=by cases hk
def WU {R:Type} (kz:Kz R) (ar:Ar) (rs:List RV) (tys:List (Option Ty)) (res:SP) (k:res.T Unit→R):Kc R:=fun e env nx bl ms=>match e with
 | .exit _=>kz.no
 | .normal=>go env nx bl ms
 | .ret=>go env nx bl ms
where go (env:Env) (nx:Nat) (bl:ah) (ms:List Nat):R:=match eo ms bl with
 |some bl=>match uq ar ⟨env,⟨nx,bl⟩,[]⟩ rs with
  |some vs=>match fin ar bl 8 (tN (cA tys vs)) with
   |some v=>match SP.rd (A:=Unit) [] res v with
    |some f=>k (f ())
    |none=>kz.no
   |none=>kz.no
  |none=>kz.no
 |none=>kz.no
def fnE {R:Type} (kz:Kz R) (cx:Cx) (ar:Ar) (rs:List RV) (tys:List (Option Ty)) (ps:List SP) (res:SP) (body:D P N none 0) (k:res.T Unit→R) (x:qf ps Unit):R :=
 Q2 (Dc ps x) fun vs=>kE kz cx ar body (args 0 vs) 0 [] [] (WU kz ar rs tys res k)
theorem JQ {f : Nat} {func : Func} {fn : Fn} (hf : P.funcs[f]? = some func) (htr : cC P func = some fn) (bY : Enters P f) (gJ : mA P fn.N none 0) {vs : List V} {r : V} (hlen : vs.length ≤ fn.np)
  (h:qF (fh P fn.N none 0) fn.body ⟨args 0 vs,⟨0,[]⟩,[]⟩ (Jq (fh P fn.N none 0) fn.res fn.tys (fun r'=>EV [] r r'))):gE P f vs r:=by
 refine ⟨bY,fun ι w as hgl hrd hr=>?_⟩
 let Y:Ctx:=⟨w,ι,fun _=>none,none,fun _=>False,[]⟩
 have hI:Inv P Y ι (fun _=>none) ⟨0,[]⟩ w:=⟨GW.refl _ _,ai.le_refl _,fun _ _ _ _=>rfl,hrd,fun id L h=>h,fun _ _=>rfl,fun id B h=>by simp [aj] at h,fun id id' B B' L L' h=>by simp [aj] at h,fun id B h=>by simp [aj] at h,hgl⟩
 have hres:Lq P func.results.toList=some fn.res:=by
  unfold cC at htr
  split at htr<;>try (cases htr;done)
  split at htr<;>try (cases htr;done)
  rename_i PI
  split at htr<;>try (cases htr;done)
  cases htr;exact PI
 refine Hr (Y:=Y) hf htr gJ hlen h rfl rfl (fun _ _=>rfl) hI hr fun Y1 ι' μ' S' a' w' e' hY hR hq=>?_
 have key:Jq.pV (fh P fn.N none 0) fn.res fn.tys (fun r'=>EV [] r r') S'→LeavesInM Fence.wide 0 P func a'.tmps (fun e w'=>∃v ι',e = .returned v∧ι.le ι'∧(∀b o,b<w.heap.size→ι' b o=ι b o)∧cV ι' w' ∧
   Dw w w'∧Rel ι' (fun _=>none) r v) a'.defers .returning w':=by
  intro hs
  unfold Jq.pV at hs
  split at hs<;>try (exact hs.elim)
  rename_i bl qu
  split at hs<;>try (exact hs.elim)
  rename_i vs' hvs
  split at hs<;>try (exact hs.elim)
  rename_i r' Q5
  refine sH hres (n:=S'.H.next) (bl:=S'.H.bl) hY rfl hR.inv hR.env hR.ms qu hvs fun x w2 nD hx=>?_
  refine ⟨x,ι'.all Y.own w2,rfl,ai.le_trans nD.i0 (ai.AH nD.rd),fun b o hb=>?_,fun b o y hy=>?_,nD.below.to (fun _ h=>h),?_⟩
  ·rw [ai.Qr (fun h=>by rcases h with h|h;exact absurd hb (Nat.not_lt.2 h);exact h)];exact nD.iB b o hb (fun h=>h)
  ·exact ai.Fg nD.rd hy
  ·have := hs.rel (uN (Y := Y) (ar := fh P fn.N none 0) (fun _ _ _ => rfl) nD Q5 (hx fn.tys))
   rwa [De] at this
 cases e' with
 |exit id=>exact hq.elim
 |normal=>exact ⟨.inl rfl,key hq⟩
 |ret=>exact ⟨.inr rfl,key hq⟩
theorem cZ (mixed : P.follows .mixedOrders = true) {cx : Cx} (fZ : cx.Ok P) {func : Func} {fn : Fn} {ct : Ct} (hf : P.funcs[ct.f]? = some func) (htr : cC P func = some fn) (bY : Enters P ct.f)
  (body:D P fn.N none 0) (hbody:body.er=fn.body) (hnp:Nat.ble ct.ps.length fn.np=true) (hfn:∀x,fnE (iO (ct.res.T Unit)) cx dU fn.res fn.tys ct.ps ct.res body some x=ct.fn x):ct.Ok P:=by
 intro x y hxy
 rw [←hfn x] at hxy
 unfold fnE at hxy
 rw [mI] at hxy
 have hlen:∀(ps:List SP) (x:qf ps Unit),(Dc ps x).length=ps.length:=by
  intro ps
  induction ps with
  |nil=>intro x;rfl
  |cons p r ih=>intro x;simp [Dc,ih]
 have hwp:=kW (Q:=Jq (fh P fn.N none 0) fn.res fn.tys (fun r=>EV [] (ct.res.v y) r)) fZ hxy (fun e env nx bl ms hk=>by
  have key:WU.go (iO (ct.res.T Unit)) dU fn.res fn.tys ct.res some env nx bl ms=some y→Jq.pV (fh P fn.N none 0) fn.res fn.tys (fun r=>EV [] (ct.res.v y) r) ⟨env,⟨nx,bl⟩,ms⟩:=by
   intro hg
   unfold WU.go at hg
   unfold Jq.pV
   split at hg<;>try (cases hg;done)
   rename_i bB h1
   rw [h1]
   simp only
   split at hg<;>try (cases hg;done)
   rename_i vs h2
   rw [h2]
   simp only
   have e:fin (fh P fn.N none 0) bB 8 (tN (cA fn.tys vs))=fin dU bB 8 (tN (cA fn.tys vs)):=by unfold fh;exact wq
   rw [e]
   split at hg<;>try (cases hg;done)
   rename_i v h3
   rw [h3]
   simp only
   split at hg<;>try (cases hg;done)
   rename_i f h4
   cases hg
   exact (SP.qW h4 ()).1
  cases e with
  |exit i=>cases hk
  |normal=>exact key hk
  |ret=>exact key hk)
 rw [hbody] at hwp
 exact JQ hf htr bY (ig mixed) (by rw [hlen];exact Nat.le_of_ble_eq_true hnp) hwp
end
end Go.AM
end
