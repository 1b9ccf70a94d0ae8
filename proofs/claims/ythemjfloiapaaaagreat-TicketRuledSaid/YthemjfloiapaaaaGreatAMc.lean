/- A region whose order is drawn: whatever the order, it ends as the canonical one. Calls in the caller's heap, loops unrolled, loops over functions. A call of yield: a round of the loop. The small machine, run. The way in: what an argument reads as is data of the machine. States that stand for as much, in general: names may change, nil slices may stand for empty lists, blocks that nobody reads are forgotten. The small machine's code as a function: tests, needs and calls stay open, all else is reckoned. Patterns: what stands in slots and blocks, with places for data; read out of a state, and laid again. Code that is the same, as a test. What is read by a pattern stands for what was there. Loops and functions, as functions of their data. -/
import Derived.Test.YthemjfloiapaaaaGreatAMb
import Derived.OrdersIn
import Derived.ProofKit
import Derived.OpenShut
import Derived.Maps.RangeRun
set_option linter.unusedSectionVars false
set_option linter.unusedVariables false
set_option linter.unusedSimpArgs false
section
namespace Go.AM
section
variable {P:Program} {N:Nat} {Y:Ctx} {ι ι':au} {μ μ':Mu} {H:aI} {w w':World} {out:Option Nat} {base:Nat} {ops:Array Oper}
def mM (acc:Array Nat) (o:Oper):Array Nat:=acc.push (o.after.foldl (fun s e=>if Region.binds .any e then s ||| 2 ^ e.on ||| acc.getD e.on 0 else s) 0)
theorem AN:Region.before ops=ops.toList.foldl mM #[]:=by
 unfold Region.before
 rw [←Array.foldl_toList];rfl
theorem xR {acc:Array Nat} {j:Nat}:∀{l:List Edge} {s:Nat},(l.foldl (fun s e=>if Region.binds .any e then s ||| 2 ^ e.on ||| acc.getD e.on 0 else s) s).testBit j=true →
  s.testBit j=true∨∃e∈l,Region.binds .any e=true∧(j=e.on∨(acc.getD e.on 0).testBit j=true)
 |[],s,h=>.inl h
 |e::r,s,h=>by
  simp only [List.foldl_cons] at h
  rcases xR h with h1|⟨e',he',h2⟩
  ·split at h1
   ·rename_i hb
    simp only [Nat.testBit_or,Bool.or_eq_true,Nat.testBit_two_pow,decide_eq_true_eq] at h1
    rcases h1 with (h1|h1)|h1
    ·exact .inl h1
    ·exact .inr ⟨e,List.mem_cons_self ..,hb,.inl h1.symm⟩
    ·exact .inr ⟨e,List.mem_cons_self ..,hb,.inr h1⟩
   ·exact .inl h1
  ·exact .inr ⟨e',List.mem_cons_of_mem _ he',h2⟩
theorem xS : ∀ (l : List Oper) (acc : Array Nat), (l.foldl mM acc).size = acc.size + l.length
 |[],acc=>by simp
 |o::r,acc=>by simp only [List.foldl_cons,xS r,mM,Array.size_push,List.length_cons];omega
theorem xU {j:Nat}:∀(l:List Oper) (acc:Array Nat) (pre:List Oper),acc.size=pre.length →
  (∀i,(acc.getD i 0).testBit j=true→∃o,pre[i]?=some o∧∃e∈o.after,Region.binds .any e=true∧(j=e.on∨(acc.getD e.on 0).testBit j=true)) →
  ∀i,((l.foldl mM acc).getD i 0).testBit j=true→∃o,(pre++l)[i]?=some o∧∃e∈o.after,Region.binds .any e=true∧(j=e.on∨((l.foldl mM acc).getD e.on 0).testBit j=true)
 |[],acc,pre,hs,h,i,hi=>by simpa using h i hi
 |o::r,acc,pre,hs,h,i,hi=>by
  have:=xU r (mM acc o) (pre++[o]) (by simp [mM,hs]) (fun i hi=>?_) i hi
  ·simpa using this
  ·have keep:∀k,(acc.getD k 0).testBit j=true→((mM acc o).getD k 0).testBit j=true:=fun k hk=>by
    have hlt:k<acc.size:=by
     rcases Nat.lt_or_ge k acc.size with h|h
     ·exact h
     ·simp [Array.getD,Nat.not_lt.2 h] at hk
    simpa [mM,Array.getD,hlt,Array.getElem_push,Nat.lt_succ_of_lt hlt] using (by simpa [Array.getD,hlt] using hk:acc[k].testBit j=true)
   by_cases hlt:i<acc.size
   ·have hi':(acc.getD i 0).testBit j=true:=by
     simpa [mM,Array.getD,hlt,Array.getElem_push,Nat.lt_succ_of_lt hlt] using hi
    obtain ⟨o',ho',e,he,hb,hj⟩:=h i hi'
    exact ⟨o',by rw [List.getElem?_append_left (List.getElem?_eq_some_iff.1 ho').1];exact ho',e,he,hb,hj.imp id (keep _)⟩
   ·by_cases heq : i = acc.size
    ·subst heq
     have hi':(o.after.foldl (fun s e=>if Region.binds .any e then s ||| 2 ^ e.on ||| acc.getD e.on 0 else s) 0).testBit j=true:=by
      simpa [mM,Array.getD,Array.getElem_push] using hi
     rw [←Array.foldl_toList] at hi'
     rcases xR hi' with h1|⟨e,he,hb,hj⟩
     ·simp at h1
     ·exact ⟨o,by rw [hs];simp,e,by simpa using he,hb,hj.imp id (keep _)⟩
    ·have : ¬ i < (mM acc o).size := by simp [mM]; omega
     simp [Array.getD,this] at hi
theorem oP {i j:Nat} (h:((Region.before ops).getD i 0).testBit j=true) :
  ∃o,ops[i]?=some o∧∃e∈o.after,Region.binds .any e=true∧(j=e.on∨((Region.before ops).getD e.on 0).testBit j=true):=by
 rw [AN] at h ⊢
 obtain ⟨o,ho,h⟩:=xU (j:=j) ops.toList #[] [] rfl (fun i hi=>by simp at hi) i h
 exact ⟨o,by simpa using ho,h⟩
theorem oQ:(Region.before ops).size=ops.size:=by rw [AN,xS];simp
theorem kr {i j:Nat}:j∈(bX ops).getD i []↔j<ops.size∧((Region.before ops).getD i 0).testBit j=true:=by
 unfold bX
 simp only [List.getD,List.getElem?_map]
 by_cases hi:i<ops.size
 ·have h:(Region.before ops).toList[i]?=some ((Region.before ops).getD i 0):=by
   have:i<(Region.before ops).size:=by rw [oQ];exact hi
   simp [Array.getD,this]
  simp [h,List.mem_filter,List.mem_range]
 ·have h1 : (Region.before ops).toList[i]? = none := List.getElem?_eq_none (by simp [oQ]; omega)
  have h2:(Region.before ops).getD i 0=0:=by simp [Array.getD,oQ,hi]
  simp [h1,h2]
theorem gz : ∀ {os : List Oper} {is : List eX}, ej P N ops os = some is → is.length = os.length ∧ ∀ (k : Nat) o it, os[k]? = some o → is[k]? = some it → qn P N ops o = some it
 |[],is,h=>by cases h;exact ⟨rfl,fun k o it h=>by simp at h⟩
 |o::os,is,h=>by
  unfold ej at h
  split at h<;>try (cases h;done)
  rename_i it its hit Nx
  cases h
  obtain ⟨h1,h2⟩:=gz Nx
  refine ⟨by simp [h1],fun k o' it' ho hi=>?_⟩
  cases k with
  |zero=>simp at ho hi;subst ho;subst hi;exact hit
  |succ k=>exact h2 k o' it' (by simpa using ho) (by simpa using hi)
theorem Inv.uf (h:Inv P Y ι μ H w) {n:Nat} (hn:H.next≤n):Inv P Y ι μ ⟨n,H.bl⟩ w :=
 ⟨h.below,h.i0,h.iB,h.rd,h.m0,fun id hid=>h.nx id (Nat.le_trans hn hid),h.live,h.inj,fun id B hB=>Nat.lt_of_lt_of_le (h.lt id B hB) hn,h.gl⟩
theorem Inv.eqB (h:Inv P Y ι μ H w) {bl:aq} (he:V5 bl H.bl):Inv P Y ι μ ⟨H.next,bl⟩ w :=
 ⟨h.below,h.i0,h.iB,h.rd,h.m0,h.nx,fun id B hB=>h.live id B (by rw [←he id];exact hB),fun id id' B B' L L' hb hb'=>h.inj id id' B B' L L' (by rw [←he id];exact hb) (by rw [←he id'];exact hb'),
  fun id B hB=>h.lt id B (by rw [←he id];exact hB),h.gl⟩
theorem dR.NC {B:Nat→Prop} {id:Nat} {b:lM} (h:dR P B ι μ id w b) (hw:w'.heap=w.heap):dR P B ι μ id w' b:=by
 cases b with
 |cells cs fz=>obtain ⟨L,vs,hM,h⟩:=h;exact ⟨L,vs,⟨hM.mu,hM.old,by rw [hw];exact hM.row,hM.fits,hM.one,hM.DD,hM.qo⟩,h⟩
 |arr t xs fz =>
  rcases h with h|⟨L,vs,hM,h⟩
  ·exact .inl h
  ·exact .inr ⟨L,vs,⟨hM.mu,hM.old,by rw [hw];exact hM.row,hM.fits,hM.one,hM.DD,hM.qo⟩,h⟩
 |loop st j d env ps as bd N=>unfold dR at h ⊢;rw [hw];exact h
 |iz=>unfold dR at h ⊢;rw [hw];exact h
 |map kt kg vt vg es=>unfold dR at h ⊢;rw [hw];exact h
 |nq t xs i p v =>
  obtain ⟨L,us,vs,c,hM,h⟩:=h
  exact ⟨L,us,vs,c,⟨hM.mu,hM.old,by rw [hw];exact hM.row,hM.fits,hM.one,hM.DD,hM.qo⟩,h⟩
theorem Inv.drawn (h:Inv P Y ι μ H w):Inv P Y ι μ H { w with drawn:=w.drawn+1 } :=
 ⟨⟨h.below.os,h.below.tape,h.below.output,h.below.size,h.below.block,Nat.le_succ_of_le h.below.dr,h.below.maps⟩,h.i0,h.iB,h.rd,h.m0,h.nx,fun id B hB=>(h.live id B hB).NC rfl,h.inj,h.lt,h.gl⟩
theorem Inv.called (hI:Inv P Y ι μ H w) (hi:ι.le ι') (hib:∀b o,b<w.heap.size→ι' b o=ι b o) (hrd:dz ι' w') (jY:Dw w w'):Inv P Y ι' μ H w':=by
 have hsz:=hI.below.size
 refine ⟨hI.below.then jY,au.le_trans hI.i0 hi,fun b o hb hx=>by rw [hib b o (by omega)];exact hI.iB b o hb hx,hrd,hI.m0,hI.nx,fun id B hB=>?_,hI.inj,hI.lt,hI.gl⟩
 have lX:=hI.live id B hB
 refine lX.mono hi (Mu.le_refl _) (fun h=>h) (fun L hL=>jY.b.block _ (lX.loc hL).2) (fun L hL ho o=>?_)
 rw [hib _ _ (lX.loc hL).2];exact ho o
theorem dz.kept (h:dz ι w) (jY:Dw w w'):dz ι w':=fun b o x hx=>by
 have h1:=h b o x hx
 have hlt:b<w.heap.size:=by
  rcases Nat.lt_or_ge b w.heap.size with h'|h'
  ·exact h'
  ·simp [World.cell?,Array.getElem?_eq_none h'] at h1
 unfold World.cell? at h1 ⊢
 simp only at h1 ⊢
 rw [jY.b.block b hlt];exact h1
theorem AO {v:V} {x:Value} (h:Iz v=true) (hr:Rel ι μ v x):Rel ι' μ' v x:=by
 cases hr<;>simp only [Iz] at h<;>try (cases h;done)
 case tf=>exact .tf _
 case bool=>exact .bool _
 case int=>exact .int _ _
 case str=>exact .str _
theorem KY {v:V} {x:Value} (h:M9 v=true) (hr:Rel ι μ v x):Rel ι' μ' v x:=by
 cases hr<;>simp only [M9] at h<;>try (cases h;done)
 case tf=>exact .tf _
 case bool=>exact .bool _
 case int=>exact .int _ _
 case str=>exact .str _
 case agg cs xs h1 h2 h3=>exact .agg cs xs h1 (fun i v x hv hx=>AO (List.all_eq_true.1 h _ (List.mem_of_getElem? hv)) (h2 i v x hv hx)) h3
theorem D6 {v:V} {x:Value} (h:DB v=true) (hr:Rel ι μ v x):Rel ι' μ' v x:=by
 cases hr<;>simp only [DB] at h<;>try (cases h;done)
 case tf=>exact .tf _
 case bool=>exact .bool _
 case int=>exact .int _ _
 case str=>exact .str _
 case agg cs xs h1 h2 h3=>exact .agg cs xs h1 (fun i v x hv hx=>AO (List.all_eq_true.1 h _ (List.mem_of_getElem? hv)) (h2 i v x hv hx)) h3
 case cO cs xs h1 h2=>exact .cO cs xs h1 fun i v x hv hx=>KY (List.all_eq_true.1 h _ (List.mem_of_getElem? hv)) (h2 i v x hv hx)
theorem Ca {g : V → Option V} : ∀ {vs : List V}, (∀ v ∈ vs, g v = some v) → dw g vs = some vs
 |[],_=>rfl
 |v::r,h=>by simp only [dw,h v (List.mem_cons_self ..),Ca (vs:=r) (fun v hv=>h v (List.mem_cons_of_mem _ hv))]
theorem xV {ar : Ar} {bl : aq} : ∀ {n : Nat} {v : V}, dQ n v = true → fin ar bl n v = some v
 |0,v,h=>by cases h
 |n+1,v,h=>by
  have all:∀{cs:List V},cs.all (dQ n)=true→dw (fin ar bl n) cs=some cs:=fun h=>Ca fun v hv=>xV (List.all_eq_true.1 h v hv)
  cases v<;>simp only [dQ] at h<;>try (cases h;done)
  case fH cs=>simp only [fin,h,if_true]
  case fn f a b=>simp only [Bool.and_eq_true] at h;simp only [fin,all h.1,all h.2]
  case agg cs=>simp only [fin,all h]
  case cO cs=>simp only [fin,all h]
  case cB t v=>simp only [fin,xV h]
  all_goals rfl
theorem vX {v0 v:V} {x:Value} (h:vOk v0 v) (hr:Rel ι μ v0 x):Rel ι μ v x:=by
 rcases h with rfl|⟨c,rfl,rfl⟩
 ·exact hr
 ·cases hr;exact .tf _
theorem ug {S:List (Nat×V)} {a:Act} (he:eF ι μ S a.tmps) {o:Oper} {g:Option (Nat×Bool)} (hg:trG ops o.guard=some g) {c:Bool} (h:IA g S=some c):Region.wanted o (yielded ops a.tmps)=c:=by
 cases Nw:o.guard with
 |none=>rw [Nw] at hg;cases hg;cases h;simp [Region.wanted,Nw]
 |some jb =>
  obtain ⟨j,b⟩:=jb
  rw [Nw] at hg
  simp only [trG] at hg
  split at hg<;>try (cases hg;done)
  rename_i oj hoj
  split at hg<;>try (cases hg;done)
  rename_i d hdj
  cases hg
  simp only [IA] at h
  split at h<;>try (cases h;done)
  rotate_left
  ·rename_i vs hc
   cases h
   simp only [Region.wanted,Nw,uR he hoj hdj hc]
   rfl
  rename_i c' hc
  simp only [Region.wanted,Nw,xz he hoj hdj (.inl hc)]
  revert h
  cases c'<;>cases b<;>intro h<;>cases h<;>rfl
theorem IW {b n : Nat} {t : TR} {env : List (Nat × V)} {bl : aq} {ms : List Nat} {a : Act} (hn : t.k < n) {o : Oper} (ho : ops[t.k]? = some o) (hit : qn P N ops o = some t.it)
  (ND:En (gx P N out base) b t env bl) (hR:eR P N Y ι μ ⟨env,⟨b+n,bl⟩,ms⟩ a w) (hfree:μ (b+t.k)=none) {Q:Exit→Act→World→Prop} {K:Act→World→Prop}
  (hK:∀ι' μ' a' w',eR P N Y ι' μ' ⟨t.NA env,⟨b+n,t.KW bl⟩,ms⟩ a' w'→(∀id,id≠b+t.k→μ' id=μ id)→K a' w'):wpOpIn Y.F 0 P ops Q t.k K a w:=by
 obtain ⟨k,it,ac,rd⟩:=t
 simp only at hn ho hit hfree hK
 unfold qn at hit
 split at hit<;>try (cases hit;done)
 rename_i hd
 split at hit<;>try (cases hit;done)
 rename_i g hg
 have hgrd:it.XG=g∧it.dst=o.dst:=by
  split at hit<;>(split at hit<;>try (cases hit;done))<;>(cases hit;exact ⟨rfl,rfl⟩)
 unfold wpOpIn
 simp only [ho]
 unfold En at ND
 cases ac with
 |skip =>
  simp only at ND
  rw [hgrd.1] at ND
  rw [if_neg (by rw [ug hR.env hg ND.1];simp)]
  refine ⟨fun _ _=>trivial,hK ι μ _ _ ?_ fun _ _=>rfl⟩
  have:=hR.put hd (au.le_refl _) (Mu.le_refl _) hR.inv Rel.und
  simpa [TR.NA,TR.KW,hgrd.2,Ac.val,Ac.Rr,bG] using this
 |op v u =>
  split at hit
  ·split at hit <;> try (cases hit; done)
   cases hit;exact ND.elim
  ·split at hit <;> try (cases hit; done)
   cases hit;exact ND.elim
  ·rename_i op _ _
   split at hit<;>try (cases hit;done)
   rename_i i hi
   cases hit
   obtain ⟨IG,ob,v0,aj,dc,hv,_⟩:=ND
   have hw:=ug hR.env hg IG
   rw [if_pos hw]
   have hop:Nf P Y ι μ ⟨b+n,bl⟩ w (b+k) (execOp a.eval o) v0 u i.lays:=by
    rcases aj with aj|aj
    ·exact AH hR.inv hfree hR.env hi aj dc
    ·exact AJ hR.inv hfree hR.env hi aj dc
   obtain ⟨ι',μ',x,w',hx,hi',hm,hne,hinv,GI⟩:=hop
   refine ⟨fun _ _=>trivial,?_⟩
   rw [Oper.semAt_eq _ _ _ (mL hi)]
   have IX:fO i.lays (b+n) (b+k)=b+n:=by unfold fO;cases i.lays<;>simp<;>omega
   have mA:eR P N Y ι' μ' ⟨AM.put o.dst v env,⟨b+n,bG u bl⟩,ms⟩ (a.put o.dst x) w':=by
    refine hR.put hd hi' hm ?_ (vX hv GI)
    have:=hinv;simp only [IX] at this;exact this
   rcases hx with h|⟨h,rfl⟩<;>rw [h]<;>exact hK _ _ _ _ mA hne
 |call v u =>
  obtain ⟨c,args,tys,fo,as,hop,hf,ha,rfl⟩:∃(c:Callee) (args:Array Operand) (tys:Array TypeId) (fo:O) (as:List O),o.op = .call { callee:=c,args:=args,argTypes:=tys }∧nw P c=some fo∧wQ args.toList=some as∧it = .call o.dst g fo as (iY P fo tys):=by
   split at hit
   ·rename_i f args tys hop
    split at hit<;>try (cases hit;done)
    rename_i fo as hf ha
    cases hit
    exact ⟨.value f,args,tys,fo,as,hop,hf,ha,rfl⟩
   ·rename_i r name args tys hop
    split at hit<;>try (cases hit;done)
    rename_i fo as hf ha
    cases hit
    exact ⟨.invoke r name,args,tys,fo,as,hop,hf,ha,rfl⟩
   ·split at hit <;> try (cases hit; done)
    cases hit;exact ND.elim
  obtain ⟨IG,fid,fs,cs,vs',v0,pR,hmo,hp,hs,hv,_⟩:=ND
  have hw:=ug hR.env hg IG
  rw [if_pos hw]
  refine ⟨fun _ _=>trivial,?_⟩
  rw [Oper.semAt_eq _ _ _ (by rw [hop];simp)]
  have ra:=kF hR.env ha
  obtain ⟨cI,gZ⟩:=hp
  obtain ⟨xs,ys,r1,r2,hrun⟩:=D0 hop hf hR.env pR cI
  rw [hrun]
  have rl:aJ ι μ (fs++cT (iY P fo tys) (as.map (·.ev env))++cs) (xs++args.map a.eval++ys).toList:=by
   have:=(r1.append (mH (ts:=iY P fo tys) ra)).append r2
   simpa using this
  refine ⟨fun h=>by simp [Ctx.F,Fence.wide] at h,?_⟩
  rcases Bool.eq_false_or_eq_true (DB v0||(fs++cT (iY P fo tys) (as.map (·.ev env))++cs).all (dQ 8)) with hb|hb
  rotate_left
  ·rw [hb] at hs
   obtain ⟨ι2,i1,i2,i3⟩:=vW hR.inv (B9 hs)
   have hmo':dw (fin dY bl 8) (fs++cT (iY P fo tys) (as.map (·.ev env))++cs)=some vs':=(nJ (fun v=>by unfold gx;exact xQ.symm) _).trans hmo
   refine CallsIn.mono (F:=Y.F) (gZ ι2 w _ i2.dF (fun b o x hx=>i2.rd b o x hx) (Sd i1 hmo' i3 rl)) ?_
   rintro e w' ⟨v',ι',rfl,hi,hib,hrd,jY,GI⟩
   have hinv':Inv P Y ι' μ ⟨b+n,bG u bl⟩ w':=i2.called hi hib hrd jY
   exact hK _ _ _ _ (hR.put hd (au.le_trans i1 hi) (Mu.le_refl _) hinv' (vX hv (GI.mono (au.le_refl _) (fun _ _ h=>by cases h)))) fun _ _=>rfl
  rw [hb] at hs
  cases hs
  replace hs:=hb
  rw [Bool.or_eq_true] at hs
  rcases hs with hs|hs
  ·refine CallsIn.mono (F := Y.F) (gZ (ι.all Y.own w) w _ (hR.inv.dF.mono (au.B5 hR.inv.rd)) (fun b o x hx => ?_) (jk (fun v r x h hr => vU (fun _ _ _ => rfl) hR.inv h hr) hmo rl)) ?_
   ·exact au.GL hR.inv.rd hx
   ·rintro e w' ⟨v', ι', rfl, _, _, _, jY, GI⟩
    have hinv':Inv P Y ι μ ⟨b+n,bl⟩ w':=hR.inv.called (au.le_refl _) (fun _ _ _=>rfl) (dz.kept (fun b o x hx=>hR.inv.rd b o x hx) jY) jY
    exact hK _ _ _ _ (hR.put hd (au.le_refl _) (Mu.le_refl _) hinv' (vX hv (D6 hs GI))) fun _ _=>rfl
  ·have hid:dw (fin (gx P N out base) bl 8) (fs++cT (iY P fo tys) (as.map (·.ev env))++cs)=some (fs++cT (iY P fo tys) (as.map (·.ev env))++cs) :=
    Ca fun v hv=>xV (List.all_eq_true.1 hs v hv)
   rw [hid] at hmo;cases hmo
   have rl':aJ ι (fun _=>none) (fs++cT (iY P fo tys) (as.map (·.ev env))++cs) (xs++args.map a.eval++ys).toList :=
    ⟨rl.1,fun i v x hv hx=>dJ (List.all_eq_true.1 hs _ (List.mem_of_getElem? hv)) (rl.2 i v x hv hx)⟩
   refine CallsIn.mono (F:=Y.F) (gZ ι w _ hR.inv.dF (fun b o x hx=>hR.inv.rd b o x hx) rl') ?_
   rintro e w' ⟨v',ι',rfl,hi,hib,hrd,jY,GI⟩
   have hinv':Inv P Y ι' μ ⟨b+n,bl⟩ w':=hR.inv.called hi hib hrd jY
   exact hK _ _ _ _ (hR.put hd hi (Mu.le_refl _) hinv' (vX hv (GI.mono (au.le_refl _) (fun _ _ h=>by cases h)))) fun _ _=>rfl
structure Good (ops:Array Oper) (m:Nat) (is:List eX) (R:List TR) (listed:Array Bool):Prop where
 sz:listed.size=ops.size
 mem:∀t∈R,t.k<m∧is[t.k]?=some t.it∧listed.getD t.k true=false
 cov:∀i,i<m→listed.getD i true=false→∃t∈R,t.k=i
 srt:R.Pairwise (fun a b=>a.k<b.k)
 dr:R.Pairwise (DrP (bX ops))
 clo:∀i,listed.getD i false=true→∀j∈(bX ops).getD i [],listed.getD j false=true
 le:m≤ops.size
 tl:∀i,m≤i→i<ops.size→listed.getD i true=false
theorem Cb {l:Array Bool} {i:Nat} (h:l.getD i true=false):l.getD i false=false∧i<l.size:=by
 rcases Nat.lt_or_ge i l.size with h'|h'
 ·simp [h'] at h ⊢;exact h
 ·simp [Array.getElem?_eq_none h'] at h
theorem nK {l:Array Bool} {i:Nat} (h:i<l.size) (d d':Bool):l.getD i d=l.getD i d':=by simp [h]
theorem Cc {cV:List (List Nat)} {is:List eX} (h:rM cV is=true) {i j:Nat} (hij:i<j) {a b:eX} (ha:is[i]?=some a) (hb:is[j]?=some b):i∈cV.getD j []∨ny a b=true:=by
 unfold rM at h
 have hj:j<is.length:=(List.getElem?_eq_some_iff.1 hb).1
 have:=List.all_eq_true.1 (List.all_eq_true.1 h j (List.mem_range.2 hj)) i (List.mem_range.2 hij)
 simp only [ha,hb,Bool.or_eq_true] at this
 rcases this with h|h
 ·exact .inl (by simpa using h)
 ·exact .inr h
theorem oR {m:Nat} {is:List eX} {R:List TR} {listed:Array Bool} (hG:Good ops m is R listed) {i:Nat} (hi:i∈Region.ready .any ops listed):∀j∈(bX ops).getD i [],listed.getD j false=true:=by
 intro j hj
 obtain ⟨_,o,ho,hall⟩:=mem_ready.1 hi
 obtain ⟨hjs,ht⟩:=kr.1 hj
 obtain ⟨o',ho',e,he,hb,h⟩:=oP ht
 rw [ho] at ho';cases ho'
 have hl:=hall e he hb
 rcases h with rfl|h
 ·exact hl
 ·exact hG.clo _ hl j (kr.2 ⟨hjs,h⟩)
theorem NF {m:Nat} {is:List eX} {R:List TR} {listed:Array Bool} (hG:Good ops m is R listed) (eu:gX ops=true) {k:Nat} (h1:k<ops.size) (h3:listed.getD k true=false) (oS:∀i,i<k→listed.getD i true=true):k∈Region.ready .any ops listed:=by
 refine mem_ready.2 ⟨h3,ops[k],by simp [h1],fun e he hb=>?_⟩
 have hlt:e.on<k:=by
  unfold gX at eu
  have hmem:(ops[k],k)∈ops.toList.zipIdx:=by
   rw [List.mem_zipIdx_iff_getElem?];simp [h1]
  have:=List.all_eq_true.1 eu _ hmem
  simp only at this
  have:=Array.all_eq_true_iff_forall_mem.1 this e he
  simpa [hb] using this
 have hlt':e.on<listed.size:=by rw [hG.sz];omega
 rw [nK hlt' false true];exact oS _ hlt
theorem GS {m:Nat} {is:List eX} {t:TR} {R:List TR} {listed:Array Bool} (hG:Good ops m is (t::R) listed) (eu:gX ops=true):t.k∈Region.ready .any ops listed:=by
 obtain ⟨h1,_,h3⟩:=hG.mem t (List.mem_cons_self ..)
 refine NF hG eu (by have:=hG.le;omega) h3 fun i hi=>?_
 rcases Bool.eq_false_or_eq_true (listed.getD i true) with h|h
 ·exact h
 ·obtain ⟨t', ht', hk⟩ := hG.cov i (by omega) h
  rcases List.mem_cons.1 ht' with rfl|ht'
  ·omega
  ·have := (List.pairwise_cons.1 hG.srt).1 t' ht'
   omega
theorem Good.step {m:Nat} {is:List eX} {L1 L2:List TR} {t:TR} {listed:Array Bool} (hG:Good ops m is (L1++t::L2) listed) (hr:t.k∈Region.ready .any ops listed):Good ops m is (L1++L2) (listed.setIfInBounds t.k true):=by
 have hsub:(L1++L2).Sublist (L1++t::L2):=(List.Sublist.refl L1).append (List.sublist_cons_self t L2)
 have hne:∀x∈L1++L2,x.k≠t.k:=fun x hx=>by
  have:=List.pairwise_append.1 hG.srt
  rcases List.mem_append.1 hx with h|h
  ·exact Nat.ne_of_lt (this.2.2 x h t (List.mem_cons_self ..))
  ·exact Nat.ne_of_gt ((List.pairwise_cons.1 this.2.1).1 x h)
 refine ⟨by simp [hG.sz],fun x hx=>?_,fun i hi Se=>?_,hG.srt.sublist hsub,hG.dr.sublist hsub,fun i hi j hj=>?_,hG.le,fun i hi hi2=>?_⟩
 ·obtain ⟨h1, h2, h3⟩ := hG.mem x (hsub.subset hx)
  exact ⟨h1,h2,by rw [getD_set_ne true (Ne.symm (hne x hx))];exact h3⟩
 ·have hki:t.k≠i:=fun e=>by
   subst e
   have:t.k<listed.size:=by rw [hG.sz];exact Nat.lt_of_lt_of_le hi hG.le
   simp [this] at Se
  rw [getD_set_ne true hki] at Se
  obtain ⟨x,hx,hk⟩:=hG.cov i hi Se
  refine ⟨x,?_,hk⟩
  rcases List.mem_append.1 hx with h|h
  ·exact List.mem_append_left _ h
  ·rcases List.mem_cons.1 h with rfl | h
   ·exact absurd hk hki
   ·exact List.mem_append_right _ h
 ·refine getD_set_true ?_
  by_cases hki:t.k=i
  ·subst hki;exact oR hG hr j hj
  ·rw [getD_set_ne false hki] at hi
   exact hG.clo i hi j hj
 ·have hk := (hG.mem t (List.mem_append_right _ (List.mem_cons_self ..))).1
  rw [getD_set_ne true (by omega)]
  exact hG.tl i hi hi2
theorem D7 {os:List Oper} {is:List eX} {k:Nat} (h:ej P N ops os=some is):ej P N ops (os.drop k)=some (is.drop k):=by
 induction k generalizing os is with
 |zero=>simpa using h
 |succ k ih =>
  cases os with
  |nil=>cases h;rfl
  |cons o os =>
   unfold ej at h
   split at h<;>try (cases h;done)
   rename_i it its hit Nx
   cases h
   simpa using ih Nx
theorem D8 {m:Nat} (eu:gX ops=true) (AP:∀i,m≤i→i<ops.size→∀j,j<i→j∈(bX ops).getD i []) {Q:Exit→Act→World→Prop}:∀(n k:Nat) {listed:Array Bool} {a:Act} {w:World},
  m≤k→k+n=ops.size→listed.size=ops.size→(∀i,i<k→listed.getD i true=true)→(∀i,k≤i→i<ops.size→listed.getD i true=false) →
  (∀i,listed.getD i false=true→∀j∈(bX ops).getD i [],listed.getD j false=true)→wpOpsIn Y.F 0 P ops Q (List.range' k n) a w→wpAnyIn Y.F 0 P .any ops Q n listed a w
 |0,k,listed,a,w,hm,hk,hsz,oS,IY,uh,h=>by
  refine ⟨?_,h⟩
  cases hr:Region.ready .any ops listed with
  |nil=>rfl
  |cons i r =>
   have hi:i∈Region.ready .any ops listed:=by rw [hr];exact List.mem_cons_self ..
   obtain ⟨h0,o,ho,_⟩:=mem_ready.1 hi
   have:=(Array.getElem?_eq_some_iff.1 ho).1
   rw [oS i (by omega)] at h0;cases h0
 |n+1,k,listed,a,w,hm,hk,hsz,oS,IY,uh,h=>by
  have hks:k<ops.size:=by omega
  have hrk:k∈Region.ready .any ops listed:=by
   refine mem_ready.2 ⟨IY k (Nat.le_refl _) hks,ops[k],by simp [hks],fun e he hb=>?_⟩
   have hlt:e.on<k:=by
    unfold gX at eu
    have hmem:(ops[k],k)∈ops.toList.zipIdx:=by
     rw [List.mem_zipIdx_iff_getElem?];simp [hks]
    have:=List.all_eq_true.1 eu _ hmem
    simp only at this
    have:=Array.all_eq_true_iff_forall_mem.1 this e he
    simpa [hb] using this
   have hlt':e.on<listed.size:=by rw [hsz];omega
   rw [nK hlt' false true];exact oS _ hlt
  have hrp:∀i,i∈Region.ready .any ops listed→∀j∈(bX ops).getD i [],listed.getD j false=true:=by
   intro i hi j hj
   obtain ⟨_,o,ho,hall⟩:=mem_ready.1 hi
   obtain ⟨hjs,ht⟩:=kr.1 hj
   obtain ⟨o',ho',e,he,hb,h⟩:=oP ht
   rw [ho] at ho';cases ho'
   have hl:=hall e he hb
   rcases h with rfl|h
   ·exact hl
   ·exact uh _ hl j (kr.2 ⟨hjs,h⟩)
  refine ⟨fun h0=>(by rw [h0] at hrk;cases hrk),fun i hi=>?_⟩
  obtain ⟨h0,o,ho,_⟩:=mem_ready.1 hi
  have nH:=(Array.getElem?_eq_some_iff.1 ho).1
  have hik:i=k:=by
   rcases Nat.lt_trichotomy i k with h1|h1|h1
   ·rw [oS i h1] at h0;cases h0
   ·exact h1
   ·have := hrp i hi k (AP i (by omega) nH k h1)
    rw [(Cb (IY k (Nat.le_refl _) hks)).1] at this;cases this
  subst hik
  rw [List.range'_succ,wpOpsIn_cons] at h
  refine wpOpIn_mono (fun a' w' h'=>D8 eu AP n (i+1) (by omega) (by omega) (by simpa using hsz) (fun j hj=>?_) (fun j hj hj2=>?_) (fun x hx j hj=>?_) h') h
  ·by_cases e : i = j
   ·subst e;simp [hsz,hks]
   ·rw [getD_set_ne true e];exact oS j (by omega)
  ·rw [getD_set_ne true (by omega)];exact IY j (by omega) hj2
  ·refine getD_set_true ?_
   by_cases e:i=x
   ·subst e;exact hrp i hi j hj
   ·rw [getD_set_ne false e] at hx
    exact uh x hx j hj
theorem NG {is : List eX} {m : Nat} (AP : ∀ i, m ≤ i → i < ops.size → ∀ j, j < i → j ∈ (bX ops).getD i []) (nH : ej P N ops ops.toList = some is) (qK : rM (bX ops) is = true) (eu : gX ops = true) {b : Nat} {ms : List Nat} {F : List (Nat × V) → aq → Prop} (hF : B7 F)
  {Q:Exit→Act→World→Prop} (hend:∀ι μ env bl a w,eR P N Y ι μ ⟨env,⟨b+m,bl⟩,ms⟩ a w→F env bl→wpOpsIn Y.F 0 P ops Q (List.range' m (ops.size - m)) a w) :
  ∀(fuel:Nat) {R:List TR} {listed:Array Bool} {a:Act} {w:World} {ι:au} {μ:Mu} {env:List (Nat×V)} {bl:aq},fuel=R.length+(ops.size - m)→Good ops m is R listed→vA (gx P N out base) b R env bl F →
   eR P N Y ι μ ⟨env,⟨b+m,bl⟩,ms⟩ a w→(∀t∈R,μ (b+t.k)=none)→wpAnyIn Y.F 0 P .any ops Q fuel listed a w
 |fuel,R,listed,a,w,ι,μ,env,bl,hl,hG,hrun,hR,hfr=>by
  rcases Decidable.em (R=[]) with uj|uj
  ·subst uj
   have hle:=hG.le
   have hf:fuel=ops.size - m:=by simpa using hl
   rw [hf]
   refine D8 eu AP (ops.size - m) m (Nat.le_refl _) (by omega) hG.sz (fun i hi=>?_) hG.tl hG.clo (hend _ _ _ _ _ _ hR hrun)
   rcases Bool.eq_false_or_eq_true (listed.getD i true) with h|h
   ·exact h
   ·obtain ⟨t,ht,_⟩:=hG.cov i hi h;simp at ht
  obtain ⟨fuel,rfl⟩:∃f,fuel=f+1:=⟨fuel - 1,by have:=List.length_pos_iff.2 uj;omega⟩
  ·refine ⟨fun h0 => ?_, fun i hi => ?_⟩
   ·cases R with
    |nil=>exact absurd rfl uj
    |cons t R=>have:=GS hG eu;rw [h0] at this;simp at this
   ·obtain ⟨h0, o, ho, _⟩ := mem_ready.1 hi
    have him:i<m:=by
     rcases Nat.lt_or_ge i m with h|h
     ·exact h
     ·exfalso
      have wZ:=(Array.getElem?_eq_some_iff.1 ho).1
      cases R with
      |nil=>exact uj rfl
      |cons t R =>
       have Rs:=hG.mem t (List.mem_cons_self ..)
       have:=oR hG hi _ (AP i h wZ t.k (by omega))
       rw [(Cb Rs.2.2).1] at this;cases this
    obtain ⟨t,ht,hk⟩:=hG.cov i him h0
    subst hk
    obtain ⟨L1,L2,rfl⟩:=List.append_of_mem ht
    have hAp:∀x∈L1,V6 x t:=fun x hx=>by
     have hp:=(List.pairwise_append.1 hG.srt).2.2 x hx t (List.mem_cons_self ..)
     have hd:=(List.pairwise_append.1 hG.dr).2.2 x hx t (List.mem_cons_self ..)
     have XW:=hG.mem x (List.mem_append_left _ hx)
     have Rs:=hG.mem t ht
     have hnot:x.k∉(bX ops).getD t.k []:=fun h=>by
      have:=oR hG hi _ h
      rw [(Cb XW.2.2).1] at this;cases this
     rcases Cc qK hp XW.2.1 Rs.2.1 with h|h
     ·exact absurd h hnot
     ·rcases hd with h' | h'
      ·exact absurd h' hnot
      ·exact ⟨h,h'.1,h'.2⟩
    obtain ⟨ND,acw⟩:=pull hF hAp hrun
    have Rs:=hG.mem t ht
    have hit:=(gz nH).2 t.k o t.it (by simpa using ho) Rs.2.1
    refine IW Rs.1 ho hit ND hR (hfr t ht) fun ι' μ' a' w' gU hne=>?_
    have hG':=hG.step hi
    refine NG AP nH qK eu hF hend fuel (R:=L1++L2) (by simp at hl ⊢;omega) hG' acw gU fun x hx=>?_
    have hx':x∈L1++t::L2:=((List.Sublist.refl L1).append (List.sublist_cons_self t L2)).subset hx
    have h1:=(hG'.mem x hx).2.2
    have hnk:x.k≠t.k:=fun e=>by
     rw [e] at h1
     have:t.k<listed.size:=by rw [hG.sz];have:=hG.le;omega
     simp [this] at h1
    rw [hne _ (by omega)];exact hfr x hx'
theorem AQ {ar : Ar} {b : Nat} {F G : List (Nat × V) → aq → Prop} (h : ∀ e bl, F e bl → G e bl) : ∀ {ts : List TR} {env : List (Nat × V)} {bl : aq}, vA ar b ts env bl F → vA ar b ts env bl G
 |[],_,_,hr=>h _ _ hr
 |_::_,_,_,hr=>⟨hr.1,AQ h hr.2⟩
theorem D9 {ar : Ar} {b : Nat} {p : Prop} {F : List (Nat × V) → aq → Prop} : ∀ {ts : List TR} {env : List (Nat × V)} {bl : aq}, vA ar b ts env bl (fun e bl => p ∧ F e bl) → p ∧ vA ar b ts env bl F
 |[],_,_,hr=>hr
 |_::_,_,_,hr=>let ⟨h1,h2⟩:=D9 hr.2;⟨h1,hr.1,h2⟩
theorem iK (hm:P.follows .mixedOrders=true):nG P N out base:=by
 intro id ops Dr R7 nH qK eu hl S K hK Y ι μ a w ho hb hR
 refine wpIn_region_any hm ?_
 obtain ⟨ts,h1,h2,h3⟩:=oO hK
 simp only [List.nil_append] at h3
 obtain ⟨hdr,hrun⟩:=D9 h3
 have hlen:Dr.length+R7.length=ops.size:=by simpa using (gz nH).1
 have htl:ts.length=Dr.length:=by rw [←h1];simp
 have hk:∀(j:Nat) t,ts[j]?=some t→t.k=j∧(Dr++R7)[j]?=some t.it∧j<Dr.length:=fun j t ht=>by
  have hj:=(List.getElem?_eq_some_iff.1 ht).1
  refine ⟨?_,?_,by omega⟩
  ·have : (ts.map (·.k))[j]? = some t.k := by simp [ht]
   rw [h2,List.getElem?_range' (by omega)] at this
   simpa using this.symm
  ·rw [List.getElem?_append_left (by omega),←h1];simp [ht]
 let F:List (Nat×V)→aq→Prop:=fun env bl=>∃jZ IZ,GR jZ env∧V5 IZ bl∧fK (gx P N out base) R7 ⟨jZ,⟨S.H.next+Dr.length,IZ⟩,S.ms⟩ K
 have hF:B7 F:=fun env env' bl bT he rE ⟨e0,b0,q1,q2,q3⟩=>⟨e0,b0,q1.trans he,fun i=>(q2 i).trans (rE i),q3⟩
 have mA:∀{ι' μ' env bl jZ IZ a' w'},eR P N Y ι' μ' ⟨env,⟨S.H.next+Dr.length,bl⟩,S.ms⟩ a' w'→GR jZ env→V5 IZ bl→eR P N Y ι' μ' ⟨jZ,⟨S.H.next+Dr.length,IZ⟩,S.ms⟩ a' w':=fun gU q1 q2 =>
  ⟨fun t=>by rw [q1 t];exact gU.env t,gU.sz,gU.inv.eqB q2,gU.ms⟩
 have hfl:ops.size=ts.length+(ops.size - Dr.length):=by omega
 have htr2:ej P N ops (ops.toList.drop Dr.length)=some R7:=by
  have:=D7 (k:=Dr.length) nH
  rwa [List.drop_left' rfl] at this
 refine NG (out:=out) (base:=base) (b:=S.H.next) (ms:=S.ms) (F:=F) (fun i hi hi2=>hl i hi (by omega)) nH qK eu hF (fun ι' μ' env bl a' w' gU hf=>?_) ops.size (R:=ts) (ι:=ι) (μ:=μ) (env:=S.env) (bl:=S.H.bl) hfl ?_ ?_ ?_ ?_
 ·obtain ⟨e0, b0, q1, q2, q3⟩ := hf
  have h:=xE (Y:=Y) (os:=ops.toList.drop Dr.length) (Q:=Post P N Y fun e S=>match e with | .normal=>K S|_=>False) (K:=K) (out:=out) (base:=base) (fun ι μ S a w hR hK=>Post.of (e':=.normal) hR rfl hK) (k:=Dr.length) htr2 (fun j=>by
   rw [List.getElem?_drop];simp) (mA gU q1 q2) q3
  rwa [List.length_drop,Array.length_toList] at h
 ·refine ⟨by simp, fun t ht => ?_, fun i hi Se => ?_, ?_, qJ hdr, fun i hi => ?_, by omega, fun i hi hi2 => by simp [hi2]⟩
  ·obtain ⟨j, hj⟩ := List.getElem?_of_mem ht
   obtain ⟨e1,e2,e3⟩:=hk j t hj
   subst e1
   exact ⟨e3,e2,by simp [show t.k<ops.size by omega]⟩
  ·have : i < ts.length := by omega
   refine ⟨ts[i],List.getElem_mem this,(hk i _ (by simp)).1⟩
  ·have h4 : (ts.map (·.k)).Pairwise (· < ·) := by rw [h2]; exact List.pairwise_lt_range'
   exact List.pairwise_map.1 h4
  ·exfalso
   rcases Nat.lt_or_ge i ops.size with h|h<;>simp [h] at hi
 ·refine AQ (fun e bl h => ?_) hrun
  exact ⟨e,bl,fun _=>rfl,fun _=>rfl,h⟩
 ·exact ⟨hR.env,hR.sz,(hR.inv.uf (by omega)).drawn,hR.ms⟩
 ·intro t ht
  exact hR.inv.nx _ (by omega)
end
end Go.AM
end
section
namespace Go.AM
section
variable {P:Program} {N:Nat} {Y:Ctx} {ι ι':au} {μ μ':Mu} {H:aI} {w w':World} {out:Option Nat} {base:Nat}
theorem Sf {func:Func} {fn:Fn} (htr:cM P func=some fn):M7 P func.results.toList=some fn.res:=by
 unfold cM at htr
 split at htr<;>try (cases htr;done)
 split at htr<;>try (cases htr;done)
 rename_i Rq
 split at htr<;>try (cases htr;done)
 cases htr;exact Rq
theorem Inv.down (h:Inv P Y ι μ H w) (ro:Option Nat):Inv P ⟨Y.w0,ι,μ,ro,Y.x,[]⟩ ι μ H w :=
 ⟨h.below,au.le_refl _,fun _ _ _ _=>rfl,h.rd,Mu.le_refl _,h.nx,h.live,h.inj,h.lt,h.dF⟩
theorem Inv.up {ro:Option Nat} {H':aI} (h0:Inv P Y ι μ H w) (h:Inv P ⟨Y.w0,ι,μ,ro,Y.x,[]⟩ ι' μ' H' w'):Inv P Y ι' μ' H' w'∧ι.le ι'∧μ.le μ' :=
 ⟨⟨h.below,au.le_trans h0.i0 h.i0,fun b o hb hx=>(h.iB b o hb hx).trans (h0.iB b o hb hx),h.rd,Mu.le_trans h0.m0 h.m0,h.nx,h.live,h.inj,h.lt,h0.gl⟩,h.i0,h.m0⟩
theorem kO {f : Nat} {func : Func} {fn : Fn} (hf : P.funcs[f]? = some func) (htr : cM P func = some fn) (cI : Enters P f) (ic : nG P fn.N none H.next) {vs : List V} {Q : V → aI → Prop} (hlen : vs.length ≤ fn.np)
  (h:rP (gx P fn.N none H.next) fn.body ⟨args 0 vs,H,[]⟩ (B4 fn.res fn.tys Q)):gY P f vs H Q:=by
 refine ⟨cI,fun Y ι μ w as hI hr=>?_⟩
 refine IQ (Y:=⟨Y.w0,ι,μ,none,Y.x,[]⟩) hf htr ic hlen h rfl rfl (fun id hid=>hI.nx id hid) (hI.down none) hr fun Y1 ι' μ' S' a' w' e' hY hR hq=>?_
 have key:B4.qG fn.res fn.tys Q S'→LeavesInM Fence.wide 0 P func a'.tmps (Nt P Y ι μ Q) a'.defers .returning w':=by
  intro hs
  unfold B4.qG at hs
  split at hs<;>try (exact hs.elim)
  rename_i bl rE
  split at hs<;>try (exact hs.elim)
  rename_i vs' hvs
  refine uc (Sf htr) (n:=S'.H.next) (bl:=S'.H.bl) hY rfl hR.inv hR.env hR.ms rE hvs fun x w2 oD hx=>?_
  obtain ⟨h1,h2,h3⟩:=hI.up oD
  exact ⟨x,ι',μ',_,_,rfl,h2,h3,h1,hx (hTs fn.tys),hs⟩
 cases e' with
 |exit id=>exact hq.elim
 |normal=>exact ⟨.inl rfl,key hq⟩
 |ret=>exact ⟨.inr rfl,key hq⟩
def unr (ar : Ar) (c : C) : Nat → St → (Ex → St → Prop) → Prop
 |0,_,_=>False
 |n+1,S,K=>rP ar c S fun e S'=>match e with
  | .normal=>unr ar c n S' K
  | .exit id=>K (.exit id) S'
  | .ret=>K .ret S'
theorem Inv.KZ {bl:aq} {n id:Nat} {L:Loc} {B:lM} (h:Inv P Y ι μ ⟨n,bl⟩ w) (hb:ax id bl=some B) (hL:μ id=some L) {o o':Obj} (ho:w.heap[L.b]?=some o) (hnc:∀c e f,o ≠ .cells c e f) (hnm:∀ms c,o ≠ .map ms c) :
  Inv P Y ι μ ⟨n,bE id bl⟩ (w.putObj L.b o'):=by
 have hold:Y.own L.b:=((h.live id _ hb).loc hL).1
 have b7:∀k,k≠L.b→(w.putObj L.b o').heap[k]?=w.heap[k]?:=fun k hk=>World.putObj_heap_other hk
 have hsub:=h.del id
 refine ⟨⟨h.below.os, h.below.tape, h.below.output, by rw [World.putObj_size]; exact h.below.size, fun k hk hx => ?_, h.below.dr, fun k hk => (h.below.maps k hk).trans (by
   by_cases e:k=L.b
   ·subst e;exact .no (fun ms c e=>by rw [ho] at e;cases e;exact hnm _ _ rfl)
   ·exact .eq (b7 k e))⟩,h.i0,h.iB,fun b o2 x hx=>?_,h.m0,h.nx,fun i B2 hB=>?_,hsub.inj,hsub.lt,h.gl⟩
 ·rw [b7 k (Ctx.mo hold hk hx)];exact h.below.block k hk hx
 ·have := h.rd b o2 x hx
  have hne:b≠L.b:=fun e=>by
   subst e
   cases o<;>simp [World.cell?,ho] at this
   exact hnc _ _ _ rfl
  unfold World.cell? at this ⊢
  simp only at this ⊢
  rw [b7 b hne];exact this
 ·simp only at hB
  rw [bu] at hB
  split at hB
  ·cases hB
  ·rename_i e
   refine (h.live i B2 hB).mono (au.le_refl _) (Mu.le_refl _) (fun h=>h) (fun L' hL'=>b7 _ (fun e'=>e (h.inj i id B2 _ L' L hB hb hL' hL e'))) (fun _ _ h=>h)
def I1 (j:Option Ex) (S:St) (K:Ex→St→Prop):Prop:=match j with
 |none=>K .normal S
 |some e=>match e with
  | .normal=>False
  | .exit i=>K (.exit i) S
  | .ret=>K .ret S
def ku (id:Nat) (sh:List Nat) (S:St) (K:Ex→St→Prop) (H:aI):Prop:=match ax id H.bl with
 |some (.loop st j _ _ _ _ _ _)=>match st with
  | .busy=>False
  |_=>match eS sh (bE id H.bl) with
   |some bl=>I1 j ⟨S.env,⟨H.next,bl⟩,S.ms⟩ K
   |none=>False
 |_=>False
def X5 (ar:Ar) (N:Nat) (out:Option Nat) (f:O) (ps:List Nat) (as bd:C) (S:St) (K:Ex→St→Prop):Prop :=
 ps.all (Nat.blt · N)=true ∧
 match f.ev S.env with
 | .fn fid first cap=>match out with
  | none => S.ms = [] ∧ ar.call fid (first ++ [.yl (S.H.next + 1)] ++ cap) ⟨S.H.next + 2, (S.H.next + 1, .loop .ready none S.H.next S.env ps as bd N) :: (S.H.next, .iz) :: S.H.bl⟩
    fun _ H=>ku (S.H.next+1) [S.H.next] S K H
  |some V7=>match ax V7 S.H.bl with
   | some (.loop _ _ d _ _ _ _ _) => ar.call fid (first ++ [.yl S.H.next] ++ cap) ⟨S.H.next + 1, (S.H.next, .loop .ready none d S.env ps as bd N) :: S.H.bl⟩
     fun _ H=>ku S.H.next [] S K H
   |_=>False
 |_=>False
theorem uZ {f:O} {ps:List Nat} {as bd:C} {S:St} {K:Ex→St→Prop} (h:X5 (gx P N out base) N out f ps as bd S K):(gx P N out base).bM f ps as bd S K:=by
 intro fo Dp ao bo hfo hps hao hbo Y ι μ a w ho hb hR
 obtain ⟨hpN,h⟩:=h
 have rf:=aB hR.env hfo
 have hnc:∀(r:Loop) c e f,Obj.loop r ≠ .cells c e f:=fun r c e f=>by intro h;cases h
 split at h
 ·rename_i fid fs cs pR
  rw [pR] at rf
  generalize hg:a.eval fo=fv at rf
  cases rf with
  |fn _ _ _ xs ys h1 h2 h3 h4 =>
   have r1:aJ ι μ fs xs.toList:=⟨by simpa using h1,fun i v x hv hx=>h2 i v x hv (by simpa using hx)⟩
   have r2:aJ ι μ cs ys.toList:=⟨by simpa using h3,fun i v x hv hx=>h4 i v x hv (by simpa using hx)⟩
   -- behind the call
   have fin:∀{aC:Nat} {L:Loc} {sh ms':List Nat} {ds':List Deferred} {μ1:Mu},μ.le μ1→μ1 aC=some L→jD Y.hid μ1 ms' ds'→((sh=[]∧ms'=S.ms)∨∃i,sh=[i]∧ms'=[i]∧S.ms=[]∧Y.ro=none) →
     ∀e w',Nt P Y ι μ1 (fun _ H=>ku aC sh S K H) e w' →
     rangePost Y.F 0 P L.b (Post P N Y K) { a with defers:=ds' } e w':=fun {aC L sh ms' ds' μ1} fq hL hmk hsh e w' he=>by
    obtain ⟨v,ι',μ',r,H',rfl,hi,hm,hinv,hv,hq⟩:=he
    unfold ku at hq
    split at hq<;>try (exact hq.elim)
    rename_i st j d env' ps' as' Sg N' rE
    obtain ⟨L',r',Ld,q1,q2,q3,q4,q5,q6,q7,q8,q9,q10,q11,q12,q13⟩:=hinv.live _ _ rE
    rw [hm _ _ hL] at q1;cases q1
    have hst:r'.state ≠ .busy:=by rw [q4];cases st<;>simp [stR] at hq ⊢
    have hinv':=hinv.KZ (o':=.loop { r' with state:=.exhausted }) rE (hm _ _ hL) q3 (hnc r') (fun _ _ e=>by cases e)
    have V8:eR P N Y ι' μ' ⟨S.env,⟨H'.next,bE aC H'.bl⟩,ms'⟩ { a with defers:=ds' } (w'.putObj L.b (.loop { r' with state:=.exhausted })) :=
     ⟨hR.env.mono hi (Mu.le_trans fq hm),hR.sz,hinv',hmk.mono hm⟩
    have hq1:∃bl,eS sh (bE aC H'.bl)=some bl∧I1 j ⟨S.env,⟨H'.next,bl⟩,S.ms⟩ K:=by
     cases hsh2:eS sh (bE aC H'.bl) with
     |none=>rw [hsh2] at hq;cases st<;>exact hq.elim
     |some bl=>rw [hsh2] at hq;exact ⟨bl,rfl,by cases st<;>first|exact hq.elim|exact hq⟩
    obtain ⟨bl,NH,X6⟩:=hq1
    obtain ⟨Y1,NI,mA⟩:∃Y1,Ext P Y Y1∧eR P N Y1 ι' μ' ⟨S.env,⟨H'.next,bl⟩,S.ms⟩ { a with defers:=ds' } (w'.putObj L.b (.loop { r' with state:=.exhausted })):=by
     rcases hsh with ⟨rfl,rfl⟩|⟨i,rfl,rfl,hS,hro⟩
     ·cases NH;exact ⟨Y,.refl Y,V8⟩
     ·simp only [eS] at NH
      split at NH<;>try (cases NH;done)
      rename_i hb
      cases NH
      rw [hS]
      exact V8.vw rfl hb hro
    have hend:=run_endLoop (P:=P) q3 hst
    generalize w'.putObj L.b (.loop { r' with state:=.exhausted })=w4 at mA hend
    refine ⟨r'.pending,w4,hend,?_⟩
    unfold I1 at X6
    cases j with
    |none=>simp only [DE] at q5;rw [q5];exact .of1 (e':=.normal) NI mA rfl X6
    |some e =>
     cases e with
     |normal=>exact X6.elim
     |exit i=>simp only [DE] at q5;rw [q5];exact wpIn_exit (.of1 (e':=.exit i) NI mA rfl X6)
     |ret=>simp only [DE] at q5;rw [q5];exact wpIn_ret (.of1 (e':=.ret) NI mA rfl X6)
   have hpN':∀p∈ps,p<N:=fun p hp=>by have:=List.all_eq_true.1 hpN p hp;simpa using this
   cases out with
   |none =>
    simp only at h
    have hro:Y.ro=none:=ho
    obtain ⟨hms0,cI,gZ⟩:=h
    let Ld:Loc:=⟨w.heap.size,0,0,0⟩
    let L:Loc:=⟨w.heap.size+1,0,0,0⟩
    have hn0:=hR.inv.nx S.H.next (Nat.le_refl _)
    have zV:=Mu.fM (L:=Ld) hn0
    have FW:=hR.inv.lay hn0 (L:=Ld) (o:=.deferred (some [])) (b:=.iz) rfl ⟨Ld,by simp [Mu.set],.inl hR.inv.below.size,by show (w.heap.push _)[w.heap.size]?=_;simp⟩
    have K0:(w.alloc (.deferred (some []))).heap.size=w.heap.size+1:=World.size_alloc _ _
    have V4:(μ.set S.H.next Ld) (S.H.next+1)=none:=by simp only [Mu.set];rw [if_neg (by omega)];exact hR.inv.nx _ (by omega)
    have hle1:=Mu.fM (L:=L) V4
    have GU : ∀ fn : Nat, Inv P Y ι ((μ.set S.H.next Ld).set (S.H.next + 1) L) ⟨S.H.next + 2, (S.H.next + 1, .loop .ready none S.H.next S.env ps as bd N) :: (S.H.next, .iz) :: S.H.bl⟩
      ((w.alloc (.deferred (some []))).alloc (.loop { state:=.ready,pending:=none,fn:=fn,tmps:=a.tmps,params:=Dp,assign:=ao,body:=bo,defers:=w.heap.size })):=fun fn=>by
     have oD := FW.lay V4 (L := L) (o := .loop { state := .ready, pending := none, fn := fn, tmps := a.tmps, params := Dp, assign := ao, body := bo, defers := w.heap.size })
      (b:=.loop .ready none S.H.next S.env ps as bd N) (by simp [L,K0]) ⟨L,{ state:=.ready,pending:=none,fn:=fn,tmps:=a.tmps,params:=Dp,assign:=ao,body:=bo,defers:=w.heap.size },Ld,by simp [Mu.set],.inl (by have:=hR.inv.below.size;simp only [L];omega),by
       have:=World.alloc_heap_new (w.alloc (.deferred (some []))) (.loop { state:=.ready,pending:=none,fn:=fn,tmps:=a.tmps,params:=Dp,assign:=ao,body:=bo,defers:=w.heap.size })
       rw [K0] at this;exact this,rfl,rfl,hR.env.mono (au.le_refl _) (Mu.le_trans zV hle1),hps,hR.sz,hpN',hao,hbo,by simp [Mu.set],rfl⟩
     refine oD.congr (fun id=>?_) (by simp only;omega)
     rw [aF,bB]
     by_cases e:S.H.next+1=id
     ·subst e;simp
     ·rw [if_neg e, if_neg (fun e' => e e'.symm), aF, bB]
      by_cases e2:S.H.next=id
      ·subst e2;simp
      ·rw [if_neg e2,if_neg (fun e'=>e2 e'.symm)]
    have zW:=Mu.le_trans zV hle1
    have hLd:((μ.set S.H.next Ld).set (S.H.next+1) L) S.H.next=some Ld:=by simp [Mu.set]
    have hL:((μ.set S.H.next Ld).set (S.H.next+1) L) (S.H.next+1)=some L:=by simp [Mu.set]
    refine wpIn_rangeFunc fun fn _=>?_
    have Ea:=GU fn
    obtain ⟨W,hW⟩:∃W,W=(w.alloc (.deferred (some []))).alloc (.loop { state:=.ready,pending:=none,fn:=fn,tmps:=a.tmps,params:=Dp,assign:=ao,body:=bo,defers:=w.heap.size }):=⟨_,rfl⟩
    rw [←hW] at Ea
    refine ⟨w.heap.size+1,[{ target:=.collected w.heap.size,args:=#[] }],W,{ target:=.fn (.func fid) ys,args:=xs++#[.func (.yield (w.heap.size+1)) #[] #[]] },W,fid,
     (xs++#[.func (.yield (w.heap.size+1)) #[] #[]])++ys,W,?_,?_,fun _ _=>trivial,?_,fun h=>by simp [Ctx.F,Fence.wide] at h,?_⟩
    ·show (Instr.enterLoop fn a.tmps Dp ao bo Y.ro).run P w = _
     rw [hro,hW];exact run_enterLoop_outer _ _ _ _ _
    ·have e1 : ∀ v, a.eval (.const v) = v := fun _ => rfl
     simp [resolve,hg,Deferred.ofValue,e1]
    ·have := cI ((xs ++ #[Value.func (Fn.yield (w.heap.size + 1)) #[] #[]]) ++ ys) W
     simpa [invoke] using this
    ·have rl:aJ ι ((μ.set S.H.next Ld).set (S.H.next+1) L) (fs++[.yl (S.H.next+1)]++cs) ((xs++#[Value.func (Fn.yield (w.heap.size+1)) #[] #[]])++ys).toList:=by
      have q1:=r1.mono (au.le_refl _) zW
      have q2:=r2.mono (au.le_refl _) zW
      have:=(q1.append (.cons (.yl _ L hL) .nil)).append q2
      simpa using this
     refine CallsIn.mono (F:=Y.F) (gZ Y ι _ _ _ Ea rl) fun e w' he=>?_
     exact fin (L:=L) (aC:=S.H.next+1) (sh:=[S.H.next]) (ms':=[S.H.next]) (ds':={ target:=.collected w.heap.size,args:=#[] }::a.defers) zW hL ⟨Ld,_,a.defers,rfl,hLd,rfl,by have:=hR.ms;rw [hms0] at this;exact this⟩ (.inr ⟨_,rfl,rfl,hms0,hro⟩) e w' he
   |some V7 =>
    simp only at h
    obtain ⟨L0,hm0,hro⟩:=ho
    split at h<;>try (exact h.elim)
    rename_i st0 j0 d0 jZ ps0 as0 bd0 N0 hb0
    obtain ⟨cI,gZ⟩:=h
    obtain ⟨L0',r0,Ld,q1,q2,q3,q4,q5,q6,q7,q8,q9,q10,q11,q12,q13⟩:=hR.inv.live _ _ hb0
    rw [hR.inv.m0 _ _ hm0] at q1;cases q1
    let L:Loc:=⟨w.heap.size,0,0,0⟩
    have hn0:=hR.inv.nx S.H.next (Nat.le_refl _)
    have zW:=Mu.fM (L:=L) hn0
    have GU : ∀ fn : Nat, Inv P Y ι (μ.set S.H.next L) ⟨S.H.next + 1, (S.H.next, .loop .ready none d0 S.env ps as bd N) :: S.H.bl⟩
      (w.alloc (.loop { state:=.ready,pending:=none,fn:=fn,tmps:=a.tmps,params:=Dp,assign:=ao,body:=bo,defers:=r0.defers })):=fun fn=>by
     have oD := hR.inv.lay hn0 (L := L) (o := .loop { state := .ready, pending := none, fn := fn, tmps := a.tmps, params := Dp, assign := ao, body := bo, defers := r0.defers })
      (b:=.loop .ready none d0 S.env ps as bd N) rfl ⟨L,{ state:=.ready,pending:=none,fn:=fn,tmps:=a.tmps,params:=Dp,assign:=ao,body:=bo,defers:=r0.defers },Ld,by simp [Mu.set],.inl hR.inv.below.size,by
       show (w.heap.push _)[w.heap.size]?=_
       simp,rfl,rfl,hR.env.mono (au.le_refl _) zW,hps,hR.sz,hpN',hao,hbo,zW _ _ q12,q13⟩
     refine oD.congr (fun id=>?_) (by simp only;omega)
     rw [aF,bB]
     by_cases e:S.H.next=id
     ·subst e;simp
     ·rw [if_neg e,if_neg (fun e'=>e e'.symm)]
    have hL:(μ.set S.H.next L) S.H.next=some L:=by simp [Mu.set]
    refine wpIn_rangeFunc fun fn _=>?_
    have Ea:=GU fn
    obtain ⟨W,hW⟩:∃W,W=w.alloc (.loop { state:=.ready,pending:=none,fn:=fn,tmps:=a.tmps,params:=Dp,assign:=ao,body:=bo,defers:=r0.defers }):=⟨_,rfl⟩
    rw [←hW] at Ea
    refine ⟨w.heap.size,[],W,{ target:=.fn (.func fid) ys,args:=xs++#[.func (.yield w.heap.size) #[] #[]] },W,fid,
     (xs++#[.func (.yield w.heap.size) #[] #[]])++ys,W,?_,?_,fun _ _=>trivial,?_,fun h=>by simp [Ctx.F,Fence.wide] at h,?_⟩
    ·show (Instr.enterLoop fn a.tmps Dp ao bo Y.ro).run P w = _
     rw [hro,hW];exact run_enterLoop_inner q3 _ _ _ _ _
    ·have e1 : ∀ v, a.eval (.const v) = v := fun _ => rfl
     simp [resolve,hg,Deferred.ofValue,e1]
    ·have := cI ((xs ++ #[Value.func (Fn.yield w.heap.size) #[] #[]]) ++ ys) W
     simpa [invoke] using this
    ·have rl:aJ ι (μ.set S.H.next L) (fs++[.yl S.H.next]++cs) ((xs++#[Value.func (Fn.yield w.heap.size) #[] #[]])++ys).toList:=by
      have q1:=r1.mono (au.le_refl _) zW
      have q2:=r2.mono (au.le_refl _) zW
      have:=(q1.append (.cons (.yl _ L hL) .nil)).append q2
      simpa using this
     refine CallsIn.mono (F:=Y.F) (gZ Y ι _ _ _ Ea rl) fun e w' he=>?_
     exact fin (L:=L) (aC:=S.H.next) (sh:=[]) zW hL (hR.ms.mono zW) (.inl ⟨rfl,rfl⟩) e w' he
 ·exact h.elim
end
end Go.AM
end
section
namespace Go.AM
def u5 : List Nat → List V → List (Nat × V) → List (Nat × V)
  |p::ps,v::vs,env=>u5 ps vs (BI p v env)
  |_,_,env=>env
def rY (id:Nat) (Q:V→aI→Prop) (e:Ex) (S:St):Prop:=match ax id S.H.bl with
  |some (.loop .busy _ d env ps as bd N)=>match e with
    | .normal=>Q (.tf true) ⟨S.H.next,(id,.loop .ready none d env ps as bd N)::bE id S.H.bl⟩
    | .exit i=>Q (.tf false) ⟨S.H.next,(id,.loop .done (some (.exit i)) d env ps as bd N)::bE id S.H.bl⟩
    | .ret=>Q (.tf false) ⟨S.H.next,(id,.loop .done (some .ret) d env ps as bd N)::bE id S.H.bl⟩
  |_=>False
def GV (ar:Nat→Ar) (id:Nat) (vs:List V) (H:aI) (Q:V→aI→Prop):Prop:=match ax id H.bl with
  |some (.loop .ready none d env ps as bd N)=>vs.length=ps.length∧rP (ar N) as ⟨u5 ps vs env,H,[]⟩ fun e S=>match e with
    | .normal=>match ax id S.H.bl with
      |some (.loop .ready none d' env' ps' as' Sg N')=>rP (ar N) bd ⟨S.env,⟨S.H.next,(id,.loop .busy none d' env' ps' as' Sg N')::bE id S.H.bl⟩,S.ms⟩ (rY id Q)
      |_=>False
    |_=>False
  |_=>False
section
variable {P:Program} {N:Nat} {Y:Ctx} {ι ι':au} {μ μ':Mu} {H:aI} {w w':World} {out:Option Nat} {base:Nat}
theorem AR:∀{ps:List Nat} {vs:List V} {args:List Value} {env:List (Nat×V)} {tmps:Array Value},aJ ι μ vs args→(∀p∈ps,p<N)→tmps.size=N→eF ι μ env tmps →
    eF ι μ (u5 ps vs env) ((ps.zip args).foldl (fun t (p,v)=>t.setIfInBounds p v) tmps)∧((ps.zip args).foldl (fun (t:Array Value) (p,v)=>t.setIfInBounds p v) tmps).size=N
  |[],vs,args,env,tmps,hr,hp,hs,he=>by simp only [u5,List.zip_nil_left,List.foldl_nil];exact ⟨he,hs⟩
  |p::ps,[],args,env,tmps,hr,hp,hs,he=>by rw [hr.of_nil];simp only [u5,List.zip_nil_right,List.foldl_nil];exact ⟨he,hs⟩
  |p::ps,v::vs,args,env,tmps,hr,hp,hs,he=>by
    obtain ⟨x,r,rfl,h1,h2⟩:=hr.bI
    simp only [u5,List.zip_cons_cons,List.foldl_cons]
    refine AR h2 (fun q hq=>hp q (List.mem_cons_of_mem _ hq)) (by simp [hs]) fun t=>?_
    have hd':p<N:=hp p (List.mem_cons_self ..)
    rw [mJ]
    by_cases h:p=t
    · subst h
      rw [if_pos rfl]
      have:(tmps.setIfInBounds p x).getD p undef=x:=by simp [Array.getD,hs,hd']
      rw [this];exact h1
    · rw [if_neg h]
      have:(tmps.setIfInBounds p x).getD t undef=tmps.getD t undef:=by
        simp only [Array.getD_eq_getD_getElem?]
        rw [Array.getElem?_setIfInBounds_ne h]
      rw [this];exact he t
theorem K1 {id:Nat} {vs:List V} {Q:V→aI→Prop} (ic:∀N,nG P N (some id) H.next) (h:GV (fun N=>gx P N (some id) H.next) id vs H Q):around P id vs H Q:=by
  intro Y ι μ w args L hI hr hL
  unfold GV at h
  split at h<;>try (exact h.elim)
  rename_i d env ps as bd N hb
  obtain ⟨hlen,h⟩:=h
  obtain ⟨L',r,Ld,q1,q2,q3,q4,q5,q6,q7,q8,q9,q10,q11,q12,q13⟩:=hI.live _ _ hb
  rw [hL] at q1;cases q1
  have hnc:∀(r:Loop) c e f,Obj.loop r ≠ .cells c e f:=fun r c e f=>by intro h;cases h
  have hsize : args.size = r.params.size := by have h1 := hr.1; have h2 : r.params.toList.length = ps.length := by rw [q7]
                                               simp at h1 h2;omega
  refine ⟨r.fn,_,r.assign,r.body,w,run_yield q3 hsize,roundIn_of_wpIn trivial ?_⟩
  let Y':Ctx:=⟨Y.w0,ι,μ,some L.b,Y.x,[]⟩
  obtain ⟨he1,he2⟩:=AR (env:=env) hr q9 q8 q6
  have hzip:(r.params.zip args).foldl (fun tmps (x:Tmp×Value)=>tmps.setIfInBounds x.1 x.2) r.tmps=(ps.zip args.toList).foldl (fun (t:Array Value) (p,v)=>t.setIfInBounds p v) r.tmps:=by
    rw [←Array.foldl_toList,Array.toList_zip,q7]
  have hR:eR P N Y' ι μ ⟨u5 ps vs env,H,[]⟩ { tmps:=(r.params.zip args).foldl (fun tmps (x:Tmp×Value)=>tmps.setIfInBounds x.1 x.2) r.tmps,defers:=[] } w :=
    ⟨by rw [hzip];exact he1,by rw [hzip];exact he2,hI.down _,rfl⟩
  have hbase:Y'.base H.next:=fun id hid=>hI.nx id hid
  have hout:kK Y' (some id):=⟨L,hL,rfl⟩
  refine wpIn_mono (gJ (ic N) r.assign q10 h Y' ι μ _ w hout hbase hR) fun e a1 w1 hp=>?_
  obtain ⟨Y1,NI,ι1,μ1,S1,e1,rF,hx1,hq1⟩:=hp
  have:=NI.same (by simp [Y'])
  subst this
  cases e1 with
  |exit i=>exact hq1.elim
  |ret=>exact hq1.elim
  |normal =>
    cases hx1
    simp only at hq1
    split at hq1<;>try (exact hq1.elim)
    rename_i d1 env1 ps1 as1 bd1 N1 jh
    obtain ⟨L1,r1,Ld1,p1,p2,p3,p4,p5,p6,p7,p8,p9,p10,p11,p12,p13⟩:=rF.inv.live _ _ jh
    have XS:μ1 id=some L:=rF.inv.m0 _ _ hL
    rw [XS] at p1;cases p1
    refine ⟨_,run_beginRound p3 p4,?_⟩
    have hlt1:L.b<w1.heap.size:=(Array.getElem?_eq_some_iff.1 p3).1
    have oD := rF.inv.II (o' := .loop { r1 with state := .busy }) (B' := .loop .busy none d1 env1 ps1 as1 bd1 N1) jh XS p3 (hnc _) (fun _ _ e => by cases e)
      ⟨L,{ r1 with state:=.busy },Ld1,XS,p2,World.putObj_heap_same hlt1,rfl,p5,p6,p7,p8,p9,p10,p11,p12,p13⟩
    have n9:eR P N Y' ι1 μ1 ⟨S1.env,⟨S1.H.next,(id,.loop .busy none d1 env1 ps1 as1 bd1 N1)::bE id S1.H.bl⟩,S1.ms⟩ a1 (w1.putObj L.b (.loop { r1 with state:=.busy })):=⟨rF.env,rF.sz,oD,rF.ms⟩
    refine wpIn_mono (gJ (ic N) r.body q11 hq1 Y' ι1 μ1 _ _ hout hbase n9) fun e a3 w3 hp=>?_
    obtain ⟨Y3,hY3,ι3,μ3,S3,e3,MN,I2,Si⟩:=hp
    have:=hY3.same (by simp [Y'])
    subst this
    unfold rY at Si
    split at Si<;>try (exact Si.elim)
    rename_i j3 d3 env3 ps3 as3 bd3 N3 Dm
    obtain ⟨L3,r3,Ld3,s1,s2,s3,s4,s5,s6,s7,s8,s9,s10,s11,s12,s13⟩:=MN.inv.live _ _ Dm
    have hL3:μ3 id=some L:=MN.inv.m0 _ _ hL
    rw [hL3] at s1;cases s1
    have hlt3:L.b<w3.heap.size:=(Array.getElem?_eq_some_iff.1 s3).1
    have fin:∀(jump:Option Code) (st:qC) (j:Option Ex) (v:V),stR st=(if jump.isNone then .ready else .done)→DE j jump→v = .tf jump.isNone→Q v ⟨S3.H.next,(id,.loop st j d3 env3 ps3 as3 bd3 N3)::bE id S3.H.bl⟩ →
        ∃v w',(Instr.endRound L.b jump).run P w3 = .ok v w'∧Nt P Y ι μ Q (.returned v) w':=fun jump st j v h1 h2 h3 h4=>by
      have hI4 := MN.inv.II (o' := .loop { r3 with state := if jump.isNone then .ready else .done, pending := jump }) (B' := .loop st j d3 env3 ps3 as3 bd3 N3) Dm hL3 s3 (hnc _) (fun _ _ e => by cases e)
        ⟨L,{ r3 with state:=if jump.isNone then .ready else .done,pending:=jump },Ld3,hL3,s2,World.putObj_heap_same hlt3,h1.symm,h2,s6,s7,s8,s9,s10,s11,s12,s13⟩
      obtain ⟨u1,u2,u3⟩:=hI.up hI4
      subst h3
      exact ⟨_,_,run_endRound jump s3,_,ι3,μ3,_,_,rfl,u2,u3,u1,.tf _,h4⟩
    cases e3 with
    |normal=>cases I2;exact fin none .ready none _ rfl rfl rfl Si
    |exit i=>cases I2;exact fin (some (.exit i)) .done (some (.exit i)) _ rfl rfl rfl Si
    |ret=>cases I2;exact fin (some .ret) .done (some .ret) _ rfl rfl rfl Si
end
end Go.AM
end
section
namespace Go.AM
section
variable {c1 : Nat → List V → aI → (V → aI → Prop) → Prop} {c2 : Nat → List V → V → Prop} {c3 : C → St → (Ex → St → Prop) → Prop}
 {c4:Nat→List V→aI→(V→aI→Prop)→Prop} {c5:O→List Nat→C→C→St→(Ex→St→Prop)→Prop} {c6:C→St→(Ex→St→Prop)→Prop} {bl:aq}
theorem j4 : ∀ {t : Ty} {bl : aq} {vs : List V}, bC (bw c1 c2 c3 c4 c5 c6) bl t vs = bC dY bl t vs
 | .unit,bl,vs=>by simp only [bC]
 | .prod a b,bl,vs=>by simp only [bC,j4 (t:=a),j4 (t:=b)]
 | .bool,_,[]=>rfl
 | .str,_,[]=>rfl
 | .int _,_,[]=>rfl
 | .list _,_,[]=>rfl
 | .cB _ _ _,_,[]=>rfl
 | .bool,_,c::cs=>by cases c<;>rfl
 | .str,_,c::cs=>by cases c<;>rfl
 | .int k,_,c::cs=>by cases c<;>rfl
 | .list t,_,c::cs=>by cases c<;>rfl
 | .cB d g t,_,c::cs=>by cases c<;>first|rfl|(simp only [bC,j4 (t:=t)])
theorem rZ {t : Ty} {bl : aq} : ∀ {n : Nat} {vs : List V}, mF (bw c1 c2 c3 c4 c5 c6) bl t n vs = mF dY bl t n vs
 |0,[]=>rfl
 |0,_::_=>rfl
 |n+1,vs=>by simp only [mF,j4,rZ (n:=n)]
theorem Cd {t : Ty} {xs : List t.den} : ∀ {n i : Nat}, Dv (bw c1 c2 c3 c4 c5 c6) t xs n i = Dv dY t xs n i
 |0,_=>rfl
 |n+1,i=>by simp only [Dv,Cd (n:=n)];rfl
theorem Eb {t:Ty} {g:Bool} {v:V}:keyOf (bw c1 c2 c3 c4 c5 c6) t g v=keyOf dY t g v:=by simp only [keyOf,j4]
theorem Ce {t : Ty} : ∀ {vs : List V}, rG (bw c1 c2 c3 c4 c5 c6) bl t vs = rG dY bl t vs
 |[]=>rfl
 |v::r=>by simp only [rG,j4,Ce (vs:=r)]
theorem nL : ∀ {t : Ty} {x : t.den} {p : List Bool} {vs : List V}, cR (bw c1 c2 c3 c4 c5 c6) bl t x p vs = cR dY bl t x p vs
 |t,x,[],vs=>by cases t<;>simp only [cR,j4]
 | .prod a b,x,false::p,vs=>by simp only [cR,nL (t:=a)]
 | .prod a b,x,true::p,vs=>by simp only [cR,nL (t:=b)]
 | .unit,_,_::_,_=>by simp [cR]
 | .bool,_,_::_,_=>by simp [cR]
 | .str,_,_::_,_=>by simp [cR]
 | .int _,_,_::_,_=>by simp [cR]
 | .list _,_,_::_,_=>by simp [cR]
 | .cB _ _ _,_,_::_,_=>by simp [cR]
theorem r8 {t:Ty} {v:V}:elems (bw c1 c2 c3 c4 c5 c6) bl t v=elems dY bl t v:=by cases v<;>rfl
theorem xW:∀{ks:List Kd} {xs ys:List V},aM (bw c1 c2 c3 c4 c5 c6) ks xs ys=aM dY ks xs ys:=by
 intro ks
 induction ks with
 |nil=>intro xs ys;cases xs<;>cases ys<;>rfl
 |cons k ks ih =>
  intro xs ys
  cases xs with
  |nil=>cases k<;>rfl
  |cons x xs =>
   cases ys with
   |nil=>cases k<;>cases x<;>rfl
   |cons y ys=>cases k<;>cases x<;>cases y<;>first|rfl|(simp only [aM,ih];rfl)
theorem xX {mx:Bool} {k:IntKind}:∀{ys:List V} {a:Int},iX (bw c1 c2 c3 c4 c5 c6) mx k a ys=iX dY mx k a ys:=by
 intro ys
 induction ys with
 |nil=>intro a;rfl
 |cons y ys ih=>intro a;cases y<;>first|rfl|(simp only [iX,ih];rfl)
theorem NJ {e:gH} {vs:List V} {aC:Nat}:je (bw c1 c2 c3 c4 c5 c6) e vs bl aC=je dY e vs bl aC:=by
 cases e<;>first|rfl|(simp only [je,r8,Eb,rZ];done)|(simp only [je,r8,Eb,rZ];rfl)
theorem xY {f g : Nat → Option V} (h : ∀ n, f n = g n) : ∀ ns, BG f ns = BG g ns
 |[]=>rfl
 |n::r=>by simp only [BG,h n,xY h r]
theorem Sj {vs:List V} {j:Int}:MY (bw c1 c2 c3 c4 c5 c6) vs j=MY dY vs j:=rfl
theorem Cf {cs : List V} : ∀ {l : List (Nat × Nat × Int)} {o : Nat}, Dx (bw c1 c2 c3 c4 c5 c6) cs l o = Dx dY cs l o
 |[],o=>rfl
 |(eP,len,j)::r,o=>by simp only [Dx,xY (fun n=>Cf (l:=r) (o:=o+n * eP)),Sj]
theorem NK {i:I} {env:List (Nat×V)} {aC:Nat}:cu (bw c1 c2 c3 c4 c5 c6) i env bl aC=cu dY i env bl aC:=by
 cases i<;>first|rfl|(simp only [cu,Ce,nL,r8,xW,xX,NJ,rZ,Cd,Cf];done)|(simp only [cu,Ce,nL,r8,xW,xX,NJ,rZ,Cd,Cf];rfl)
theorem NL {i:I} {env:List (Nat×V)} {aC:Nat}:zQ (bw c1 c2 c3 c4 c5 c6) i env bl aC=zQ dY i env bl aC:=by
 cases i<;>first|rfl|(simp only [zQ,nL,j4];done)|(simp only [zQ,nL,j4];rfl)
theorem X7 {id:Nat}:clU (bw c1 c2 c3 c4 c5 c6) id bl=clU dY id bl:=by
 unfold clU
 split
 ·simp only [nL];rfl
 ·rfl
end
theorem NM {c1 : Nat → List V → aI → (V → aI → Prop) → Prop} {c2 : Nat → List V → V → Prop} {c3 : C → St → (Ex → St → Prop) → Prop}
  {c4:Nat→List V→aI→(V→aI→Prop)→Prop} {c5:O→List Nat→C→C→St→(Ex→St→Prop)→Prop} {c6:C→St→(Ex→St→Prop)→Prop}:∀{ids:List Nat} {bl:aq},ML (bw c1 c2 c3 c4 c5 c6) ids bl=ML dY ids bl
 |[],_=>rfl
 |id::r,bl=>by simp only [ML,X7,NM (ids:=r)]
def acI (ar:Ar) (x:O) (env:List (Nat×V)) (bl:aq) (aC:Nat):Out:=some ([],x.ev env,[])
def Sk (ar:Ar) (c:O) (a:O) (b:O) (env:List (Nat×V)) (bl:aq) (aC:Nat):Out :=
  match c.ev env with
  | .tf true=>some ([],a.ev env,[])
  | .tf false=>some ([],b.ev env,[])
  | .bool c=>match KK (a.ev env),KK (b.ev env) with
   |some x,some y=>some ([],.bool (ar.Gn c x y),[])
   |_,_=>none
  |_=>none
def NN (ar:Ar) (z:List V) (env:List (Nat×V)) (bl:aq) (aC:Nat):Out:=some ([],.ptr aC 0,[(aC,some (.cells z false))])
def X8 (ar:Ar) (x:O) (env:List (Nat×V)) (bl:aq) (aC:Nat):Out:=match (x.ev env).cells? with
  |some cs=>some ([],.ptr aC 0,[(aC,some (.cells cs false))])
  |none=>none
def NO (ar:Ar) (z:List V) (parts:List (Nat×Nat×O)) (env:List (Nat×V)) (bl:aq) (aC:Nat):Out:=match uK parts env z with
  |some cs=>some ([],.agg cs,[])
  |none=>none
def K2 (ar:Ar) (t:Ty) (xs:List O) (env:List (Nat×V)) (bl:aq) (aC:Nat):Out:=match rG ar bl t (xs.map (·.ev env)) with
  |some (ys,u)=>some ([],.sl aC t 0 xs.length,u++[(aC,some (.arr t ys false))])
  |none=>none
def Sl (ar:Ar) (agg:Bool) (k:Nat) (x:O) (env:List (Nat×V)) (bl:aq) (aC:Nat):Out :=
  match x.ev env with
  | .ptr id off=>match ax id bl with
   |some (.cells cs _)=>match cut off k cs with
    |some vs=>match cA agg vs with
     |some v=>some ([],v,[])
     |none=>none
    |none=>none
   |_=>none
  | .fH cs=>match cut 0 k cs with
   |some vs=>match cA agg vs with
    |some v=>some ([],v,[])
    |none=>none
   |none=>none
  | .ep id t i p=>match ax id bl with
   |some (.arr t' xs _)=>if t=t' then
     match qf t' (ar.get t'.zero xs i) p with
     |some ⟨t2,y⟩=>match cD t2 y with
      |vs=>if vs.length=k then (match cA agg vs with
       |some v=>some ([ar.MH i (ar.len xs)],v,[])
       |none=>none) else none
     |none=>none
    else none
   |some (.nq t' xs i' p' v)=>if t=t'∧p=p'∧k=1 then (match agg with
    |false=>some ([ar.eq (Int.ofNat i) (Int.ofNat i')],v,[])
    |true=>none) else none
   |_=>none
  | .ip t y=>match cD t y with
   |vs=>if vs.length=k then (match cA agg vs with
    |some v=>some ([],v,[])
    |none=>none) else none
  | .pa id t m=>match ax id bl with
   |some (.arr t' xs _)=>if t=t' then (match Dv ar t' xs m 0 with
    |vs=>if vs.length=k then (match cA agg vs with
     |some v=>some ([],v,[])
     |none=>none) else none) else none
   |_=>none
  | .sp id o l=>match ax id bl with
   |some (.cells cs _)=>match k with
    |1=>match Dx ar cs l o with
     |some v=>match cA agg [v] with
      |some v=>some ([],v,[])
      |none=>none
     |none=>none
    |_=>none
   |_=>none
  |_=>none
def NP (ar:Ar) (k:Nat) (a:O) (x:O) (env:List (Nat×V)) (bl:aq) (aC:Nat):Out :=
  match (x.ev env).cells? with
  |none=>none
  |some vs=>if vs.length=k then
   (match a.ev env with
   | .ptr id off=>match ax id bl with
    |some (.cells cs false)=>match rH off vs cs with
     |some cs'=>some ([],.any,[(id,some (.cells cs' false))])
     |none=>none
    |_=>none
   | .ep id t i p=>match ax id bl with
    |some (.arr t' xs false)=>if t=t' then
      match cR ar bl t' (ar.get t'.zero xs i) p vs with
      |some (y,u)=>match uL id u with
       |true=>some ([ar.MH i (ar.len xs)],.any,u++[(id,some (.arr t' (ar.set xs i y) false))])
       |false=>none
      |none=>none
     else none
    |_=>none
   | .pa id t m=>match ax id bl with
    |some (.arr t' xs false)=>if t=t' then
      match mF ar bl t' m vs with
      |some (ys,u)=>match uL id u with
       |true=>some ([],.any,u++[(id,some (.arr t' ys false))])
       |false=>none
      |none=>none
     else none
    |_=>none
   |_=>none) else none
def X9 (ar:Ar) (op:zN) (x:O) (y:O) (env:List (Nat×V)) (bl:aq) (aC:Nat):Out :=
  match x.ev env,y.ev env with
  | .int k a,.int k' b=>match op with
   | .shl=>Ao ar .shl k a b
   | .shr=>Ao ar .shr k a b
   |_=>if k=k' then Gq ar op k a b else none
  | .str a,.str b=>Gr ar op a b
  |_,_=>none
def Yc (ar:Ar) (neg:Bool) (x:O) (y:O) (env:List (Nat×V)) (bl:aq) (aC:Nat):Out:=match KK (x.ev env),KK (y.ev env) with
  |some a,some b=>some ([],.bool (match neg with|true=>ar.tJ (ar.beq a b)|false=>ar.beq a b),[])
  |_,_=>none
def Yd (ar:Ar) (neg:Bool) (ks:List Kd) (x:O) (y:O) (env:List (Nat×V)) (bl:aq) (aC:Nat):Out :=
  match x.ev env,y.ev env with
  | .agg xs,.agg ys=>match aM ar ks xs ys with
   |some c=>some ([],.bool (match neg with|true=>ar.tJ c|false=>c),[])
   |none=>none
  |_,_=>none
def Ye (ar:Ar) (x:O) (env:List (Nat×V)) (bl:aq) (aC:Nat):Out:=match x.ev env with
  | .int k a=>match k.signed with
   |true=>match ar.sub 0 a with|z=>some ([ar.eV k z],.int k z,[])
   |false=>some ([],.int k (ar.wr k (ar.sub 0 a)),[])
  |_=>none
def Yf (ar:Ar) (x:O) (env:List (Nat×V)) (bl:aq) (aC:Nat):Out:=match x.ev env with
  | .tf b=>some ([],.tf (!b),[])
  | .bool b=>some ([],.bool (ar.tJ b),[])
  |_=>none
def Sm (ar:Ar) (k:IntKind) (x:O) (env:List (Nat×V)) (bl:aq) (aC:Nat):Out:=match x.ev env with
  | .int _ n=>some ([ar.eV k n],.int k n,[])
  |_=>none
def Yg (ar:Ar) (off:Nat) (path:List Bool) (x:O) (env:List (Nat×V)) (bl:aq) (aC:Nat):Out:=match x.ev env with
  | .ptr id o=>some ([],.ptr id (o+off),[])
  | .fH cs=>if off≤cs.length then some ([],.fH (cs.drop off),[]) else none
  | .ep id t i p=>match t.rD p with
   |some t1=>if t1.bK path=off then (match t1.rD path with
    |some _=>some ([],.ep id t i (p++path),[])
    |none=>none) else none
   |none=>none
  | .ip t y=>if t.bK path=off then (match qf t y path with
   |some ⟨t2,z⟩=>some ([],.ip t2 z,[])
   |none=>none) else none
  | .pa id t m=>if (off / t.sz) * t.sz=off∧off / t.sz<m then some ([],.ep id t (off / t.sz) [],[]) else none
  | .lN t xs=>if (off / t.sz) * t.sz=off then some ([ar.MH (off / t.sz) (ar.len xs)],.ip t (ar.get t.zero xs (off / t.sz)),[]) else none
  | .sp id o l=>some ([],.sp id (o+off) l,[])
  |_=>none
def NQ (ar:Ar) (agg:Bool) (off:Nat) (k:Nat) (x:O) (env:List (Nat×V)) (bl:aq) (aC:Nat):Out:=match x.ev env with
  | .agg cs=>match cut off k cs with
   |some vs=>match cA agg vs with
    |some v=>some ([],v,[])
    |none=>none
   |none=>none
  |_=>none
def Yh (ar:Ar) (eP:Nat) (x:O) (i:O) (env:List (Nat×V)) (bl:aq) (aC:Nat):Out :=
  match i.ev env with
  | .int _ n=>match x.ev env with
   | .sl id t lo m=>if t.sz=eP then some ([ar.ee n (Int.ofNat m)],.ep id t (ar.Gp lo (ar.tK n)) [],[]) else none
   | .eU t xs=>if t.sz=eP then some ([ar.ee n (Int.ofNat (ar.len xs))],.ip t (ar.get t.zero xs (ar.tK n)),[]) else none
   |_=>none
  |_=>none
def Sn (ar:Ar) (len:Nat) (eP:Nat) (x:O) (i:O) (env:List (Nat×V)) (bl:aq) (aC:Nat):Out :=
  match x.ev env with
  | .pa id t m=>match i.ev env with
   | .int _ j=>if t.sz=eP∧m=len then some ([ar.ee j (Int.ofNat len)],.ep id t (ar.tK j) [],[]) else none
   |_=>none
  | .lN t xs=>match i.ev env with
   | .int _ j=>if t.sz=eP then some ([ar.ee j (Int.ofNat len),ar.ee j (Int.ofNat (ar.len xs))],.ip t (ar.get t.zero xs (ar.tK j)),[]) else none
   |_=>none
  | .ptr id o=>match i.ev env with
   | .int _ j=>some ([ar.ee j (Int.ofNat len)],.sp id o [(eP,len,j)],[])
   |_=>none
  | .sp id o l=>match i.ev env with
   | .int _ j=>some ([ar.ee j (Int.ofNat len)],.sp id o ((eP,len,j)::l),[])
   |_=>none
  | .fH cs=>match i.ev env with
   | .int _ (.ofNat n)=>if n<len then (if n * eP≤cs.length then some ([],.fH (cs.drop (n * eP)),[]) else none) else none
   |_=>none
  |_=>none
def Yi (ar:Ar) (k:Nat) (x:O) (env:List (Nat×V)) (bl:aq) (aC:Nat):Out:=match x.ev env with
  | .cO vs=>match vs[k]? with
   |some v=>some ([],v,[])
   |none=>none
  |_=>none
def Yj (ar:Ar) (x:O) (env:List (Nat×V)) (bl:aq) (aC:Nat):Out:=match x.ev env with
  | .sl _ _ _ n=>some ([],.int .i64 (Int.ofNat n),[])
  | .eU _ xs=>some ([],.int .i64 (Int.ofNat (ar.len xs)),[])
  | .cq=>some ([],.int .i64 0,[])
  |_=>none
def Sq (ar:Ar) (x:O) (env:List (Nat×V)) (bl:aq) (aC:Nat):Out:=match x.ev env with
  | .str s=>some ([],.int .i64 (ar.KJ s),[])
  |_=>none
def Sr (ar:Ar) (n:Nat) (env:List (Nat×V)) (bl:aq) (aC:Nat):Out:=some ([],.int .i64 (Int.ofNat n),[])
def K3 (ar:Ar) (eP:Nat) (x:O) (y:O) (env:List (Nat×V)) (bl:aq) (aC:Nat):Out :=
  match x.ev env with
  | .cq=>match Gs (y.ev env) with
   |some t=>if t.sz=eP then
     (match elems ar bl t (y.ev env) with
     |some ys=>match ar.len ys with
      |m=>some ([ar.MH m cg],.sl aC t 0 m,[(aC,some (.arr t ys false))])
     |none=>none) else none
   |none=>none
  | .sl id t lo n=>if t.sz=eP then
   (match ax id bl with
   |some (.arr t' xs false)=>if t'=t then
    (match kA t' t xs with
    |some xs'=>match elems ar bl t (y.ev env) with
     |some ys=>match ar.Gp n (ar.len ys) with
      |m=>some ([ar.MH m cg],.sl aC t 0 m,[(id,none),(aC,some (.arr t (ar.app (ar.sub' xs' lo n) ys) false))])
     |none=>none
    |none=>none) else none
   |_=>none) else none
  |_=>none
def GW (ar:Ar) (t:Ty) (n:O) (env:List (Nat×V)) (bl:aq) (aC:Nat):Out:=match n.ev env with
  | .int _ z=>match ar.tK z with
   |m=>some ([ar.ee z (Int.ofNat cg)],.sl aC t 0 m,[(aC,some (.arr t (ar.rep m t.zero) false))])
  |_=>none
def Su (ar:Ar) (f:Nat) (a:List O) (b:List O) (env:List (Nat×V)) (bl:aq) (aC:Nat):Out:=some ([],.fn f (a.map (·.ev env)) (b.map (·.ev env)),[])
def NS (ar:Ar) (eP:Nat) (x:O) (lo:Option O) (hi:Option O) (mx:Option O) (env:List (Nat×V)) (bl:aq) (aC:Nat):Out :=
  match mx with
  |some m=>match hi with
   |some h=>match qD (m.ev env),qD (h.ev env),cE env 0 lo with
    |some a,some b,some c=>match x.ev env with
     | .sl _ _ _ _=>some ([ar.eq a 0,ar.eq b 0,ar.eq c 0],.cq,[])
     | .eU _ _=>some ([ar.eq a 0,ar.eq b 0,ar.eq c 0],.cq,[])
     | .cq=>some ([ar.eq a 0,ar.eq b 0,ar.eq c 0],.cq,[])
     |_=>none
    |_,_,_=>none
   |none=>none
  |none =>
   match x.ev env with
   | .sl id t l n=>if t.sz=eP then
    (match cE env 0 lo,cE env (Int.ofNat n) hi with
    |some a,some b=>some ([ar.le 0 a,ar.le a b,ar.le b (Int.ofNat n)],.sl id t (ar.Gp l (ar.tK a)) (ar.MX (ar.tK b) (ar.tK a)),[])
    |_,_=>none) else none
   | .eU t xs=>if t.sz=eP then
    (match cE env 0 lo,cE env (Int.ofNat (ar.len xs)) hi with
    |some a,some b=>some ([ar.le 0 a,ar.le a b,ar.le b (Int.ofNat (ar.len xs))],.eU t (ar.sub' xs (ar.tK a) (ar.MX (ar.tK b) (ar.tK a))),[])
    |_,_=>none) else none
   | .cq=>(match cE env 0 lo,cE env 0 hi with
    |some a,some b=>some ([ar.eq a 0,ar.eq b 0],.cq,[])
    |_,_=>none)
   |_=>none
def K4 (ar:Ar) (mx:Bool) (x:O) (ys:List O) (env:List (Nat×V)) (bl:aq) (aC:Nat):Out:=match x.ev env with
  | .int k a=>match iX ar mx k a (ys.map (·.ev env)) with
   |some z=>some ([],.int k z,[])
   |none=>none
  |_=>none
def V9 (ar:Ar) (i:I) (env:List (Nat×V)) (bl:aq) (aC:Nat):Out:=match i with
 | .mv x=>acI ar x env bl aC
 | .pick c a b=>Sk ar c a b env bl aC
 | .alloc z=>NN ar z env bl aC
 | .box x=>X8 ar x env bl aC
 | .build z parts=>NO ar z parts env bl aC
 | .dZ t xs=>K2 ar t xs env bl aC
 | .load agg k x=>Sl ar agg k x env bl aC
 | .store k a x=>NP ar k a x env bl aC
 | .bin op x y=>X9 ar op x y env bl aC
 | .RG neg x y=>Yc ar neg x y env bl aC
 | .eqs neg ks x y=>Yd ar neg ks x y env bl aC
 | .neg x=>Ye ar x env bl aC
 | .not x=>Yf ar x env bl aC
 | .conv k x=>Sm ar k x env bl aC
 | .nu off path x=>Yg ar off path x env bl aC
 | .field agg off k x=>NQ ar agg off k x env bl aC
 | .idx eP x i=>Yh ar eP x i env bl aC
 | .zO len eP x i=>Sn ar len eP x i env bl aC
 | .ext k x=>Yi ar k x env bl aC
 | .len x=>Yj ar x env bl aC
 | .lens x=>Sq ar x env bl aC
 | .zP n=>Sr ar n env bl aC
 | .append eP x y=>K3 ar eP x y env bl aC
 | .iW t n=>GW ar t n env bl aC
 | .BD f a b=>Su ar f a b env bl aC
 | .slice eP x lo hi mx=>NS ar eP x lo hi mx env bl aC
 | .mh mx x ys=>K4 ar mx x ys env bl aC
 | .ex e xs=>je ar e (xs.map (·.ev env)) bl aC
theorem NT {ar:Ar} {i:I} {env:List (Nat×V)} {bl:aq} {aC:Nat}:V9 ar i env bl aC=cu ar i env bl aC:=by cases i<;>rfl
structure Rn where
 call:Nat→List V→aI→Option (V×aI)
 round:Nat→List V→aI→Option (V×aI)
 gW:Nat→List V→Option V
 loop:Nat→Option Nat→C→St→Option (Ex×St)
section
variable {P:Program} {N:Nat} {Y:Ctx} {ι ι':au} {μ μ':Mu} {H:aI} {w w':World} {out:Option Nat} {base:Nat}
structure RnOk (P:Program) (rn:Rn):Prop where
 call:∀{f vs H v H'},rn.call f vs H=some (v,H')→gY P f vs H fun v2 H2=>v2=v∧H2=H'
 round:∀{id vs H v H'},rn.round id vs H=some (v,H')→around P id vs H fun v2 H2=>v2=v∧H2=H'
 gW:∀{f vs v},rn.gW f vs=some v→gW P f vs v
 loop:∀{N out base c S e S' K},rn.loop N out c S=some (e,S')→K e S'→∃n,unr (gx P N out base) c n S K
 mixed:P.follows .mixedOrders=true
theorem Cg {ar : Ar} {d : Option Nat} {i : I} {S : St} {K : St → Prop} {ob : List Bool} {v : V} {u : eL} (aj : cu ar i S.env S.H.bl S.H.next = some (ob, v, u)) (dc : vr ob)
  (hk:K ⟨put d v S.env,⟨MM i.lays S.H.next,bG u S.H.bl⟩,S.ms⟩):wpOp ar d i S K:=by
 refine .inl ?_
 unfold rI
 rw [aj]
 cases ob with
 |nil=>exact hk
 |cons b r=>exact ⟨dc,hk⟩
theorem Yk {ar : Ar} {d : Option Nat} {i : I} {S : St} {K : St → Prop} {ob : List Bool} {v : V} {u : eL} (aj : zQ ar i S.env S.H.bl S.H.next = some (ob, v, u)) (dc : vr ob)
  (hk:K ⟨put d v S.env,⟨MM i.lays S.H.next,bG u S.H.bl⟩,S.ms⟩):wpOp ar d i S K:=by
 refine .inr (.inl ?_)
 unfold rI
 rw [aj]
 cases ob with
 |nil=>exact hk
 |cons b r=>exact ⟨dc,hk⟩
theorem Yl {ar : Ar} {d : Option Nat} {i : I} {S : St} {K : St → Prop} {ob : List Bool} {v : V} {u u' : eL} {ids : List Nat} (hu : ML ar ids S.H.bl = some u') (aj : cu ar i S.env (bG u' S.H.bl) S.H.next = some (ob, v, u)) (dc : vr ob)
  (hk:K ⟨put d v S.env,⟨MM i.lays S.H.next,bG u (bG u' S.H.bl)⟩,S.ms⟩):wpOp ar d i S K:=by
 refine .inr (.inr ⟨ids,u',hu,?_⟩)
 unfold rI
 rw [aj]
 cases ob with
 |nil=>exact hk
 |cons b r=>exact ⟨dc,hk⟩
end
end Go.AM
end
section
namespace Go.AM
open Go.RowKit
def kP (P : Program) (g : TypeId → Ty → Bool) : Nat → List Field → Ty → Bool
 |_,[],.unit=>true
 |off,[f],ty=>Nat.beq f.offset off&&Nat.beq (P.cellsOf f.type) ty.sz&&g f.type ty
 |off,f::f2::r,.prod a b=>Nat.beq f.offset off&&Nat.beq (P.cellsOf f.type) a.sz&&g f.type a&&kP P g (off+a.sz) (f2::r) b
 |_,_,_=>false
def AS (P:Program) (g:TypeId→Ty→Bool) (fs:List Field) (ty:Ty):Bool:=match fs with
 |[f]=>match ty with
  | .prod a .unit=>kP P g 0 [f] a
  |_=>false
 |fs=>kP P g 0 fs ty
def AU (P : Program) (g : TypeId → Ty → Bool) : Nat → TypeId → Ty → Bool
 |0,_,.unit=>true
 |1,e,ty=>Nat.beq (P.cellsOf e) ty.sz&&g e ty
 |n+2,e,.prod a b=>Nat.beq (P.cellsOf e) a.sz&&g e a&&AU P g (n+1) e b
 |_,_,_=>false
def fZ (P : Program) : Nat → TypeId → Ty → Bool
 |0,_,_=>false
 |n+1,t,ty=>match P.underlying t with
  |some .bool=>match ty with | .bool=>true|_=>false
  |some (.int k)=>match ty with | .int k'=>decide (k=k')|_=>false
  |some .string=>match ty with | .str=>true|_=>false
  |some (.slice e)=>match ty with | .list te=>Nat.beq (P.cellsOf e) te.sz&&Nat.blt 0 te.sz&&fZ P n e te|_=>false
  |some (.struct fs)=>Nat.beq (P.cellsOf t) ty.sz&&AS P (fZ P n) fs.toList ty
  |some (.array m e)=>Nat.beq (P.cellsOf t) ty.sz&&AU P (fZ P n) m e ty
  |_=>false
def Wf : (t : Ty) → t.den → Prop
 | .unit,_=>True
 | .bool,_=>True
 | .str,s=>s.size≤maxLen
 | .int k,n=>k.min≤n∧n≤k.max
 | .list t,xs=>xs.length≤maxLen∧∀x∈xs,Wf t x
 | .prod a b,x=>Wf a x.1∧Wf b x.2
 | .cB _ _ a,x=>Wf a x
def jQ (w:World):au:=fun b o=>w.cell? ⟨b,o,none⟩
section
variable {H:Type} {enc:TypeId×Value→H} {P:Program} {w:World} {sp:Nat→Bool} {held:Bool}
theorem Ch {b o:Nat} {a:Addr} {n:Nat} {cs:List Value} (ha:a=⟨b,o,none⟩∨0<n) (hb:a.block=b) (ho:a.off=o) (h:w.cells? 0 a n=some cs):cs.length=n∧Reads (jQ w) b o cs∧(0<n→a.spot=none):=by
 unfold World.cells? at h
 rw [if_pos (Nat.zero_le _)] at h
 have key:∀(m:Nat) (xs:List Nat) (cs:List Value),xs.mapM (fun i=>w.cell? (a.add i))=some cs→cs.length=xs.length∧∀(j i:Nat),xs[j]?=some i→w.cell? (a.add i)=cs[j]?:=by
  intro m xs
  induction xs with
  |nil=>intro cs h;simp at h;subst h;exact ⟨rfl,fun j i hj=>by simp at hj⟩
  |cons x xs ih =>
   intro cs h
   rw [List.mapM_cons] at h
   cases hx:w.cell? (a.add x) with
   |none=>simp [hx] at h
   |some v =>
    cases hr:xs.mapM (fun i=>w.cell? (a.add i)) with
    |none=>simp [hx,hr] at h
    |some vs =>
     simp [hx,hr] at h
     subst h
     obtain ⟨h1,h2⟩:=ih vs hr
     refine ⟨by simp [h1],fun j i hj=>?_⟩
     cases j with
     |zero=>simp at hj;subst hj;simpa using hx
     |succ j=>simpa using h2 j i (by simpa using hj)
 obtain ⟨h1,h2⟩:=key 0 _ _ h
 have hlen:cs.length=n:=by simpa using h1
 have NU:0<n→a.spot=none:=fun hn=>by
  have:=h2 0 0 (by simp [hn])
  simp only [Addr.add,if_true] at this
  have hc:∃v,w.cell? a=some v:=⟨cs[0]'(by omega),by rw [this];simp⟩
  obtain ⟨v,hv⟩:=hc
  unfold World.cell? at hv
  cases hs:a.spot with
  |none=>rfl
  |some s=>rw [hs] at hv;split at hv<;>simp at hv
 refine ⟨hlen,fun j v hv=>?_,NU⟩
 have hj:j<cs.length:=(List.getElem?_eq_some_iff.1 hv).1
 have:=h2 j j (by rw [List.getElem?_range (by omega)])
 rw [hv] at this
 unfold jQ
 have e:a.add j=⟨b,o+j,none⟩:=by
  have hs:=NU (by omega)
  unfold Addr.add
  subst hb;subst ho
  split
  ·rename_i h0;subst h0;cases a;simp_all
  ·rfl
 rw [e] at this
 exact this
theorem I3 {α : Type} {D : α → List Value → Prop} : ∀ (n : Nat) (f : Nat → α) (g : Nat → List Value), (∀ i, i < n → D (f i) (g i)) → bF D ((List.range n).map f) ((List.range n).flatMap g)
 |0,_,_,_=>rfl
 |n+1,f,g,h=>by
  rw [List.range_succ,List.map_append,List.flatMap_append]
  exact (I3 n f g fun i hi=>h i (by omega)).append ⟨g n,[],by simp,h n (by omega),rfl⟩
theorem Sv {k:IntKind} {n:Int} (h:(Lit.int k n).wf=true):k.min≤n∧n≤k.max:=by
 simpa [Lit.wf] using h
theorem qL {n : Nat} (ih : ∀ {t : TypeId} {ty : Ty}, fZ P n t ty = true → ∀ {fuel : Nat} {cs : List Value} {x : DataW H × List MemPlace}, DataW.trod enc P w 0 sp held fuel t cs = some x → ∃ y : ty.den, ah (jQ w) ty y cs ∧ Wf ty y)
  {fuel:Nat} {cs:List Value}:∀{fs:List Field} {off:Nat} {ty:Ty},kP P (fZ P n) off fs ty=true→cs.length=off+ty.sz →
   (∀f∈fs,∃x,DataW.trod enc P w 0 sp held fuel f.type ((cs.drop f.offset).take (P.cellsOf f.type))=some x)→∃y:ty.den,ah (jQ w) ty y (cs.drop off)∧Wf ty y
 |[],off,ty,h,hl,_=>by
  cases ty<;>simp [kP] at h
  exact ⟨(),by simp [ah];simp [Ty.sz] at hl;omega,trivial⟩
 |[f],off,ty,h,hl,hf=>by
  have h':(Nat.beq f.offset off&&Nat.beq (P.cellsOf f.type) ty.sz&&fZ P n f.type ty)=true:=by
   cases ty<;>simpa [kP] using h
  simp only [Bool.and_eq_true] at h'
  obtain ⟨⟨h1,h2⟩,h3⟩:=h'
  have e1:=Nat.eq_of_beq_eq_true h1
  have e2:=Nat.eq_of_beq_eq_true h2
  obtain ⟨x,hx⟩:=hf f (List.mem_singleton_self _)
  rw [e1,e2,List.take_of_length_le (by simp;omega)] at hx
  exact ih h3 hx
 |f::f2::r,off,ty,h,hl,hf=>by
  cases ty<;>simp only [kP,Bool.false_eq_true] at h
  rename_i a b
  simp only [Bool.and_eq_true] at h
  obtain ⟨⟨⟨h1,h2⟩,h3⟩,h4⟩:=h
  have e1:=Nat.eq_of_beq_eq_true h1
  have e2:=Nat.eq_of_beq_eq_true h2
  obtain ⟨x,hx⟩:=hf f (List.mem_cons_self ..)
  rw [e1,e2] at hx
  obtain ⟨y,hy,wy⟩:=ih h3 hx
  simp only [Ty.sz] at hl
  obtain ⟨z,hz,wz⟩:=qL ih h4 (by omega) (fun g hg=>hf g (List.mem_cons_of_mem _ hg))
  refine ⟨(y,z),⟨_,_,?_,hy,hz⟩,wy,wz⟩
  rw [←List.drop_drop,List.take_append_drop]
theorem I4 {n : Nat} (ih : ∀ {t : TypeId} {ty : Ty}, fZ P n t ty = true → ∀ {fuel : Nat} {cs : List Value} {x : DataW H × List MemPlace}, DataW.trod enc P w 0 sp held fuel t cs = some x → ∃ y : ty.den, ah (jQ w) ty y cs ∧ Wf ty y)
  {fuel:Nat} {cs:List Value} {e:TypeId}:∀{m i:Nat} {ty:Ty},AU P (fZ P n) m e ty=true→cs.length=i * P.cellsOf e+ty.sz →
   (∀j,i≤j→j<i+m→∃x,DataW.trod enc P w 0 sp held fuel e ((cs.drop (j * P.cellsOf e)).take (P.cellsOf e))=some x)→∃y:ty.den,ah (jQ w) ty y (cs.drop (i * P.cellsOf e))∧Wf ty y
 |0,i,ty,h,hl,_=>by
  cases ty<;>simp [AU] at h
  exact ⟨(),by simp [ah];simp [Ty.sz] at hl;omega,trivial⟩
 |1,i,ty,h,hl,hf=>by
  have h':(Nat.beq (P.cellsOf e) ty.sz&&fZ P n e ty)=true:=by
   cases ty<;>simpa [AU] using h
  simp only [Bool.and_eq_true] at h'
  have e2:=Nat.eq_of_beq_eq_true h'.1
  obtain ⟨x,hx⟩:=hf i (Nat.le_refl _) (by omega)
  rw [List.take_of_length_le (by rw [List.length_drop];omega)] at hx
  exact ih h'.2 hx
 |m+2,i,ty,h,hl,hf=>by
  cases ty<;>simp only [AU,Bool.false_eq_true] at h
  rename_i a b
  simp only [Bool.and_eq_true] at h
  obtain ⟨⟨h1,h3⟩,h4⟩:=h
  have e2:=Nat.eq_of_beq_eq_true h1
  obtain ⟨x,hx⟩:=hf i (Nat.le_refl _) (by omega)
  obtain ⟨y,hy,wy⟩:=ih h3 hx
  simp only [Ty.sz] at hl
  obtain ⟨z,hz,wz⟩:=I4 ih h4 (i:=i+1) (by rw [Nat.add_mul];omega) (fun j h1 h2=>hf j (by omega) (by omega))
  refine ⟨(y,z),⟨_,_,?_,hy,hz⟩,wy,wz⟩
  rw [show (i+1) * P.cellsOf e=i * P.cellsOf e+P.cellsOf e by rw [Nat.add_mul];omega,←List.drop_drop,List.take_append_drop]
theorem NV {n:Nat}:∀{t:TypeId} {ty:Ty},fZ P n t ty=true→∀{fuel:Nat} {cs:List Value} {x:DataW H×List MemPlace},DataW.trod enc P w 0 sp held fuel t cs=some x→∃y:ty.den,ah (jQ w) ty y cs∧Wf ty y:=by
 induction n with
 |zero=>intro t ty h;cases h
 |succ n ih =>
  intro t ty h fuel cs x hx
  have hx0:=hx
  unfold fZ at h
  split at h
  ·rename_i hu
   cases ty<;>simp at h
   cases fuel with
   |zero=>simp [DataW.trod] at hx
   |succ fuel =>
    rcases cs with _|⟨c,_|⟨c2,r⟩⟩
    ·simp [DataW.trod,hu] at hx
    ·cases c <;> simp [DataW.trod, hu] at hx
     exact ⟨_,rfl,trivial⟩
    ·simp [DataW.trod,hu] at hx
  ·rename_i k hu
   cases ty<;>simp at h
   subst h
   cases fuel with
   |zero=>simp [DataW.trod] at hx
   |succ fuel =>
    rcases cs with _|⟨c,_|⟨c2,r⟩⟩
    ·simp [DataW.trod,hu] at hx
    ·cases c <;> simp [DataW.trod, hu] at hx
     obtain ⟨⟨rfl,h2⟩,_⟩:=hx
     exact ⟨_,rfl,Sv h2⟩
    ·simp [DataW.trod,hu] at hx
  ·rename_i hu
   cases ty<;>simp at h
   cases fuel with
   |zero=>simp [DataW.trod] at hx
   |succ fuel =>
    rcases cs with _|⟨c,_|⟨c2,r⟩⟩
    ·simp [DataW.trod,hu] at hx
    ·cases c <;> simp [DataW.trod, hu] at hx
     exact ⟨_,rfl,hx.1⟩
    ·simp [DataW.trod,hu] at hx
  ·rename_i e hu
   cases ty<;>simp only [Bool.false_eq_true] at h
   rename_i te
   simp only [Bool.and_eq_true] at h
   obtain ⟨⟨h1,h2⟩,h3⟩:=h
   have e1:=Nat.eq_of_beq_eq_true h1
   have hpos:0<te.sz:=by simpa using h2
   rcases DataW.trod_slice hu hx with ⟨rfl,rfl⟩|⟨a,len,cap,elems,rest,m,_,rfl,rfl,_,hlc,hm,hel,hE,_,_⟩
   ·exact ⟨[],⟨none,0,by simp,by simp,.inl rfl⟩,by simp,by simp⟩
   ·have each:∀i,i<len→∃(y:te.den) (us:List Value),ah (jQ w) te y us∧Wf te y∧us.length=te.sz∧Reads (jQ w) a.block (a.off+i * te.sz) us∧(i=0→a.spot=none):=fun i hi=>by
     have:=hE i hi
     have hlt:i<elems.length:=by omega
     rw [List.getElem?_eq_getElem hlt,e1] at this
     cases hc:w.cells? 0 (a.add (i * te.sz)) te.sz with
     |none=>rw [hc] at this;simp at this
     |some us =>
      rw [hc,Option.bind_some] at this
      obtain ⟨y,hy,wy⟩:=ih h3 this
      have hb:(a.add (i * te.sz)).block=a.block:=by unfold Addr.add;split<;>rfl
      have ho:(a.add (i * te.sz)).off=a.off+i * te.sz:=by unfold Addr.add;split<;>simp_all
      obtain ⟨q1,q2,q3⟩:=Ch (.inr hpos) hb ho hc
      refine ⟨y,us,hy,wy,q1,q2,fun h0=>?_⟩
      subst h0
      have:=q3 hpos
      simpa [Addr.add] using this
    by_cases hl0:len=0
    ·subst hl0
     exact ⟨[],⟨some a,cap,rfl,by simp,.inl rfl⟩,by simp,by simp⟩
    ·obtain ⟨f,hf⟩:∃f:Nat→te.den×List Value,∀i,i<len→ah (jQ w) te (f i).1 (f i).2∧Wf te (f i).1∧(f i).2.length=te.sz∧Reads (jQ w) a.block (a.off+i * te.sz) (f i).2∧(i=0→a.spot=none) :=
      ⟨fun i=>if h:i<len then ((each i h).choose,(each i h).choose_spec.choose) else (te.zero,[]),fun i hi=>by simp only [hi,dif_pos];exact (each i hi).choose_spec.choose_spec⟩
     have NU:=(hf 0 (by omega)).2.2.2.2 rfl
     have hrd:∀n,n≤len→((List.range n).flatMap fun i=>(f i).2).length=n * te.sz∧Reads (jQ w) a.block a.off ((List.range n).flatMap fun i=>(f i).2):=fun n=>by
      induction n with
      |zero=>intro _;exact ⟨by simp,fun j v hv=>by simp at hv⟩
      |succ n ih2 =>
       intro hn
       obtain ⟨l1,l2⟩:=ih2 (by omega)
       obtain ⟨_,_,l3,l4,_⟩:=hf n (by omega)
       rw [List.range_succ,List.flatMap_append]
       simp only [List.flatMap_cons,List.flatMap_nil,List.append_nil]
       refine ⟨by rw [List.length_append,l1,l3,Nat.add_mul];simp,fun j v hv=>?_⟩
       rw [List.getElem?_append] at hv
       split at hv
       ·exact l2 j v hv
       ·rename_i hj
        have:=l4 _ _ hv
        rw [l1] at this hj
        rw [show a.off+n * te.sz+(j - n * te.sz)=a.off+j by omega] at this
        exact this
     refine ⟨(List.range len).map fun i=>(f i).1,⟨some a,cap,by simp,by simpa using hlc,.inr ⟨a.block,a.off,(List.range len).flatMap fun i=>(f i).2,by cases a;simp_all,(hrd len (Nat.le_refl _)).2,I3 _ _ _ fun i hi=>(hf i hi).1⟩⟩,by simp;omega,fun x hx=>?_⟩
     obtain ⟨i,hi,rfl⟩:=List.mem_map.1 hx
     exact (hf i (List.mem_range.1 hi)).2.1
  ·rename_i fs hu
   simp only [Bool.and_eq_true] at h
   obtain ⟨h1,h2⟩:=h
   obtain ⟨xs,m,_,_,hl,hxl,hf⟩:=DataW.trod_struct hu hx
   have hfm:∀f∈fs.toList,∃y,DataW.trod enc P w 0 sp held m f.type ((cs.drop f.offset).take (P.cellsOf f.type))=some y:=fun f hfm=>by
    obtain ⟨i,hi⟩:=List.getElem?_of_mem hfm
    have hi':fs[i]?=some f:=by simpa using hi
    have hlt:i<xs.length:=by rw [hxl];exact (Array.getElem?_eq_some_iff.1 hi').1
    exact ⟨xs[i],by rw [hf i f hi'];simp⟩
   have hlen:cs.length=ty.sz:=by rw [hl,Nat.eq_of_beq_eq_true h1]
   unfold AS at h2
   split at h2
   ·rename_i f hfs
    split at h2<;>try (cases h2;done)
    rename_i a
    have:=qL ih (fuel:=m) (cs:=cs) h2 (by simpa [Ty.sz] using hlen) (fun f' hf'=>by rw [←hfs] at hf';exact hfm f' hf')
    obtain ⟨y,hy,wy⟩:=this
    exact ⟨(y,()),⟨cs,[],by simp,by simpa using hy,rfl⟩,wy,trivial⟩
   ·have := qL ih (fuel := m) (cs := cs) h2 (by simpa using hlen) hfm
    simpa using this
  ·rename_i m e hu
   simp only [Bool.and_eq_true] at h
   obtain ⟨h1,h2⟩:=h
   obtain ⟨xs,k,_,_,hl,hxl,hf⟩:=DataW.trod_array hu hx
   have:=I4 ih (fuel:=k) (cs:=cs) (i:=0) h2 (by rw [hl,Nat.eq_of_beq_eq_true h1];simp) (fun j _ hj=>⟨xs[j]'(by omega),by rw [hf j (by omega)];simp⟩)
   simpa using this
  ·cases h
end
end Go.AM
end
section
namespace Go.AM
inductive EV (π : List Nat) : V → V → Prop
 |any (v):EV π .any v
 |tf (b):EV π (.tf b) (.tf b)
 |bool (b):EV π (.bool b) (.bool b)
 |tfb (b):EV π (.bool b) (.tf b)
 |int (k n):EV π (.int k n) (.int k n)
 |str (s):EV π (.str s) (.str s)
 |eH:EV π .eH .eH
 |cL:EV π .cL .cL
 |fu:EV π .fu .fu
 |eU (t xs):EV π (.eU t xs) (.eU t xs)
 |Ym (t):EV π (.eU t []) .cq
 |cq:EV π .cq .cq
 |sl (id i t lo n) (h:π[id]?=some i):EV π (.sl id t lo n) (.sl i t lo n)
 |Yn (id t lo):EV π (.sl id t lo 0) .cq
 |ptr (id i o) (h:π[id]?=some i):EV π (.ptr id o) (.ptr i o)
 |ep (id i t j p) (h:π[id]?=some i):EV π (.ep id t j p) (.ep i t j p)
 |yl (id i) (h:π[id]?=some i):EV π (.yl id) (.yl i)
 |ip (t x):EV π (.ip t x) (.ip t x)
 |fH (cs ds) (h:cs.length=ds.length) (h2:∀(i:Nat) v u,cs[i]?=some v→ds[i]?=some u→EV π v u):EV π (.fH cs) (.fH ds)
 | fn (f as as' cs cs') (h : as.length = as'.length) (h2 : ∀ (i : Nat) v u, as[i]? = some v → as'[i]? = some u → EV π v u)
   (h3:cs.length=cs'.length) (h4:∀(i:Nat) v u,cs[i]?=some v→cs'[i]?=some u→EV π v u):EV π (.fn f as cs) (.fn f as' cs')
 |agg (cs ds) (h:cs.length=ds.length) (h2:∀(i:Nat) v u,cs[i]?=some v→ds[i]?=some u→EV π v u):EV π (.agg cs) (.agg ds)
 |cO (cs ds) (h:cs.length=ds.length) (h2:∀(i:Nat) v u,cs[i]?=some v→ds[i]?=some u→EV π v u):EV π (.cO cs) (.cO ds)
 |cB (t v u) (h:EV π v u):EV π (.cB t v) (.cB t u)
 |cb (c):EV π (.cb c) (.cb c)
 |mp (id i) (h:π[id]?=some i):EV π (.mp id) (.mp i)
 |cH:EV π .cH .cH
 |pa (id i t n) (h:π[id]?=some i):EV π (.pa id t n) (.pa i t n)
 |lN (t xs):EV π (.lN t xs) (.lN t xs)
def Ds (π:List Nat) (cs ds:List V):Prop:=cs.length=ds.length∧∀(i:Nat) v u,cs[i]?=some v→ds[i]?=some u→EV π v u
theorem Ds.nil {π:List Nat}:Ds π [] []:=⟨rfl,fun i v u h=>by simp at h⟩
theorem Ds.cons {π:List Nat} {v u:V} {cs ds:List V} (h:EV π v u) (hl:Ds π cs ds):Ds π (v::cs) (u::ds) :=
 ⟨by simp [hl.1],fun i w y hw hy=>by
  cases i with
  |zero=>simp at hw hy;subst hw;subst hy;exact h
  |succ i=>exact hl.2 i w y (by simpa using hw) (by simpa using hy)⟩
def EE (π:List Nat) (env' env:List (Nat×V)):Prop:=∀p∈env',EV π p.2 (get p.1 env)
def EBk (π:List Nat) (nx:Nat) (bl:aq) (id:Nat) (B:lM):Prop:=∃i,π[id]?=some i∧match B with
 | .cells cs fz=>∃ds,ax i bl=some (.cells ds fz)∧Ds π cs ds
 | .arr t xs fz=>ax i bl=some (.arr t xs fz)∨(xs=[]∧nx≤i)
 | .loop st j d env ps as bd N=>∃d0 jZ,ax i bl=some (.loop st j d0 jZ ps as bd N)∧π[d]?=some d0∧EE π env jZ
 | .iz=>ax i bl=some .iz
 | .map kt kg vt vg es=>ax i bl=some (.map kt kg vt vg es)
 | .nq t xs k p v=>∃u,ax i bl=some (.nq t xs k p u)∧EV π v u
structure jE (base:Nat) (π:List Nat) (S S':St):Prop where
 pre:π.take base=List.range base
 nx:S'.H.next=π.length
 ms:S'.ms.map (fun i=>π[i]?)=S.ms.map some
 env:EE π S'.env S.env
 bl:∀p∈S'.H.bl,EBk π S.H.next S.H.bl p.1 p.2
 inj:∀p∈S'.H.bl,∀q∈S'.H.bl,π[p.1]?=π[q.1]?→p.1=q.1
section
variable {P:Program} {N:Nat} {Y:Ctx} {ι ι':au} {μ μ':Mu} {H:aI} {w w':World} {out:Option Nat} {base:Nat} {π:List Nat}
theorem aJ.ff {cs ds:List V} {xs:List Value} (h:cs.length=ds.length) (ih:∀(i:Nat) v u,cs[i]?=some v→ds[i]?=some u→∀{x:Value},Rel ι μ u x→Rel ι (μ.ff π) v x) (hr:aJ ι μ ds xs):aJ ι (μ.ff π) cs xs :=
 ⟨h.trans hr.1,fun i v x hv hx=>by
  have hi:i<ds.length:=by have:=(List.getElem?_eq_some_iff.1 hv).1;omega
  exact ih i v ds[i] hv (by simp [hi]) (hr.2 i ds[i] x (by simp [hi]) hx)⟩
theorem EV.rel {v' v:V} (h:EV π v' v):∀{x:Value},Rel ι μ v x→Rel ι (μ.ff π) v' x:=by
 induction h with
 |any v=>intro x _;exact .any _
 |tf b=>intro x hr;cases hr;exact .tf _
 |bool b=>intro x hr;cases hr;exact .bool _
 |tfb b=>intro x hr;cases hr;exact .bool _
 |int k n=>intro x hr;cases hr;exact .int _ _
 |str s=>intro x hr;cases hr;exact .str _
 |eH=>intro x hr;cases hr;exact .eH
 |cL=>intro x hr;cases hr;exact .cL
 |fu=>intro x hr;cases hr;exact .fu
 |eU t xs=>intro x hr;cases hr with|eU _ _ _ hd=>exact .eU t xs _ hd
 |Ym t=>intro x hr;cases hr;exact .eU _ _ _ ⟨_,0,rfl,Nat.le_refl _,.inl rfl⟩
 |cq=>intro x hr;cases hr;exact .cq _
 |sl id i t lo n hi =>
  intro x hr
  cases hr with
  |sl _ _ _ _ cap L hL h1 h2 h3=>exact .sl id t lo n cap L (by simp [Mu.ff,hi,hL]) h1 h2 h3
  |cn=>exact .cn _ _ _ _
 |Yn id t lo=>intro x hr;cases hr;exact .cn _ _ _ _
 |ptr id i o hi=>intro x hr;cases hr with|ptr _ _ L hL=>exact .ptr id o L (by simp [Mu.ff,hi,hL])
 |ep id i t j p hi=>intro x hr;cases hr with|ep _ _ _ _ L hL=>exact .ep id t j p L (by simp [Mu.ff,hi,hL])
 |yl id i hi=>intro x hr;cases hr with|yl _ L hL=>exact .yl id L (by simp [Mu.ff,hi,hL])
 |ip t y=>intro x hr;cases hr with|ip _ _ b o us h1 h2=>exact .ip t y b o us h1 h2
 |fH cs ds h h2 ih =>
  intro x hr
  cases hr with
  |fH _ b o gf h1 h3 h4 =>
   have hR:aJ ι μ ds ((List.range ds.length).map gf):=⟨by simp,fun i v x hv hx=>by
    have hi:=(List.getElem?_eq_some_iff.1 hv).1
    simp [hi] at hx;subst hx;exact h3 i v hv⟩
   have gU:=aJ.ff h ih hR
   exact .fH cs b o gf (fun i hi => h1 i (by omega)) (fun i v hv => gU.2 i v (gf i) hv (by
    have hi:=(List.getElem?_eq_some_iff.1 hv).1
    simp [show i<ds.length by omega])) h4
 |fn f as as' cs cs' h h2 h3 h4 ih1 ih2 =>
  intro x hr
  cases hr with
  |fn _ _ _ xs ys q1 q2 q3 q4 =>
   have r1:=aJ.ff h ih1 (xs:=xs.toList) ⟨by simpa using q1,fun i v x hv hx=>q2 i v x hv (by simpa using hx)⟩
   have r2:=aJ.ff h3 ih2 (xs:=ys.toList) ⟨by simpa using q3,fun i v x hv hx=>q4 i v x hv (by simpa using hx)⟩
   exact .fn f as cs xs ys (by simpa using r1.1) (fun i v x hv hx=>r1.2 i v x hv (by simpa using hx)) (by simpa using r2.1) (fun i v x hv hx=>r2.2 i v x hv (by simpa using hx))
 |agg cs ds h h2 ih =>
  intro x hr
  cases hr with
  |agg _ xs q1 q2 q3 =>
   have r1:=aJ.ff h ih (xs:=xs.toList) ⟨by simpa using q1,fun i v x hv hx=>q2 i v x hv (by simpa using hx)⟩
   exact .agg cs xs (by simpa using r1.1) (fun i v x hv hx=>r1.2 i v x hv (by simpa using hx)) q3
 |cO cs ds h h2 ih =>
  intro x hr
  cases hr with
  |cO _ xs q1 q2 =>
   have r1:=aJ.ff h ih (xs:=xs.toList) ⟨by simpa using q1,fun i v x hv hx=>q2 i v x hv (by simpa using hx)⟩
   exact .cO cs xs (by simpa using r1.1) (fun i v x hv hx=>r1.2 i v x hv (by simpa using hx))
 |cB t v u h ih=>intro x hr;cases hr with|cB _ _ x hx=>exact .cB t v x (ih hx)
 |cb c=>intro x hr;cases hr with|cb _ b hc=>exact .cb c b hc
 |mp id i hi=>intro x hr;cases hr with|mp _ L hL=>exact .mp id L (by simp [Mu.ff,hi,hL])
 |cH=>intro x hr;cases hr;exact .cH
 |pa id i t n hi=>intro x hr;cases hr with|pa _ _ _ L hL hm=>exact .pa id t n L (by simp [Mu.ff,hi,hL]) hm
 |lN t xs=>intro x hr;cases hr with|lN _ _ b o us h1 h2=>exact .lN t xs b o us h1 h2
theorem EE.rel {tmps : Array Value} {env : List (Nat × V)} (he : eF ι μ env tmps) : ∀ {env' : List (Nat × V)}, EE π env' env → eF ι (μ.ff π) env' tmps
 |[],_=>fun t=>.any _
 |(t,v)::r,h=>fun i=>by
  rw [cm];split
  ·rename_i e;subst e;exact (h _ (List.mem_cons_self ..)).rel (he _)
  ·exact EE.rel he (fun p hp=>h p (List.mem_cons_of_mem _ hp)) i
theorem dA : ∀ {bl : aq} {id : Nat} {b : lM}, ax id bl = some b → (id, b) ∈ bl
 |[],id,b,h=>by simp [ax] at h
 |(s,c)::r,id,b,h=>by
  rw [bB] at h
  split at h
  ·rename_i e;subst e;cases h;exact List.mem_cons_self ..
  ·exact List.mem_cons_of_mem _ (dA h)
theorem jE.rep {S S':St} (h:jE base π S S') (hbase:Y.base base) {a:Act} (hR:eR P N Y ι μ S a w):eR P N Y ι (μ.ff π) S' a w:=by
 have hI:=hR.inv
 have hle:Y.m0.le (μ.ff π):=fun id L hL=>by
  have hlt:id<base:=by
   rcases Nat.lt_or_ge id base with h|h
   ·exact h
   ·rw [hbase id h] at hL;cases hL
  have:π[id]?=some id:=by
   have e1:(π.take base)[id]?=(List.range base)[id]?:=by rw [h.pre]
   rw [List.getElem?_take,if_pos hlt,List.getElem?_range hlt] at e1
   exact e1
  simp [Mu.ff,this,hI.m0 id L hL]
 refine ⟨h.env.rel hR.env,hR.sz,⟨hI.below,hI.i0,hI.iB,hI.rd,hle,fun id hid=>?_,fun id B hB=>?_,?_,fun id B hB=>?_,hI.gl⟩,?_⟩
 ·have : π[id]? = none := List.getElem?_eq_none (by rw [← h.nx]; exact hid)
  simp [Mu.ff,this]
 ·obtain ⟨i, e1, hb⟩ := h.bl _ (dA hB)
  have fR:(μ.ff π) id=μ i:=by simp only [Mu.ff];rw [e1];rfl
  cases B with
  |cells cs fz =>
   obtain ⟨ds,e2,aj⟩:=hb
   obtain ⟨L,vs,hM,IU⟩:=hI.live i _ e2
   exact ⟨L,vs,⟨by rw [fR];exact hM.mu,hM.old,hM.row,hM.fits,hM.one,hM.DD,hM.qo⟩,aJ.ff aj.1 (fun i v u hv hu=>fun {x} hr=>(aj.2 i v u hv hu).rel hr) IU⟩
  |arr t xs fz =>
   rcases hb with e2|⟨rfl,hge⟩
   ·rcases hI.live i _ e2 with ⟨e, hn⟩ | ⟨L, vs, hM, hc, hl⟩
    ·exact .inl ⟨e,by rw [fR];exact hn⟩
    ·exact .inr ⟨L,vs,⟨by rw [fR];exact hM.mu,hM.old,hM.row,hM.fits,hM.one,hM.DD,hM.qo⟩,hc,hl⟩
   ·exact .inl ⟨rfl,by rw [fR];exact hI.nx i hge⟩
  |loop st j d env ps as bd N =>
   obtain ⟨d0,jZ,e2,e3,hee⟩:=hb
   obtain ⟨L,r,Ld,q1,q2,q3,q4,q5,q6,q7,q8,q9,q10,q11,q12,q13⟩:=hI.live i _ e2
   exact ⟨L,r,Ld,by rw [fR];exact q1,q2,q3,q4,q5,hee.rel q6,q7,q8,q9,q10,q11,by simp only [Mu.ff];rw [e3];exact q12,q13⟩
  |iz =>
   obtain ⟨L,q1,q2,q3⟩:=hI.live i _ hb
   exact ⟨L,by rw [fR];exact q1,q2,q3⟩
  |map kt kg vt vg es =>
   obtain ⟨L,ms,clock,dH,q1,q2,q3⟩:=hI.live i _ hb
   exact ⟨L,ms,clock,dH,by rw [fR];exact q1,q2,q3⟩
  |nq t xs k p v =>
   obtain ⟨u,e2,aj⟩:=hb
   obtain ⟨L,us,vs,c,hM,hc,hl,q1,q2,q3,q4⟩:=hI.live i _ e2
   exact ⟨L,us,vs,c,⟨by rw [fR];exact hM.mu,hM.old,hM.row,hM.fits,hM.one,hM.DD,hM.qo⟩,hc,hl,q1,q2,q3,aj.rel q4⟩
 ·intro id id' B B' L L' hb hb' hm hm' e
  obtain ⟨i,e1,hbk⟩:=h.bl _ (dA hb)
  obtain ⟨i',FY,hbk'⟩:=h.bl _ (dA hb')
  simp only at e1 FY
  have fR:(μ.ff π) id=μ i:=by simp only [Mu.ff];rw [e1];rfl
  have X4:(μ.ff π) id'=μ i':=by simp only [Mu.ff];rw [FY];rfl
  rw [fR] at hm;rw [X4] at hm'
  have live:∀{i:Nat} {B:lM} {id:Nat} {L:Loc},EBk π S.H.next S.H.bl id B→π[id]?=some i→μ i=some L→∃C,ax i S.H.bl=some C:=by
   intro i B id L hbk e hm
   obtain ⟨i2,e2,eW⟩:=hbk
   rw [e] at e2;cases e2
   cases B with
   |cells cs fz=>obtain ⟨ds,e2,_⟩:=eW;exact ⟨_,e2⟩
   |arr t xs fz =>
    rcases eW with e2|⟨_,hge⟩
    ·exact ⟨_,e2⟩
    ·rw [hI.nx i hge] at hm;cases hm
   |loop st j d env ps as bd N=>obtain ⟨d0,jZ,e2,_⟩:=eW;exact ⟨_,e2⟩
   |iz=>exact ⟨_,eW⟩
   |map kt kg vt vg es=>exact ⟨_,eW⟩
   |nq t xs k p v=>obtain ⟨u,e2,_⟩:=eW;exact ⟨_,e2⟩
  obtain ⟨C,hC⟩:=live (h.bl _ (dA hb)) e1 hm
  obtain ⟨C',RQ⟩:=live (h.bl _ (dA hb')) FY hm'
  have:=hI.inj i i' C C' L L' hC RQ hm hm' e
  subst this
  exact h.inj _ (dA hb) _ (dA hb') (e1.trans FY.symm)
 ·obtain ⟨i, e1, _⟩ := h.bl _ (dA hB)
  have:=(List.getElem?_eq_some_iff.1 e1).1
  rw [h.nx];exact this
 ·have key:∀{ms ms':List Nat} {ds:List Deferred},ms'.map (fun i=>π[i]?)=ms.map some→jD Y.hid μ ms ds→jD Y.hid (μ.ff π) ms' ds:=by
   intro ms
   induction ms with
   |nil=>intro ms' ds e hm;cases ms'<;>simp at e;exact hm
   |cons i ms ih =>
    intro ms' ds e hm
    cases ms' with
    |nil=>simp at e
    |cons i' ms' =>
     simp only [List.map_cons,List.cons.injEq] at e
     obtain ⟨L,d,ds',q1,q2,q3,q4⟩:=hm
     exact ⟨L,d,ds',q1,by simp [Mu.ff,e.1,q2],q3,ih e.2 q4⟩
  exact key h.ms hR.ms
def jR {α β : Type} (step : α → Option (α ⊕ β)) : Nat → α → Option β
 |0,_=>none
 |n+1,x=>match step x with
  |none=>none
  |some (.inl y)=>jR step n y
  |some (.inr b)=>some b
noncomputable def iter {α β:Type} (step:α→Option (α ⊕ β)) (x:α):Option β:=by
 classical exact if h:∃n b,jR step n x=some b then some h.choose_spec.choose else none
theorem AV {α β : Type} {step : α → Option (α ⊕ β)} : ∀ {n m : Nat} {x : α} {b c : β}, jR step n x = some b → jR step m x = some c → b = c
 |0,_,_,_,_,h,_=>by cases h
 |_+1,0,_,_,_,_,h=>by cases h
 |n+1,m+1,x,b,c,h,h'=>by
  simp only [jR] at h h'
  split at h
  ·cases h
  ·rename_i y e;rw [e] at h';exact AV h h'
  ·rename_i b' e;rw [e] at h';cases h;cases h';rfl
theorem Ci {α β:Type} {step:α→Option (α ⊕ β)} {n:Nat} {x:α} {b:β} (h:jR step n x=some b):iter step x=some b:=by
 unfold iter
 have h':∃n b,jR step n x=some b:=⟨n,b,h⟩
 rw [dif_pos h']
 exact congrArg some (AV h'.choose_spec.choose_spec h)
theorem uk {α β:Type} {step:α→Option (α ⊕ β)} {x:α} {b:β} (h:iter step x=some b):∃n,jR step n x=some b:=by
 unfold iter at h
 split at h
 ·rename_i h';cases h;exact ⟨_,h'.choose_spec.choose_spec⟩
 ·cases h
theorem kQ {α β:Type} {step:α→Option (α ⊕ β)} {x y:α} {b:β} (h:step x=some (.inl y)) (h':iter step y=some b):iter step x=some b:=by
 obtain ⟨n,hn⟩:=uk h'
 exact Ci (n:=n+1) (by simp [jR,h,hn])
theorem ga {α β:Type} {step:α→Option (α ⊕ β)} {x:α} {b:β} (h:step x=some (.inr b)):iter step x=some b :=
 Ci (n:=1) (by simp [jR,h])
theorem K5 (ic : nG P N out base) {α β : Type} {I : α → St} {X : β → Ex × St} {step : α → Option (α ⊕ β)} {c : C}
  (hstep:∀x r,step x=some r→rP (gx P N out base) c (I x) fun e S'=>match r with
   | .inl y=>e = .normal∧∃π,jE base π S' (I y)
   | .inr b=>e ≠ .normal∧e=(X b).1∧∃π,jE base π S' (X b).2)
  {x:α} {b:β} (hx:iter step x=some b) {S:St} {π:List Nat} (hS:jE base π S (I x)) {K:Ex→St→Prop} (hK:K (X b).1 (X b).2):(gx P N out base).loop c S K:=by
 obtain ⟨n,hn⟩:=uk hx
 intro body hbody Y ι μ a w ho hb hR
 refine wpIn_loop_ghost (fun (n:Nat) a w=>∃Y1,Ext P Y Y1∧∃x ι μ,eR P N Y1 ι μ (I x) a w∧jR step n x=some b) id (x:=n) ⟨Y,.refl Y,x,ι,_,hS.rep hb hR,hn⟩ ?_
 rintro n a w ⟨Y0,Rt,x,ι,μ,hR,hx⟩
 cases n with
 |zero=>cases hx
 |succ n =>
  simp only [jR] at hx
  split at hx
  ·cases hx
  ·rename_i y e
   refine wpIn_mono (GJ (gJ ic body hbody (hstep x _ e)) Rt ho hb hR) fun e a' w' hp=>?_
   obtain ⟨Y1,hY,ι',μ',S',e',h1,h2,rfl,π',h3⟩:=hp
   cases h2
   exact ⟨n,⟨Y1,hY,y,ι',_,h3.rep (hY.uQ hb) h1,hx⟩,Nat.lt_succ_self n⟩
  ·rename_i b' e
   cases hx
   refine wpIn_mono (GJ (gJ ic body hbody (hstep x _ e)) Rt ho hb hR) fun e a' w' hp=>?_
   obtain ⟨Y1,hY,ι',μ',S',e',h1,h2,hne,h3,π',h4⟩:=hp
   have hp:Post P N Y K e a' w':=⟨Y1,hY,ι',_,_,_,h4.rep (hY.uQ hb) h1,by rw [←h3];exact h2,hK⟩
   cases e' with
   |normal=>exact absurd rfl hne
   |exit id=>cases h2;exact hp
   |ret=>cases h2;exact hp
end
abbrev Env:=List (Nat×V)
section
variable {P:Program} {N:Nat} {Y:Ctx} {ι ι':au} {μ μ':Mu} {H H':aI} {w w':World} {out:Option Nat} {base:Nat}
theorem Inv.junk (h:Inv P Y ι μ H w) (o:Obj):Inv P Y ι μ H (w.alloc o):=by
 have heap:∀k,k<w.heap.size→(w.alloc o).heap[k]?=w.heap[k]?:=fun k hk=>by
  show (w.heap.push o)[k]?=_
  rw [Array.getElem?_push];split
  ·omega
  ·rfl
 refine ⟨⟨h.below.os,h.below.tape,h.below.output,by have:=h.below.size;simp;omega,fun k hk hx=>?_,h.below.dr,fun k hk=>(h.below.maps k hk).trans (.eq (heap k (Nat.lt_of_lt_of_le hk h.below.size)))⟩,h.i0,h.iB,fun b o x hx=>?_,h.m0,h.nx,fun id B hB=>?_,h.inj,h.lt,h.gl⟩
 ·have := h.below.size
  rw [heap k (by omega)];exact h.below.block k hk hx
 ·have := h.rd b o x hx
  rw [World.cell?_alloc_lt _ _ _ (World.block_lt_of_cell? _ _ this)];exact this
 ·exact (h.live id B hB).mono (au.le_refl _) (Mu.le_refl _) (fun h=>h) (fun L' hL'=>heap _ ((h.live id B hB).loc hL').2) (fun _ _ h=>h)
theorem dR.Wa {B:Nat→Prop} {id:Nat} {b:lM} (h:dR P B ι μ id w b) {L:Loc} (hL:μ id=some L) {r:Nat} {m:Option Nat} {s c:Nat} {seen:Array Nat} (hr:w.heap[r]?=some (.mapIter m s seen c)):L.b≠r:=by
 intro e
 subst e
 cases b with
 |cells cs fz =>
  obtain ⟨L',vs,hM,_⟩:=h
  have:=hM.mu;rw [hL] at this;cases this
  obtain ⟨c,e,h1,_⟩:=hM.row
  rw [hr] at h1;cases h1
 |arr t xs fz =>
  rcases h with ⟨_,h⟩|⟨L',vs,hM,_⟩
  ·rw [h] at hL;cases hL
  ·have := hM.mu; rw [hL] at this; cases this
   obtain ⟨c,e,h1,_⟩:=hM.row
   rw [hr] at h1;cases h1
 |loop st j d env ps as bd N =>
  obtain ⟨L',r,Ld,h1,h2,h3,_⟩:=h
  rw [hL] at h1;cases h1
  rw [hr] at h3;cases h3
 |iz =>
  obtain ⟨L',h1,h2,h3⟩:=h
  rw [hL] at h1;cases h1
  rw [hr] at h3;cases h3
 |map kt kg vt vg es =>
  obtain ⟨L',ms,clock,dH,h1,h2,h3,_⟩:=h
  rw [hL] at h1;cases h1
  rw [hr] at h3;cases h3
 |nq t xs i p v =>
  obtain ⟨L',us,vs,c,hM,_⟩:=h
  have:=hM.mu;rw [hL] at this;cases this
  obtain ⟨c,e,h1,_⟩:=hM.row
  rw [hr] at h1;cases h1
theorem Inv.side (h:Inv P Y ι μ H w) {r:Nat} {m:Option Nat} {s c:Nat} {seen:Array Nat} (hr:w.heap[r]?=some (.mapIter m s seen c)) (hown:Y.own r) (o:Obj):Inv P Y ι μ H (w.putObj r o):=by
 have b7:∀k,k≠r→(w.putObj r o).heap[k]?=w.heap[k]?:=fun k hk=>World.putObj_heap_other hk
 refine ⟨⟨h.below.os,h.below.tape,h.below.output,by rw [World.putObj_size];exact h.below.size,fun k hk hx=>?_,h.below.dr,fun k hk=>(h.below.maps k hk).trans ?_⟩,h.i0,h.iB,fun b o2 x hx=>?_,h.m0,h.nx,fun i B hB=>?_,h.inj,h.lt,h.gl⟩
 ·rw [b7 k (Ctx.mo hown hk hx)];exact h.below.block k hk hx
 ·by_cases e : k = r
  ·subst e;rw [hr];exact .no fun _ _ e=>by cases e
  ·exact .eq (b7 k e)
 ·have := h.rd b o2 x hx
  have hne:b≠r:=fun e=>by subst e;simp [World.cell?,hr] at this
  unfold World.cell? at this ⊢
  simp only at this ⊢
  rw [b7 b hne];exact this
 ·exact (h.live i B hB).mono (au.le_refl _) (Mu.le_refl _) (fun h=>h) (fun L' hL'=>b7 _ ((h.live i B hB).Wa hL' hr)) (fun _ _ h=>h)
def Ctx.side (Y:Ctx) (w:World) (ι:au) (μ:Mu) (r:Nat):Ctx:=⟨w,ι,μ,Y.ro,fun b=>Y.own b∧b≠r,Y.hid⟩
theorem Inv.into (h:Inv P Y ι μ H w) {r:Nat} {m:Option Nat} {s c:Nat} {seen:Array Nat} (hr:w.heap[r]?=some (.mapIter m s seen c)):Inv P (Y.side w ι μ r) ι μ H w :=
 ⟨IC.refl _ _,au.le_refl _,fun _ _ _ _=>rfl,h.rd,Mu.le_refl _,h.nx,fun id B hB=>(h.live id B hB).owns fun L hL ho=>.inr ⟨ho,(h.live id B hB).Wa hL hr⟩,h.inj,h.lt,h.dF⟩
theorem Inv.acK (h:Inv P Y ι μ H w) {r:Nat} (h2:Inv P (Y.side w ι μ r) ι' μ' H' w'):Inv P Y ι' μ' H' w':=by
 have hs:=h.below.size
 have hx2:∀k,k<Y.w0.heap.size→¬Y.x k→¬(Y.side w ι μ r).x k:=fun k hk hx hX=>by
  rcases hX.1 with h|h
  ·omega
  ·exact hx h
 have b2:=h2.below
 refine ⟨⟨b2.os.trans h.below.os,b2.tape.trans h.below.tape,b2.output.trans h.below.output,Nat.le_trans hs b2.size,fun k hk hx=>?_,Nat.le_trans h.below.dr b2.dr,fun k hk=>(h.below.maps k hk).trans (b2.maps k (Nat.lt_of_lt_of_le hk hs))⟩,
  au.le_trans h.i0 h2.i0,fun b o hb hx=>?_,h2.rd,Mu.le_trans h.m0 h2.m0,h2.nx,fun id B hB=>(h2.live id B hB).owns fun L _ ho=>?_,h2.inj,h2.lt,h.gl⟩
 ·exact (b2.block k (Nat.lt_of_lt_of_le hk hs) (hx2 k hk hx)).trans (h.below.block k hk hx)
 ·exact (h2.iB b o (Nat.lt_of_lt_of_le hb hs) (hx2 b hb hx)).trans (h.iB b o hb hx)
 ·rcases ho with ho | ho
  ·exact .inl (Nat.le_trans hs ho)
  ·exact ho.1
end
def zX {E α β : Type} (step : E → α → Option (α ⊕ β)) : List E → α → Option (α ⊕ β)
 |[],x=>some (.inl x)
 |e::r,x=>match step e x with
  |none=>none
  |some (.inl y)=>zX step r y
  |some (.inr b)=>some (.inr b)
def AW {E α : Type} (step : E → α → Option α) : List E → α → Option α
 |[],x=>some x
 |e::r,x=>match step e x with
  |none=>none
  |some y=>AW step r y
noncomputable def iL {E B:Type} (f:List E→Option B) (es:List E):Option B:=by
 classical exact if h:∃b,∀l:List E,l.Perm es→f l=some b then some h.choose else none
theorem oT {E B:Type} {f:List E→Option B} {es:List E} {b:B} (h:iL f es=some b):∀l:List E,l.Perm es→f l=some b:=by
 unfold iL at h
 split at h
 ·rename_i h';cases h;exact h'.choose_spec
 ·cases h
theorem gK {E B:Type} {f:List E→Option B} {es:List E} {b:B} (h:∀l:List E,l.Perm es→f l=some b):iL f es=some b:=by
 have h':∃b,∀l:List E,l.Perm es→f l=some b:=⟨b,h⟩
 unfold iL
 rw [dif_pos h']
 have h1:=h'.choose_spec es (.refl _)
 rw [h es (.refl _)] at h1
 exact h1.symm▸rfl
noncomputable def jS {α:Type} (a b:α):Bool:=@decide (a=b) (Classical.propDecidable _)
theorem Ec {α:Type} {a b:α} (h:jS a b=true):a=b:=by simpa [jS] using h
@[simp] theorem dK {α:Type} (a:α):jS a a=true:=by simp [jS]
def ew : List Nat → Env → Env
 |[],env=>env
 |t::r,env=>(t,.any)::ew r env
def Sw (e:Option Nat) (kt:Ty) (kg:Bool) (vt:Ty) (vg:Bool) (x:kt.den×vt.den) (env:Env):Env:=match e with
 |none=>env
 |some s=>(s,.cO [cD.jd kg (cD kt x.1),cD.jd vg (cD vt x.2)])::env
section
variable {P:Program} {N:Nat} {Y:Ctx} {ι ι':au} {μ μ':Mu} {H H':aI} {w w':World} {out:Option Nat} {base:Nat}
theorem qM : ∀ {cl : List Nat} {env : Env} {t : Nat}, get t (ew cl env) = .any ∨ get t (ew cl env) = get t env
 |[],env,t=>.inr rfl
 |s::r,env,t=>by
  rw [ew,cm]
  split
  ·exact .inl rfl
  ·exact qM
theorem eF.forget {env:Env} {tmps:Array Value} (h:eF ι μ env tmps) (cl:List Nat):eF ι μ (ew cl env) tmps:=fun t=>by
 rcases qM (cl:=cl) (env:=env) (t:=t) with e|e<;>rw [e]
 ·exact .any _
 ·exact h t
theorem eF.over {env:Env} {a:Act} (h:eF ι μ env a.tmps) {d:Nat} (hd:get d env = .any) (v:Value):eF ι μ env (a.put (some d) v).tmps:=fun t=>by
 by_cases e:d=t
 ·subst e;rw [hd];exact .any _
 ·have:(a.tmps.setIfInBounds d v).getD t undef=a.tmps.getD t undef:=by
   simp only [Array.getD_eq_getD_getElem?]
   rw [Array.getElem?_setIfInBounds_ne e]
  simp only [Act.put]
  rw [this];exact h t
theorem eR.over {S:St} {a:Act} (h:eR P N Y ι μ S a w) {d:Nat} (hd:get d S.env = .any) (v:Value):eR P N Y ι μ S (a.put (some d) v) w :=
 ⟨h.env.over hd v,by simp [Act.put,h.sz],h.inv,h.ms⟩
theorem Cj {a:Act} {d:Nat} {v:Value} (hd:d<a.tmps.size):(a.put (some d) v).tmps.getD d undef=v:=by simp [Act.put,Array.getD,hd]
theorem NW {a:Act} {d t:Nat} {v:Value} (h:d≠t):(a.put (some d) v).tmps.getD t undef=a.tmps.getD t undef:=by
 simp only [Act.put,Array.getD_eq_getD_getElem?]
 rw [Array.getElem?_setIfInBounds_ne h]
theorem Inv.name (h:Inv P Y ι μ H w) (L:Loc):Inv P Y ι (μ.set H.next L) ⟨H.next+1,H.bl⟩ w:=by
 have hn:=h.nx H.next (Nat.le_refl _)
 have hle:=Mu.fM (L:=L) hn
 have hne:∀id B,ax id H.bl=some B→id≠H.next:=fun id B hB=>Nat.ne_of_lt (h.lt id B hB)
 refine ⟨h.below,h.i0,h.iB,h.rd,Mu.le_trans h.m0 hle,fun id hid=>?_,fun id B hB=>?_,fun id id' B B' L1 L2 h1 h2 fq hm2 e=>?_,fun id B hB=>Nat.lt_succ_of_lt (h.lt id B hB),h.gl⟩
 ·simp only at hid
  unfold Mu.set;rw [if_neg (by omega)];exact h.nx id (by omega)
 ·exact (h.live id B hB).mono (au.le_refl _) hle (fun hm=>by unfold Mu.set;rw [if_neg (hne id B hB)];exact hm) (fun _ _=>rfl) (fun _ _ h=>h)
 ·unfold Mu.set at fq hm2
  rw [if_neg (hne id B h1)] at fq
  rw [if_neg (hne id' B' h2)] at hm2
  exact h.inj id id' B B' L1 L2 h1 h2 fq hm2 e
theorem gL {o:Oper} (h:o.guard=none) (f:Nat→Option Bool):Region.wanted o f=true:=by
 unfold Region.wanted;rw [h]
theorem GX {a b:Code} {hd:V0} (h:wT P N a b=some hd):∃(ia:Nat) (zY:Array Oper) (o:Oper) (rr:List Oper) (t:TypeId) (x:Operand) (b3 i2:Nat) (um:Array Oper) (o1 o2:Oper) (n ok:Nat) (y:Code),
  a = .region ia zY false∧zY.toList=rr++[o]∧o.op = .range t x∧o.dst=some hd.it∧o.guard=none∧hd.it<N∧kC P t=some (hd.kt,hd.kg,hd.vt,hd.vg)∧dG x=some hd.m∧ej P N zY rr=some hd.pre ∧
  b = .block hd.ql (.loop (.seq (.region i2 um false) (.seq (.cond (.tmp ok) .skip (.exit hd.ql)) (.block b3 y))))∧um.toList=[o1,o2]∧o1.op = .next (.tmp hd.it) false∧o1.dst=some n∧o1.guard=none ∧
  o2.op = .extract (.tmp n) 0∧o2.dst=some ok∧o2.guard=none∧n<N∧ok<N∧n≠hd.it∧ok≠hd.it∧hd.cl=[n,ok]∧hd.e=tP N hd.it y:=by
 unfold wT at h
 split at h<;>try (cases h;done)
 rename_i b1 x2 t b2 b3 y
 split at h<;>try (cases h;done)
 rename_i is m it kt vt vg h1
 split at h<;>try (cases h;done)
 rename_i n ok h2
 split at h<;>try (cases h;done)
 rename_i hc
 obtain ⟨e1,e2⟩:=hc
 subst e1;subst e2
 cases h
 unfold M5 at h1
 split at h1<;>try (cases h1;done)
 rename_i ia zY
 split at h1<;>try (cases h1;done)
 rename_i o rr hrev
 split at h1<;>try (cases h1;done)
 rename_i t x hop
 split at h1<;>try (cases h1;done)
 rename_i it' Sx
 split at h1<;>try (cases h1;done)
 rename_i hg
 split at h1<;>try (cases h1;done)
 rename_i MJ MK RK m' is' DO hx nH
 cases h1
 unfold M6 at h2
 split at h2<;>try (cases h2;done)
 rename_i i2 um
 split at h2<;>try (cases h2;done)
 rename_i o1 o2 hl
 split at h2<;>try (cases h2;done)
 rename_i i GY
 split at h2<;>try (cases h2;done)
 rename_i n' NX
 split at h2<;>try (cases h2;done)
 rename_i n2 K6
 split at h2<;>try (cases h2;done)
 rename_i ok' hd2
 split at h2<;>try (cases h2;done)
 rename_i V2
 obtain ⟨g1,g2,e1,e2,l1,l2,l3,l4⟩:=V2
 subst e1;subst e2
 cases h2
 have FX:zY.toList=rr.reverse++[o]:=by
  have:=congrArg List.reverse hrev
  simpa using this
 exact ⟨ia,zY,o,rr.reverse,t,x,b3,i2,um,o1,o2,_,_,y,rfl,FX,hop,Sx,hg.1,hg.2,DO,hx,nH,rfl,hl,GY,NX,g1,K6,hd2,g2,l1,l2,l3,l4,rfl,rfl⟩
end
section
variable {P:Program} {N:Nat} {Y:Ctx} {ι ι':au} {μ μ':Mu} {H H':aI} {w w':World} {out:Option Nat} {base:Nat}
theorem Sy {b1 i2 b3 ok:Nat} {um:Array Oper} {y:Code} {cb:C} (h:fI P N (.block b1 (.loop (.seq (.region i2 um false) (.seq (.cond (.tmp ok) .skip (.exit b1)) (.block b3 y)))))=some cb) :
  ∃cx cc cy,fI P N y=some cy∧cb = .block b1 (.loop (.seq cx (.seq cc (.block b3 cy)))):=by
 have h1:∀z,wT P N (.cond (.tmp ok) .skip (.exit b1)) z=none:=fun z=>by
  unfold wT
  split
  ·split
   ·rename_i h1;cases h1
   ·rfl
  ·rfl
 have h2:∀z u v,wT P N z (.seq u v)=none:=fun z u v=>rfl
 simp only [fI] at h
 cases hx:ej P N um um.toList with
 |none=>simp [hx] at h
 |some is =>
  simp only [hx] at h
  cases hy:fI P N y with
  |none=>simp [hy] at h
  |some cy =>
   simp only [hy,dG,Option.map_some,h1,h2] at h
   cases h
   exact ⟨_,_,cy,rfl,rfl⟩
theorem xZ {id:Nat} {K:Ex→St→Prop} {e:Exit} {a:Act} {w:World} (hp:Post P N Y (fun e S=>match e with
  | .normal=>K .normal S
  | .exit id'=>match Nat.beq id' id with
   |true=>K .normal S
   |false=>K (.exit id') S
  | .ret=>K .ret S) e a w):Exit.inBlock id (Post P N Y K) e a w:=by
 obtain ⟨Y1,hY,ι',μ',S',e',h1,h2,h3⟩:=hp
 cases e' with
 |normal=>cases h2;exact ⟨Y1,hY,ι',μ',S',.normal,h1,rfl,h3⟩
 |exit id' =>
  cases h2
  simp only [Exit.inBlock]
  simp only at h3
  split at h3
  ·rename_i B3
   rw [if_pos (Nat.eq_of_beq_eq_true B3)]
   exact ⟨Y1,hY,ι',μ',S',.normal,h1,rfl,h3⟩
  ·rename_i B3
   rw [if_neg (fun e=>by subst e;rw [Nat.beq_refl] at B3;cases B3)]
   exact ⟨Y1,hY,ι',μ',S',.exit id',h1,rfl,h3⟩
 |ret=>cases h2;exact ⟨Y1,hY,ι',μ',S',.ret,h1,rfl,h3⟩
theorem NY (ic : nG P N out base) {it b1 b3 : Nat} {y : Code} {cx cc cy bd : C} (K7 : fI P N y = some cy) (hbd : Iw (tP N it y) (.block b1 (.loop (.seq cx (.seq cc (.block b3 cy))))) = some bd) {S0 : St} {a : Act}
  (ho:kK Y out) (hb:Y.base base) (hR:eR P N Y ι μ S0 a w) {r:Nat} (hit:a.tmps.getD it undef = .pointer (some ⟨r,0,none⟩)) {kv vv:Value} (cI:(Instr.entry (.pointer (some ⟨r,0,none⟩))).run P w = .ok (.tuple #[kv,vv]) w)
  {kt vt:Ty} {kg vg:Bool} {x:kt.den×vt.den} (hk:Rel ι μ (cD.jd kg (cD kt x.1)) kv) (hv:Rel ι μ (cD.jd vg (cD vt x.2)) vv) {Q:Ex→St→Prop}
  (h:rP (gx P N out base) bd ⟨Sw (tP N it y) kt kg vt vg x S0.env,S0.H,S0.ms⟩ Q):(Code.block b3 y).wpIn Y.F 0 P (Post P N Y Q) a w:=by
 cases he:tP N it y with
 |none =>
  rw [he] at hbd h
  cases hbd
  exact gJ ic (.block b3 y) (c:=.block b3 cy) (by simp [fI,K7]) h Y ι μ a w ho hb hR
 |some s =>
  rw [he] at hbd h
  unfold tP at he
  split at he<;>try (cases he;done)
  rename_i ri ops rest
  split at he<;>try (cases he;done)
  rename_i o os hl
  split at he<;>try (cases he;done)
  rename_i i hop
  split at he<;>try (cases he;done)
  rename_i s' Sx
  split at he<;>try (cases he;done)
  rename_i hc
  obtain ⟨hg,hi,hs,hne⟩:=hc
  cases he
  subst hi
  -- the code
  simp only [fI] at K7
  cases nH:ej P N ops ops.toList with
  |none=>simp [nH] at K7
  |some is0 =>
   simp only [nH] at K7
   cases hcr:fI P N rest with
   |none=>simp [hcr] at K7
   |some cr =>
    simp only [hcr] at K7
    split at K7
    rotate_left
    ·rename_i hd2 _
     split at K7<;>try (cases K7;done)
     cases K7
     simp [Iw] at hbd
    cases K7
    rw [hl] at nH
    unfold ej at nH
    split at nH<;>try (cases nH;done)
    rename_i i0 is hi0 nH
    cases nH
    simp only [Iw] at hbd
    cases hbd
    simp only [rP] at h
    refine wpIn_block (wpIn_mono ?_ fun e a w hp=>xZ hp)
    refine wpIn_seq (wpIn_region ?_)
    have hsz:ops.size=os.length+1:=by rw [←Array.length_toList,hl];rfl
    rw [List.range_eq_range',hsz,List.range'_succ]
    have ho0:ops[0]?=some o:=by rw [←Array.getElem?_toList,hl];rfl
    have aj:a.eval (.tmp i) = .pointer (some ⟨r,0,none⟩):=hit
    have hN:rL N o.dst=true:=by rw [Sx];simpa [rL] using hs
    refine uS (x := .tuple #[kv, vv]) (w' := w) (fun _ => trivial) rfl ho0 (gL hg _) (by rw [hop]; intro c; simp) (.inl (by
     unfold execOp;rw [hop];simp only [aj,Sem.run_bind,cI];rfl)) ?_
    have n9:eR P N Y ι μ ⟨Sw (some s) kt kg vt vg x S0.env,S0.H,S0.ms⟩ (a.put o.dst (.tuple #[kv,vv])) w:=by
     have := hR.put hN (au.le_refl _) (Mu.le_refl _) hR.inv (v := .cO [cD.jd kg (cD kt x.1), cD.jd vg (cD vt x.2)]) (x := .tuple #[kv, vv])
      (.cO _ _ rfl (fun i v x qH hx=>by
       match i with
       |0=>simp at qH hx;subst qH;subst hx;exact hk
       |1=>simp at qH hx;subst qH;subst hx;exact hv
       |i+2=>simp at qH))
     rw [Sx] at this ⊢
     exact this
    exact xE (Y:=Y) (out:=out) (base:=base) (k:=1) (Q:=Exit.then (rest.wpIn Y.F 0 P _) _) (fun ι μ S a w hR hK=>gJ ic rest hcr hK Y ι μ a w ho hb hR) nH (fun j=>by rw [←Array.getElem?_toList,hl,Nat.add_comm];simp) n9 h
end
section
variable {P:Program} {N:Nat} {Y:Ctx} {ι ι':au} {μ μ':Mu} {H H':aI} {w w':World} {out:Option Nat} {base:Nat}
theorem eY.at {kt vt : Ty} {kg vg : Bool} : ∀ {es : List (kt.den × vt.den)} {ms : List MapEntry}, eY ι kt kg vt vg es ms → ∀ {i : Nat} {m : MapEntry}, ms[i]? = some m → ∃ e, es[i]? = some e ∧ fW ι kg kt e.1 m.key ∧ fW ι vg vt e.2 m.val
 |[],_,h,i,m,hm=>by simp [eY] at h;subst h;simp at hm
 |e::es,_,⟨m0,r,rfl,h1,h2,h3⟩,i,m,hm=>by
  cases i with
  |zero=>simp at hm;subst hm;exact ⟨e,rfl,h1,h2⟩
  |succ i=>simpa using h3.at (i:=i) (by simpa using hm)
theorem Ed {E α β:Type} {step:E→α→Option (α ⊕ β)} {e:E} {r:List E} {x:α} {res:α ⊕ β} (h:zX step (e::r) x=some res) :
  (∃y,step e x=some (.inl y))∨∃b,step e x=some (.inr b)∧res = .inr b:=by
 simp only [zX] at h
 split at h
 ·cases h
 ·rename_i y e;exact .inl ⟨y,e⟩
 ·rename_i b e;cases h;exact .inr ⟨b,e,rfl⟩
theorem get_mem : ∀ {env : Env} {t : Nat} {v : V}, get t env = v → v ≠ .any → (t, v) ∈ env
 |[],t,v,h,hv=>absurd h.symm hv
 |(s,u)::r,t,v,h,hv=>by
  rw [cm] at h
  split at h
  ·rename_i e;subst e;subst h;exact List.mem_cons_self ..
  ·exact List.mem_cons_of_mem _ (get_mem h hv)
theorem I5 {π : List Nat} {cl : List Nat} {env : Env} {Hh : aI} {mss : List Nat} {S' : St} (h : jE base π ⟨ew cl env, Hh, mss⟩ S') {mn id bm : Nat} (hid : get mn env = .mp id) {kt vt : Ty} {kg vg : Bool} {es : List (kt.den × vt.den)}
  (Dn:jM Hh.bl kt kg vt vg id=some es) {L:Loc} (hL:μ id=some L) (XR:L.b=bm) (zJ:Nat) (h2:get mn S'.env = .mp zJ) :
  (∃L,(μ.ff π) zJ=some L∧L.b=bm)∧∀es',jM S'.H.bl kt kg vt vg zJ=some es'→es'=es:=by
 have aj:=h.env _ (get_mem h2 (by simp))
 try simp only at aj
 have hπ:π[zJ]?=some id:=by
  rcases qM (cl:=cl) (env:=env) (t:=mn) with e|e<;>rw [e] at aj
  ·cases aj
  ·rw [hid] at aj;cases aj with|mp _ _ hi=>exact hi
 refine ⟨⟨L,by simp [Mu.ff,hπ,hL],XR⟩,fun es' he'=>?_⟩
 obtain ⟨i,e1,hb⟩:=h.bl _ (dA (eo he'))
 try simp only at e1 hb
 rw [hπ] at e1;cases e1
 have K8:=eo Dn
 try simp only at K8
 rw [K8] at hb
 simp only [Option.some.injEq,lM.map.injEq,heq_eq_eq,true_and] at hb
 exact hb.symm
theorem kK.up {w:World} {ι:au} {r:Nat} (h:kK Y out) (hm:Y.m0.le μ):kK (Y.side w ι μ r) out:=by
 cases out with
 |none=>exact h
 |some o=>obtain ⟨Lo,h1,h2⟩:=h;exact ⟨Lo,hm _ _ h1,h2⟩
theorem Ext.lift {Ya Yb : Ctx} {r : Nat} (hinv : ∀ {ι : au} {μ : Mu} {H : aI} {w : World}, Inv P Ya ι μ H w → Inv P Yb ι μ H w) (hown : ∀ b, Ya.own b → Yb.own b) (hro : Yb.ro = Ya.ro) (hm0 : Yb.m0.le Ya.m0) (B6 : Yb.hid = Ya.hid)
  (hr:r<Ya.w0.heap.size∧¬Ya.own r) (hrb:Yb.own r) {Y1:Ctx} (h:Ext P Ya Y1) :
  ∃Y2,Ext P Yb Y2∧(∀{ι:au} {μ:Mu} {H:aI} {w:World},Inv P Y1 ι μ H w→Inv P Y2 ι μ H w)∧(∀b,Y1.own b→Y2.own b)∧Y2.ro=Y1.ro∧Y2.m0.le Y1.m0∧Y2.hid=Y1.hid∧(r<Y1.w0.heap.size∧¬Y1.own r)∧Y2.own r:=by
 induction h with
 |refl=>exact ⟨Yb,.refl Yb,hinv,hown,hro,hm0,B6,hr,hrb⟩
 |step h ro hI hr' own ih =>
  rename_i Y1 ι1 μ1 H1 w1 r'
  obtain ⟨Y2,e1,e2,e3,e4,e5,e6,e7,e8⟩:=ih
  have hlt:=(Array.getElem?_eq_some_iff.1 hr').1
  have hne:r≠r':=fun e=>by subst e;exact e7.2 own
  have hs:=hI.below.size
  refine ⟨Y2.vw w1 ι1 r',.step e1 (e4.trans ro) (e2 hI) hr' (e3 _ own),fun {ι μ H w} h=>?_,fun b hb=>?_,e4,e5,?_,⟨?_,fun hX=>?_⟩,.inr ⟨e8,hne⟩⟩
  ·have hx : ∀ b, (Y1.vw w1 ι1 r').x b → (Y2.vw w1 ι1 r').x b := fun b hb => ⟨e3 _ hb.1, hb.2⟩
   exact ⟨⟨h.below.os,h.below.tape,h.below.output,h.below.size,fun k hk hx'=>h.below.block k hk (fun hh=>hx' (hx _ hh)),h.below.dr,h.below.maps⟩,h.i0,fun b o hb hx'=>h.iB b o hb (fun hh=>hx' (hx _ hh)),h.rd,Mu.le_trans e5 h.m0,h.nx,
    fun id B hB=>(h.live id B hB).owns fun L _ ho=>ho.imp (fun h=>h) (hx _),h.inj,h.lt,h.gl⟩
  ·exact hb.imp (fun h=>h) fun h=>⟨e3 _ h.1,h.2⟩
  ·show r' :: Y2.hid = r' :: Y1.hid
   rw [e6]
  ·exact Nat.lt_of_lt_of_le e7.1 hs
  ·rcases hX with hX | hX
   ·have : w1.heap.size ≤ r := hX
    omega
   ·exact e7.2 hX.1
theorem KD.inj {t:Ty} {β:Type} {es:List (t.den×β)} (h:KD t es) {a b:t.den×β} (ha:a∈es) (hb:b∈es) (hab:dM t a.1 b.1=true):a=b:=by
 have haa:dM t a.1 a.1=true:=by
  have:=bS hab
  rw [←this] at hab;exact hab
 have h1:=nD (d:=a.2) h ha haa
 have h2:=nD (d:=a.2) h hb hab
 exact Prod.ext (bS hab) (h1.symm.trans h2)
theorem uo {ι ι' : au} : ∀ {t : Ty} {ks : List Kd} {x y : t.den} {vs : List Value}, bL t = some ks → ah ι t x vs → ah ι' t y vs → dM t x y = true
 | .unit,ks,x,y,vs,h,hx,hy=>rfl
 | .bool,ks,x,y,vs,h,hx,hy=>by simp only [ah] at hx hy;subst hx;simpa [dM] using hy
 | .str,ks,x,y,vs,h,hx,hy=>by
  simp only [ah] at hx hy;subst hx
  simp only [List.cons.injEq,Value.string.injEq,and_true] at hy
  subst hy;simp [dM]
 | .int k,ks,x,y,vs,h,hx,hy=>by simp only [ah] at hx hy;subst hx;simpa [dM] using hy
 | .list _,ks,x,y,vs,h,hx,hy=>by cases h
 | .cB _ _ _,ks,x,y,vs,h,hx,hy=>by cases h
 | .prod a b,ks,x,y,vs,h,hx,hy=>by
  simp only [bL] at h
  split at h<;>try (cases h;done)
  rename_i k1 k2 h1 h2
  obtain ⟨us,ws,e1,d1,d2⟩:=hx
  obtain ⟨us',ws',e2,d1',d2'⟩:=hy
  rw [e1] at e2
  obtain ⟨rfl,rfl⟩:=List.append_inj e2 (by rw [d1.length,d1'.length])
  simp only [dM,uo h1 d1 d1',uo h2 d2 d2',Bool.and_self]
theorem NZ {k:TypeId} {kt:Ty} {kg:Bool} (h:wS P k=some (kt,kg)):∃ks,bL kt=some ks:=by
 unfold wS at h
 split at h<;>try (cases h;done)
 ·cases h;exact ⟨_,rfl⟩
 ·cases h;exact ⟨_,rfl⟩
 ·split at h <;> try (cases h; done)
  split at h<;>try (cases h;done)
  rename_i hc
  cases h
  exact ⟨_,hc.1⟩
theorem K9 {g:Bool} {xs ys:List Value} {v:Value} (h1:iF g xs=some v) (h2:iF g ys=some v):xs=ys:=by
 cases g with
 |true =>
  simp only [iF,Option.some.injEq] at h1 h2
  subst h1
  simp only [Value.agg.injEq] at h2
  have:=congrArg Array.toList h2
  simpa using this.symm
 |false =>
  match xs,ys,h1,h2 with
  |[x],[y],h1,h2 =>
   simp only [iF,Option.some.injEq] at h1 h2
   rw [h1,h2]
  |[],_,h1,_=>simp [iF] at h1
  |_::_::_,_,h1,_=>simp [iF] at h1
  |[_],[],_,h2=>simp [iF] at h2
  |[_],_::_::_,_,h2=>simp [iF] at h2
theorem Sz {k:TypeId} {kt:Ty} {kg:Bool} (h:wS P k=some (kt,kg)) {x y:kt.den} {z:Value} (hx:fW ι kg kt x z) (hy:fW ι' kg kt y z):dM kt x y=true:=by
 obtain ⟨ks,hks⟩:=NZ h
 obtain ⟨xs,h1,h2⟩:=hx
 obtain ⟨ys,h3,h4⟩:=hy
 have:=K9 h2 h4
 subst this
 exact uo hks h1 h3
structure MI {α:Type} (P:Program) (N:Nat) (Y:Ctx) (I:α→St) (mn it:Nat) (kt:Ty) (kg:Bool) (vt:Ty) (vg:Bool) (es dH:List (kt.den×vt.den)) (kz:List Value) (bm r since:Nat) (bs todo:List Nat) (x:α) (a:Act) (w:World) (ι:au) (μ:Mu) (seen:Array Nat) (c0:Nat) (ms:Array MapEntry) (clock:Nat):Prop where
 rep:eR P N Y ι μ (I x) a w
 it:a.tmps.getD it undef = .pointer (some ⟨r,0,none⟩)
 own:Y.own r
 hr:w.heap[r]?=some (.mapIter (some bm) since seen c0)
 sc:since≤c0
 ck:since≤clock
 hm:w.heap[bm]?=some (.map ms clock)
 Wb:ms.toList.map (·.born)=bs
 hkz:ms.toList.map (·.key)=kz
 hke:∀(i:Nat) e z,dH[i]?=some e→kz[i]?=some z→fW ι kg kt e.1 z
 old:∀b∈bs,b<since
 nd:bs.Nodup
 len:dH.length=bs.length
 td:todo.Nodup
 left:∀i,i∈todo↔∃b,bs[i]?=some b∧b∉seen.toList
 here:∀id,get mn (I x).env = .mp id→(∃L,μ id=some L∧L.b=bm)∧∀es',jM (I x).H.bl kt kg vt vg id=some es'→es'=es
def Ee (ql : Nat) : Ex → Ex
 | .exit i=>match Nat.beq i ql with
  |true=>.normal
  |false=>.exit i
 |e=>e
theorem N4 {α:Type} (es:List α) (d:α):(List.range es.length).map (fun i=>es.getD i d)=es:=by
 apply List.ext_getElem
 ·simp
 ·intro i h1 h2;simp at h1;simp [List.getD,h1]
theorem Ef (ic : ∀ base, nG P N out base) {α β : Type} {I : α → St} {X : β → Ex × St} {pre : List eX} {mn it : Nat} {cl : List Nat} {e : Option Nat} {kt vt : Ty} {kg vg : Bool} {ql : Nat} {bd : C}
  {step:kt.den×vt.den→α→Option (α ⊕ β)} {aC:Nat} (hI:∀x s,s∈it::cl→get s (I x).env = .any) (IX:∀x,(I x).H.next=aC)
  (hstep:∀lY x r,step lY x=some r→∃id es',get mn (I x).env = .mp id∧jM (I x).H.bl kt kg vt vg id=some es' ∧
   rP (gx P N out (aC+1)) bd ⟨Sw e kt kg vt vg lY ((it,.ptr aC 0)::(I x).env),⟨aC+1,(I x).H.bl⟩,(I x).ms⟩ fun ex S'=>match r with
    | .inl y=>ex = .normal∧get it S'.env = .ptr aC 0∧get mn S'.env = .mp id∧jM S'.H.bl kt kg vt vg id=some es'∧∃π,jE base π ⟨ew (it::cl) S'.env,S'.H,S'.ms⟩ (I y)
    | .inr b=>ex ≠ .normal∧ex=(X b).1∧∃π,jE base π S' (X b).2)
  {S:St} {K:Ex→St→Prop}
  (hpre:fK (gx P N out base) pre S fun S1=>∃id es x π,get mn S1.env = .mp id∧jM S1.H.bl kt kg vt vg id=some es∧jE base π ⟨ew (it::cl) S1.env,S1.H,S1.ms⟩ (I x) ∧
   ∀l:List (kt.den×vt.den),l.Perm es→∃res,zX step l x=some res∧(match res with | .inl y=>K .normal (I y) | .inr b=>K (Ee ql (X b).1) (X b).2)) :
  (gx P N out base).gQ (.gQ pre (.t mn) it cl e kt kg vt vg ql bd) S K:=by
 intro ca cb htr hsome
 have htr0:=htr
 simp only [fI] at htr
 split at htr<;>try (cases htr;done)
 rename_i xa xb htra htrb
 split at htr
 ·rename_i hn;rw [hn] at hsome;cases hsome
 rename_i hd hmh
 split at htr<;>try (cases htr;done)
 rename_i Sg hbd
 obtain ⟨hpre',hm',qN,hcl',he',yb,Yo,zZ,Yp,AX⟩:=hd
 simp only [Option.some.injEq,C.gQ.injEq] at htr
 obtain ⟨rfl,rfl,rfl,rfl,rfl,rfl,rfl,rfl,rfl,rfl,rfl⟩:=htr
 obtain ⟨ia,zY,oA,rr,t,xo,b3,i2,um,o1,o2,n,ok,y,rfl,hlA,Yq,hdA,hgA,hitN,DO,MO,nH,rfl,FX,GY,NX,hg1,K6,hd2,hg2,hnN,hokN,hnit,Wc,zL,he⟩:=GX hmh
 simp only at Yq hdA hgA hitN DO MO nH GY hnit Wc zL he hbd
 subst zL
 obtain ⟨cx,cc,cy,K7,rfl⟩:=Sy htrb
 subst he
 intro Y ι μ a w hout hbase hR
 refine wpIn_seq (wpIn_region ?_)
 have hszA:zY.size=rr.length+1:=by rw [←Array.length_toList,hlA];simp
 have Yr:List.range zY.size=List.range' 0 rr.length++[rr.length]:=by
  rw [hszA,List.range_succ,List.range_eq_range']
 rw [Yr]
 refine ua (Y:=Y) (out:=out) (base:=base) (k:=0) (K:=fun S1=>∃id es x π,get mn S1.env = .mp id∧jM S1.H.bl yb Yo zZ Yp id=some es∧jE base π ⟨ew (qN::[n,ok]) S1.env,S1.H,S1.ms⟩ (I x) ∧
   ∀l:List (yb.den×zZ.den),l.Perm es→∃res,zX step l x=some res∧(match res with | .inl y=>K .normal (I y) | .inr b=>K (Ee AX (X b).1) (X b).2)) ?_ nH (fun j hj=>?_) hR hpre
 rotate_left
 ·rw [←Array.getElem?_toList,hlA,Nat.zero_add,List.getElem?_append_left (by assumption)]
 clear hR hpre
 intro ι μ S1 a w hR hK1
 obtain ⟨id,es,x,π,hmid,qO,cI,hres⟩:=hK1
 -- the iterator is made
 have hv:=hR.env mn
 rw [hmid] at hv
 generalize hav:a.tmps.getD mn undef=mv at hv
 cases hv with
 |mp _ L hL =>
 have hb:=eo qO
 obtain ⟨L',ms,clock,dH,q1,q2,q3,q4,q5,q6,hp0,hd0⟩:=hR.inv.live _ _ hb
 rw [hL] at q1;cases q1
 obtain ⟨kT,eT,huT,hkT,_⟩:=kJ DO
 have dI:a.eval xo = .map (some L.b):=by
  have:xo = .tmp mn:=by
   cases xo<;>simp only [dG] at MO
   ·cases MO;rfl
   ·split at MO<;>cases MO
   ·cases MO
   ·cases MO
  rw [this];exact hav
 have hoA:zY[rr.length]?=some oA:=by rw [←Array.getElem?_toList,hlA];simp
 refine uS (x := .pointer (some ⟨w.heap.size, 0, none⟩)) (w' := w.alloc (.mapIter (some L.b) clock #[] clock)) (fun _ => trivial) rfl hoA (gL hgA _) (by rw [Yq]; intro c; simp) (.inl (by
  unfold execOp;rw [Yq];simp only [dI,Sem.run_bind,run_range_map w t kT eT L.b ms clock huT q3];rfl)) ?_
 simp only [wpOpsIn]
 rw [hdA]
 have rF:eR P N Y ι μ ⟨ew (qN::[n,ok]) S1.env,S1.H,S1.ms⟩ (a.put (some qN) (.pointer (some ⟨w.heap.size,0,none⟩))) (w.alloc (.mapIter (some L.b) clock #[] clock)):=by
  have h1:eR P N Y ι μ ⟨ew (qN::[n,ok]) S1.env,S1.H,S1.ms⟩ a w:=⟨hR.env.forget _,hR.sz,hR.inv,hR.ms⟩
  have h2:=h1.over (d:=qN) (by simp [ew,get]) (.pointer (some ⟨w.heap.size,0,none⟩))
  exact ⟨h2.env,h2.sz,h2.inv.junk _,h2.ms⟩
 have n9:=cI.rep hbase rF
 have hlt:L.b<w.heap.size:=(Array.getElem?_eq_some_iff.1 q3).1
 have SA:MI P N Y I mn qN yb Yo zZ Yp es dH (ms.toList.map (·.key)) L.b w.heap.size clock (ms.toList.map (·.born)) (List.range dH.length) x (a.put (some qN) (.pointer (some ⟨w.heap.size,0,none⟩))) (w.alloc (.mapIter (some L.b) clock #[] clock)) ι (μ.ff π) #[] clock ms clock:=by
  refine ⟨n9,Cj (by rw [hR.sz];exact hitN),.inl hR.inv.below.size,heap_alloc_new _ _,Nat.le_refl _,Nat.le_refl _,(heap_alloc_old _ _ hlt).trans q3,rfl,rfl,fun i e z he hz=>?_,fun b hb=>?_,q6,?_,List.nodup_range,fun i=>?_,fun zJ h2=>?_⟩
  ·rw [List.getElem?_map] at hz
   cases hm:ms.toList[i]? with
   |none=>rw [hm] at hz;cases hz
   |some m =>
    rw [hm] at hz;cases hz
    obtain ⟨e',he',hk,_⟩:=q4.at hm
    rw [he] at he';cases he'
    exact hk
  ·obtain ⟨m, hm, rfl⟩ := List.mem_map.1 hb
   exact q5 m hm
  ·rw [List.length_map,eY.length q4]
  ·have hlen := eY.length q4
   simp only [List.mem_range,List.not_mem_nil,not_false_eq_true,and_true]
   constructor
   ·intro hi
    exact ⟨_,List.getElem?_eq_getElem (show i<(ms.toList.map (·.born)).length by simp at hlen ⊢;omega)⟩
   ·rintro ⟨b, hb⟩
    have:=(List.getElem?_eq_some_iff.1 hb).1
    simp at this hlen;omega
  ·exact I5 cI hmid qO hL rfl zJ h2
 have hat0:∀J:List Nat,J.Perm (List.range dH.length)→∃res,zX step (J.map fun i=>dH.getD i (yb.zero,zZ.zero)) x=some res∧(match res with | .inl y=>K .normal (I y) | .inr b=>K (Ee AX (X b).1) (X b).2):=fun J hJ =>
  hres _ (((hJ.map _).trans (by rw [N4])).trans hp0)
 have hdE:KD yb es:=hd0.perm hp0
 clear hres rF n9 qO hmid cI q3 q5 q6 dI hoA hav hb hR hL hlt
 generalize (a.put (some qN) (.pointer (some ⟨w.heap.size,0,none⟩)))=a1 at SA ⊢
 generalize hw1:w.alloc (.mapIter (some L.b) clock #[] clock)=w1 at SA ⊢
 generalize w.heap.size=r at SA
 generalize Wb:ms.toList.map (·.born)=bs at SA
 generalize hkz:ms.toList.map (·.key)=kz at SA
 generalize L.b=bm at SA
 have hlen:dH.length=bs.length:=SA.len
 clear hw1 Wb hkz
 show Code.wpIn _ _ _ (.block AX _) _ _ _
 refine wpIn_block (wpIn_mono ?_ fun e a w hp=>xZ hp)
 refine wpIn_loop_ghost (fun (g:List Nat×α) a w=>(∃Y1,Ext P Y Y1∧∃ι μ seen c0 ms clock',MI P N Y1 I mn qN yb Yo zZ Yp es dH kz bm r clock bs g.1 g.2 a w ι μ seen c0 ms clock') ∧
  ∀J:List Nat,J.Perm g.1→∃res,zX step (J.map fun i=>dH.getD i (yb.zero,zZ.zero)) g.2=some res∧(match res with | .inl y=>K .normal (I y) | .inr b=>K (Ee AX (X b).1) (X b).2)) (fun g=>g.1.length) (x:=(List.range dH.length,x)) ⟨⟨Y,.refl Y,_,_,_,_,_,_,SA⟩,hat0⟩ ?_
 clear SA hat0
 rintro ⟨todo,x⟩ a w ⟨⟨Y0,Rt,ι,μ,seen,c0,ms,clock',M⟩,IG⟩
 simp only at M IG
 refine wpIn_seq (wpIn_region ?_)
 have hsz2:um.size=2:=by rw [←Array.length_toList,FX];rfl
 rw [show List.range um.size=[0,1] by rw [hsz2];rfl]
 have hO0:um[0]?=some o1:=by rw [←Array.getElem?_toList,FX];rfl
 have hO1:um[1]?=some o2:=by rw [←Array.getElem?_toList,FX];rfl
 have Ys:=M.rep.sz
 have Wd:a.eval (.tmp qN) = .pointer (some ⟨r,0,none⟩):=M.it
 have hold:∀m∈ms.toList,m.born<clock:=fun m hm=>M.old _ (by rw [←M.Wb];exact List.mem_map.2 ⟨m,hm,rfl⟩)
 have eG:∀v,get n (I x).env = .any∧get ok (I x).env = .any∧(a.put (some n) v).eval (.tmp n)=v:=fun v=>⟨hI x n (by simp),hI x ok (by simp),Cj (by rw [Ys];exact hnN)⟩
 rcases run_next_at (P:=P) w o1.type r bm clock c0 seen ms clock' M.hr M.hm hold M.sc with ⟨h0,hrun⟩|⟨en,hel,w1,hw1,hrun⟩
 ·refine uS (x := .tuple #[.bool false]) (w' := w) (fun _ => trivial) rfl hO0 (gL hg1 _) (by rw [GY]; intro c; simp) (.inl (by
   unfold execOp;rw [GY];simp only [Wd,Sem.run_bind,hrun];rfl)) ?_
  rw [NX]
  refine uS (x := .bool false) (w' := w) (fun _ => trivial) rfl hO1 (gL hg2 _) (by rw [K6]; intro c; simp) (.inl (by
   unfold execOp;rw [K6];simp only [(eG _).2.2];simp [Instr.extract])) ?_
  rw [hd2]
  simp only [wpOpsIn]
  show Code.wpIn _ _ _ (.seq _ _) _ _ _
  refine wpIn_seq (wpIn_cond_false (Cj (by simpa [Act.put,Ys] using hokN)) (wpIn_exit ?_))
  have acP:todo=[]:=by
   cases htd:todo with
   |nil=>rfl
   |cons i _ =>
    exfalso
    obtain ⟨b,jh,eW⟩:=(M.left i).1 (by rw [htd];exact List.mem_cons_self ..)
    rw [←M.Wb,List.getElem?_map] at jh
    cases Ru:ms.toList[i]? with
    |none=>rw [Ru] at jh;cases jh
    |some m =>
     rw [Ru] at jh;cases jh
     have:m∈leftOf ms seen:=by
      simp only [leftOf,Array.mem_filter]
      exact ⟨by simpa using List.mem_of_getElem? Ru,by simpa using eW⟩
     have hp:=Array.size_pos_of_mem this
     omega
  subst acP
  obtain ⟨res,hr,hK⟩:=IG [] (.refl _)
  simp only [List.map_nil,zX,Option.some.injEq] at hr
  subst hr
  refine ⟨Y0,Rt,ι,μ,I x,.exit AX,?_,rfl,?_⟩
  ·have h1 := (M.rep.over (eG .nilFunc).1 (.tuple #[.bool false])).over (eG .nilFunc).2.1 (.bool false)
   exact h1
  ·simp only [Nat.beq_refl];exact hK
 ·-- an entry
  have Yt:w1.heap=w.heap:=by rcases hw1 with rfl|rfl<;>rfl
  have rF:eR P N Y0 ι μ (I x) a w1:=by
   rcases hw1 with rfl|rfl
   ·exact M.rep
   ·exact ⟨M.rep.env,M.rep.sz,M.rep.inv.drew,M.rep.ms⟩
  have DI:w1.heap[r]?=some (.mapIter (some bm) clock seen c0):=by rw [Yt];exact M.hr
  have fq:w1.heap[bm]?=some (.map ms clock'):=by rw [Yt];exact M.hm
  have hne:bm≠r:=fun e=>by subst e;rw [DI] at fq;cases fq
  have hrlt:r<w1.heap.size:=(Array.getElem?_eq_some_iff.1 DI).1
  change (Instr.next _ _ _).run P w = .ok _ (w1.putObj r (.mapIter (some bm) clock (seen.push en.born) clock')) at hrun
  generalize hw2:w1.putObj r (.mapIter (some bm) clock (seen.push en.born) clock')=w2 at hrun
  have DJ:w2.heap[r]?=some (.mapIter (some bm) clock (seen.push en.born) clock'):=by rw [←hw2];exact World.putObj_heap_same hrlt
  have hm2:w2.heap[bm]?=some (.map ms clock'):=by rw [←hw2,World.putObj_heap_other hne];exact fq
  have u7:Inv P Y0 ι μ (I x).H w2:=by rw [←hw2];exact rF.inv.side DI M.own _
  have acS:Y0.w0.heap.size≤w2.heap.size:=u7.below.size
  clear hw2 fq DI rF hw1 Yt hrlt
  refine uS (x := .tuple #[.bool true, en.key, en.val]) (w' := w2) (fun _ => trivial) rfl hO0 (gL hg1 _) (by rw [GY]; intro c; simp) (.inl (by
   unfold execOp;rw [GY];simp only [Wd,Sem.run_bind,hrun];rfl)) ?_
  rw [NX]
  refine uS (x := .bool true) (w' := w2) (fun _ => trivial) rfl hO1 (gL hg2 _) (by rw [K6]; intro c; simp) (.inl (by
   unfold execOp;rw [K6];simp only [(eG _).2.2];simp [Instr.extract])) ?_
  rw [hd2]
  simp only [wpOpsIn]
  show Code.wpIn _ _ _ (.seq _ _) _ _ _
  refine wpIn_seq (wpIn_cond_true (Cj (by simpa [Act.put,Ys] using hokN)) (wpIn_skip ?_))
  have hRa:eR P N Y0 ι μ (I x) ((a.put (some n) (.tuple #[.bool true,en.key,en.val])).put (some ok) (.bool true)) w2:=by
   have h1:=(M.rep.over (eG .nilFunc).1 (.tuple #[.bool true,en.key,en.val])).over (eG .nilFunc).2.1 (.bool true)
   exact ⟨h1.env,h1.sz,u7,h1.ms⟩
  have Yu:((a.put (some n) (.tuple #[.bool true,en.key,en.val])).put (some ok) (.bool true)).tmps.getD qN undef = .pointer (some ⟨r,0,none⟩):=by
   rw [NW Wc,NW hnit];exact M.it
  show Code.wpIn _ _ _ (.block b3 y) _ _ _
  generalize ((a.put (some n) (.tuple #[.bool true,en.key,en.val])).put (some ok) (.bool true))=a2 at hRa Yu
  -- which one
  have Yv:en∈ms.toList∧en.born∉seen.toList:=by
   have:en∈leftOf ms seen:=by simpa using hel
   simp only [leftOf,Array.mem_filter] at this
   exact ⟨by simpa using this.1,by simpa using this.2⟩
  obtain ⟨i,hi⟩:=List.getElem?_of_mem Yv.1
  have hbi:bs[i]?=some en.born:=by rw [←M.Wb,List.getElem?_map,hi];rfl
  have GZ:i∈todo:=(M.left i).2 ⟨_,hbi,Yv.2⟩
  have I6:∀J:List Nat,J.Perm (todo.erase i)→∃res,zX step (dH.getD i (yb.zero,zZ.zero)::J.map fun i=>dH.getD i (yb.zero,zZ.zero)) x=some res∧(match res with | .inl y=>K .normal (I y) | .inr b=>K (Ee AX (X b).1) (X b).2):=fun J hJ =>
   IG (i::J) ((hJ.cons i).trans (List.perm_cons_erase GZ).symm)
  have hs1:∃q,step (dH.getD i (yb.zero,zZ.zero)) x=some q:=by
   obtain ⟨res,hr,_⟩:=I6 _ (.refl _)
   rcases Ed hr with ⟨y,hy⟩|⟨b,hb,_⟩
   ·exact ⟨_,hy⟩
   ·exact ⟨_,hb⟩
  obtain ⟨q,hq⟩:=hs1
  obtain ⟨id,es',hmid,qO,hwp⟩:=hstep _ _ _ hq
  obtain ⟨⟨L,hL,XR⟩,Dn⟩:=M.here id hmid
  have:=Dn es' qO
  subst this
  obtain ⟨L',ms2,ck2,FZ,z1,z2,z3,z4,z5,z6,z7,z8⟩:=u7.live id _ (eo qO)
  rw [hL] at z1;cases z1
  rw [XR,hm2] at z3;cases z3
  obtain ⟨e0,he0,hk,hv⟩:=z4.at hi
  have hat:dH.getD i (yb.zero,zZ.zero)=e0:=by
   have hil:i<dH.length:=by
    have:=(List.getElem?_eq_some_iff.1 hbi).1
    rw [M.len];exact this
   have h1:dH[i]?=some dH[i]:=List.getElem?_eq_getElem hil
   have h2:=M.hke i _ en.key h1 (by rw [←M.hkz,List.getElem?_map,hi];rfl)
   have h3:=hdE.inj (hp0.mem_iff.1 (List.getElem_mem hil)) (z7.mem_iff.1 (List.mem_of_getElem? he0)) (Sz hkT h2 hk)
   rw [List.getD_eq_getElem?_getD,h1]
   exact h3
  rw [hat] at hq hwp I6
  have hx0:=IX x
  let L0:Loc:=⟨r,0,0,0⟩
  have N5:Inv P Y0 ι (μ.set aC L0) ⟨aC+1,(I x).H.bl⟩ w2:=by rw [←hx0];exact u7.name L0
  have hnone:μ aC=none:=by rw [←hx0];exact u7.nx _ (Nat.le_refl _)
  have hle:=Mu.fM (L:=L0) hnone
  have hRs:eR P N (Y0.side w2 ι (μ.set aC L0) r) ι (μ.set aC L0) ⟨(qN,.ptr aC 0)::(I x).env,⟨aC+1,(I x).H.bl⟩,(I x).ms⟩ a2 w2:=by
   refine ⟨fun t=>?_,hRa.sz,N5.into DJ,hRa.ms.mono hle⟩
   rw [cm]
   split
   ·rename_i e; subst e
    rw [Yu]
    have:=Rel.ptr (ι:=ι) (μ:=μ.set aC L0) aC 0 L0 (by simp [Mu.set])
    exact this
   ·exact (hRa.env t).mono (au.le_refl _) hle
  have cI:=run_entry_at (P:=P) w2 r bm clock seen ms clock' en DJ hm2 Yv.1 (by rw [M.Wb];exact M.nd)
  have N6:kK (Y0.side w2 ι (μ.set aC L0) r) out:=(Rt.X0 hout).up (Mu.le_trans M.rep.inv.m0 hle)
  have iM:(Y0.side w2 ι (μ.set aC L0) r).base (aC+1):=fun id hid=>N5.nx id hid
  have hF:(Y0.side w2 ι (μ.set aC L0) r).F=Y.F:=Rt.F
  rw [←hF]
  refine wpIn_mono (NY (Y:=Y0.side w2 ι (μ.set aC L0) r) (ic (aC+1)) K7 hbd N6 iM hRs Yu cI (hk.rel) (hv.rel) hwp) fun e3 a3 w3 hp=>?_
  obtain ⟨Y1,NI,ι3,μ3,S3,ex,MN,I2,Si⟩:=hp
  have qs:Inv P (Y0.side w2 ι (μ.set aC L0) r) ι3 μ3 S3.H w3:=NI.inv MN.inv
  have SB:(μ.set aC L0).le μ3:=qs.m0
  have acU:=(Array.getElem?_eq_some_iff.1 DJ).1
  obtain ⟨Y2,hY2,N7,-,-,-,B6,-,N8⟩:=NI.lift (Yb:=Y0) (r:=r) (fun h=>N5.acK h) (fun b hb=>by
   rcases hb with hb|hb
   ·exact .inl (Nat.le_trans acS hb)
   ·exact hb.1) rfl (Mu.le_trans M.rep.inv.m0 hle) rfl ⟨acU,fun h=>by
    rcases h with h|h
    ·have : w2.heap.size ≤ r := h
     omega
    ·exact h.2 rfl⟩ M.own
  have hYt:=Rt.trans hY2
  have I7:Inv P Y2 ι3 μ3 S3.H w3:=N7 MN.inv
  have hms3:jD Y2.hid μ3 S3.ms a3.defers:=by rw [B6];exact MN.ms
  cases q with
  |inr b =>
   obtain ⟨hne3,hex,π3,I8⟩:=Si
   obtain ⟨res,hr,hK⟩:=I6 _ (.refl _)
   have hres:res = .inr b:=by
    rcases Ed hr with ⟨y,hy⟩|⟨b',hb,h⟩
    ·rw [hq] at hy;cases hy
    ·rw [hq] at hb;cases hb;exact h
   subst hres
   have hRb:=I8.rep (hYt.uQ hbase) (⟨MN.env,MN.sz,I7,hms3⟩:eR P N Y2 ι3 μ3 S3 a3 w3)
   subst hex
   simp only at hK
   generalize hxb:(X b).1=xb at hK I2 hne3
   cases xb with
   |normal=>exact absurd rfl hne3
   |exit i' =>
    cases I2
    refine ⟨Y2,hYt,ι3,_,_,.exit i',hRb,rfl,?_⟩
    simp only [Ee] at hK
    split at hK
    ·rename_i hb;simp only [hb];exact hK
    ·rename_i hb;simp only [hb];exact hK
   |ret=>cases I2;exact ⟨Y2,hYt,ι3,_,_,.ret,hRb,rfl,hK⟩
  |inl y =>
   obtain ⟨rfl,hit3,hmn3,Ck,π3,I8⟩:=Si
   cases I2
   have hRf:eR P N Y2 ι3 μ3 ⟨ew (qN::[n,ok]) S3.env,S3.H,S3.ms⟩ a3 w3:=⟨MN.env.forget _,MN.sz,I7,hms3⟩
   have hRy:=I8.rep (hYt.uQ hbase) hRf
   have hbm3 : w3.heap[bm]? = some (.map ms clock') ∨ ∃ We ck3, w3.heap[bm]? = some (.map We ck3) := .inr (by
    obtain ⟨L3,We,ck3,es3,y1,y2,y3,_⟩:=I7.live id _ (eo Ck)
    rw [SB _ _ (hle _ _ hL)] at y1;cases y1
    exact ⟨We,ck3,by rw [←XR];exact y3⟩)
   obtain ⟨L3,We,ck3,es3,y1,y2,y3,y4,y5,y6,y7,_⟩:=I7.live id _ (eo Ck)
   rw [SB _ _ (hle _ _ hL)] at y1;cases y1
   rw [XR] at y3
   have acZ:bm<w2.heap.size:=(Array.getElem?_eq_some_iff.1 hm2).1
   have hgrow:=qs.below.maps bm acZ ms clock' hm2
   obtain ⟨ms4,ck4,g1,g2,g3⟩:=hgrow
   rw [y3] at g1;cases g1
   have hbk:(We.toList.map fun m=>(m.born,m.key))=ms.toList.map fun m=>(m.born,m.key):=by
    refine (g2.eq_of_length ?_).symm
    have h1:=u7.live id _ (eo qO)
    have h2:ms.toList.length=bs.length:=by rw [←M.Wb,List.length_map]
    rw [List.length_map,List.length_map,eY.length y4,y7.length_eq,←hp0.length_eq,hlen,h2]
   have xy:We.toList.map (·.born)=bs:=by
    have:=congrArg (List.map Prod.fst) hbk
    rw [←M.Wb];simpa [List.map_map,Function.comp_def] using this
   have hkeys:We.toList.map (·.key)=kz:=by
    have:=congrArg (List.map Prod.snd) hbk
    rw [←M.hkz];simpa [List.map_map,Function.comp_def] using this
   refine ⟨⟨todo.erase i,y⟩,⟨⟨Y2,hYt,ι3,_,seen.push en.born,clock',We,ck3,hRy,?_,N8,?_,M.ck,Nat.le_trans M.ck g3,y3,xy,hkeys,fun i e z he hz=>(M.hke i e z he hz).mono (fun b o x hx=>qs.i0 b o x hx),M.old,M.nd,M.len,M.td.erase i,fun j=>?_,?_⟩,fun J hJ=>?_⟩,?_⟩
   ·have := MN.env qN
    rw [hit3] at this
    generalize a3.tmps.getD qN undef=tv at this ⊢
    cases this with
    |ptr _ _ L4 h4 =>
     rw [SB aC L0 (by simp [Mu.set])] at h4
     cases h4
     rfl
   ·have := qs.below.block r (Array.getElem?_eq_some_iff.1 DJ).1 (fun h => h.2 rfl)
    rw [this];exact DJ
   ·rw [List.Nodup.mem_erase_iff M.td, M.left j]
    simp only [Array.toList_push,List.mem_append,List.mem_singleton]
    constructor
    ·rintro ⟨hj, b, hb, hs⟩
     refine ⟨b,hb,fun h=>?_⟩
     rcases h with h|h
     ·exact hs h
     ·subst h
      exact hj ((List.getElem?_inj (List.getElem?_eq_some_iff.1 hb).1 M.nd).1 (hb.trans hbi.symm))
    ·rintro ⟨b, hb, hs⟩
     refine ⟨fun e=>?_,b,hb,fun h=>hs (.inl h)⟩
     subst e
     rw [hbi] at hb;cases hb
     exact hs (.inr rfl)
   ·exact fun zJ h2=>I5 I8 hmn3 Ck (SB _ _ (hle _ _ hL)) XR zJ h2
   ·obtain ⟨res, h, hK⟩ := I6 J hJ
    simp only [zX,hq] at h
    exact ⟨res,h,hK⟩
   ·rw [List.length_erase_of_mem GZ]
    have:=List.length_pos_of_mem GZ
    show todo.length - 1<todo.length
    omega
end
end Go.AM
end
section
namespace Go.AM
structure Kz (R:Type) where
 br:Bool→R→R→R
 am:R→R→R
 nd:Bool→R→R
 no:R
 bd:{A:Type}→Option A→(A→R)→R
 sm:{A B:Type}→A ⊕ B→(A→R)→(B→R)→R
 an:{E:Type}→List E→(List E→R)→R
noncomputable def need {X:Type} (c:Bool) (x:Option X):Option X:=@ite _ (c=true) (Classical.propDecidable _) x none
noncomputable def u9 {X:Type} (c:Bool) (x y:Option X):Option X:=@ite _ (c=true) (Classical.propDecidable _) x y
noncomputable def Eg {X:Type} (x y:Option X):Option X:=@ite _ (x=y) (Classical.propDecidable _) x none
noncomputable def cW {A X:Type} (o:Option A) (f:A→Option X):Option X:=@dite _ (∃a,o=some a) (Classical.propDecidable _) (fun h=>f h.choose) (fun _=>none)
@[reducible] noncomputable def iN (X:Type):Kz (Option X) where
 br c a b:=u9 c a b
 am a b:=Eg a b
 nd c a:=need c a
 no:=none
 bd o f:=cW o f
 sm s f g:=match s with
  | .inl a=>f a
  | .inr b=>g b
 an es f:=iL f es
theorem La {X:Type} {x y:Option X} {r:X} (h:Eg x y=some r):x=some r∧y=some r:=by
 unfold Eg at h
 split at h
 ·rename_i e;exact ⟨h,e▸h⟩
 ·cases h
@[simp] theorem AY {X:Type} {x:Option X}:Eg x x=x:=by unfold Eg;rw [if_pos rfl]
theorem gA {X:Type} {c:Bool} {x:Option X} (h:c=true):need c x=x:=by unfold need;rw [if_pos h]
@[simp] theorem af {X:Type} {x:Option X}:need true x=x:=gA rfl
@[simp] theorem Yw {X:Type} {x:Option X}:need false x=none:=by unfold need;rw [if_neg (by simp)]
@[simp] theorem aO {X:Type} {x y:Option X}:u9 true x y=x:=by unfold u9;rw [if_pos rfl]
@[simp] theorem aV {X:Type} {x y:Option X}:u9 false x y=y:=by unfold u9;rw [if_neg (by simp)]
@[simp] theorem aD {A X:Type} {a:A} {f:A→Option X}:cW (some a) f=f a:=by
 have h:∃b,some a=some b:=⟨a,rfl⟩
 unfold cW;rw [dif_pos h]
 have:=h.choose_spec
 rw [←Option.some.inj this]
@[simp] theorem pT {A X:Type} {f:A→Option X}:cW none f=none:=by
 unfold cW;rw [dif_neg];rintro ⟨a,h⟩;cases h
theorem cU {X:Type} {c:Bool} {x:Option X} {r:X} (h:need c x=some r):c=true∧x=some r:=by
 cases c<;>simp at h ⊢;exact h
theorem qP {A X:Type} {o:Option A} {f:A→Option X} {r:X} (h:cW o f=some r):∃a,o=some a∧f a=some r:=by
 cases o<;>simp at h ⊢;exact h
theorem pU {X A:Type} {o:Option A} {f:A→Option X} {r:X} (h:(iN X).bd o f=some r):∃a,o=some a∧f a=some r:=qP h
theorem iO {X:Type} {c:Bool} {x y:Option X} {r:X} (h:u9 c x y=some r):(c=true∧x=some r)∨(c=false∧y=some r):=by
 cases c<;>simp at h ⊢<;>exact h
section
variable {R:Type}
def fV (v:V) (k:V→R):R:=match v with
 | .any=>k .any
 | .tf b=>match b with
  |true=>k (.tf true)
  |false=>k (.tf false)
 | .bool b=>k (.bool b)
 | .int ik n=>k (.int ik n)
 | .str s=>k (.str s)
 | .eH=>k .eH
 | .cL=>k .cL
 | .fu=>k .fu
 | .eU t xs=>k (.eU t xs)
 | .cq=>k .cq
 | .sl id t lo n=>k (.sl id t lo n)
 | .ptr id off=>k (.ptr id off)
 | .fH cs=>k (.fH cs)
 | .ep id t i p=>k (.ep id t i p)
 | .ip t x=>k (.ip t x)
 | .fn f a b=>k (.fn f a b)
 | .yl id=>k (.yl id)
 | .agg cs=>k (.agg cs)
 | .cO vs=>k (.cO vs)
 | .cB t v=>k (.cB t v)
 | .cb c=>k (.cb c)
 | .mp id=>k (.mp id)
 | .cH=>k .cH
 | .pa id t n=>k (.pa id t n)
 | .lN t xs=>k (.lN t xs)
 | .sp id o l=>k (.sp id o l)
theorem oa (v:V) (k:V→R):fV v k=k v:=by
 cases v<;>try rfl
 rename_i b;cases b<;>rfl
def fN (n:Nat) (k:Nat→R):R:=match n with
 |0=>k 0
 |n+1=>k (n+1)
theorem gb (n:Nat) (k:Nat→R):fN n k=k n:=by cases n<;>rfl
def vB (d:Option Nat) (v:V) (env:Env) (k:Env→R):R:=match d with
 |some t=>k ((t,v)::env)
 |none=>k env
theorem lZ (d:Option Nat) (v:V) (env:Env) (k:Env→R):vB d v env k=k (put d v env):=by cases d<;>rfl
def qt (id : Nat) : aq → (aq → R) → R
 |[],k=>k []
 |(s,b)::r,k=>match Nat.beq s id with
  |true=>qt id r k
  |false=>qt id r fun r'=>k ((s,b)::r')
theorem kR (id : Nat) : ∀ (bl : aq) (k : aq → R), qt id bl k = k (bE id bl)
 |[],k=>rfl
 |(s,b)::r,k=>by
  simp only [qt,bE]
  split<;>rename_i h<;>simp only [h]<;>exact kR id r _
def ig : eL → aq → (aq → R) → R
 |[],bl,k=>k bl
 |(id,none)::r,bl,k=>qt id bl fun bl=>ig r bl k
 |(id,some b)::r,bl,k=>qt id bl fun bl=>ig r ((id,b)::bl) k
theorem gh : ∀ (u : eL) (bl : aq) (k : aq → R), ig u bl k = k (bG u bl)
 |[],_,_=>rfl
 |(id,none)::r,bl,k=>by simp only [ig,kR,bG];exact gh r _ k
 |(id,some b)::r,bl,k=>by simp only [ig,kR,bG];exact gh r _ k
def r9 (kz : Kz R) : List Bool → R → R
 |[],k=>k
 |b::r,k=>kz.nd b (r9 kz r k)
structure Cx where
 pc:{R:Type}→Kz R→Nat→List V→(V→R)→R
 ca:{R:Type}→Kz R→Nat→List V→Nat→aq→(V→Nat→aq→R)→R
 rd:{R:Type}→Kz R→Nat→List V→Nat→aq→(V→Nat→aq→R)→R
 op:Nat:=0
structure Cx.Ok (P:Program) (cx:Cx):Prop where
 Wg:∀{X:Type} {f:Nat} {vs:List V} {K:V→Option X} {r:X},cx.pc (iN X) f vs K=some r→∃v,gW P f vs v∧K v=some r
 SC:∀{X:Type} {f:Nat} {vs:List V} {nx:Nat} {bl:aq} {K:V→Nat→aq→Option X} {r:X},cx.ca (iN X) f vs nx bl K=some r →
  ∀{Q:V→aI→Prop},(∀v nx bl,K v nx bl=some r→Q v ⟨nx,bl⟩)→gY P f vs ⟨nx,bl⟩ Q
 Yx:∀{X:Type} {id:Nat} {vs:List V} {nx:Nat} {bl:aq} {K:V→Nat→aq→Option X} {r:X},cx.rd (iN X) id vs nx bl K=some r →
  ∀{Q:V→aI→Prop},(∀v nx bl,K v nx bl=some r→Q v ⟨nx,bl⟩)→around P id vs ⟨nx,bl⟩ Q
def Cx.nq (cx:Cx) (n:Nat):Cx:={ cx with op:=n }
def Cl (kz:Kz R) (g:Option (Nat×Bool)) (env:Env) (skip run:Env→R):R:=match g with
 |none=>run env
 |some (s,b)=>match get s env with
  | .tf c=>match c,b with
   |true,true=>run env
   |false,false=>run env
   |true,false=>skip env
   |false,true=>skip env
  | .bool c => kz.br c
   (match b with
    |true=>run ((s,.tf true)::env)
    |false=>skip ((s,.tf true)::env))
   (match b with
    |false=>run ((s,.tf false)::env)
    |true=>skip ((s,.tf false)::env))
  | .cO _=>skip env
  |_=>kz.no
def Wh (kz:Kz R) (op:Nat) (ar:Ar) (bl:aq) (k:aq→R):R:=match op with
 |0=>k bl
 |n+1=>match (match n with
   |0=>MZ bl
   |_+1=>BH bl) with
  |[]=>k bl
  |ids=>match ML ar ids bl with
   |some u=>ig u bl k
   |none=>kz.no
def dmOp : Nat → Nat
 |0=>0
 |_+1=>1
def kI (kz : Kz R) (cx : Cx) (ar : Ar) : List eX → Env → Nat → aq → (Env → Nat → aq → R) → R
 |[],env,nx,bl,K=>K env nx bl
 | .op d g i::r,env,nx,bl,K=>Cl kz g env (fun env=>vB d (.cO []) env fun env=>kI kz cx ar r env nx bl K) fun env =>
   match cx.op with
   |0=>(match V9 ar i env bl nx with
    |some (ob,v,u)=>r9 kz ob (fV v fun v=>vB d v env fun env=>match i.lays with
     |true=>fN (nx+1) fun nx=>ig u bl fun bl=>kI kz cx ar r env nx bl K
     |false=>ig u bl fun bl=>kI kz cx ar r env nx bl K)
    |none=>kz.no)
   |_+1=>match zQ ar i env bl nx with
    |some (ob,v,u)=>r9 kz ob (fV v fun v=>vB d v env fun env=>match i.lays with
     |true=>fN (nx+1) fun nx=>ig u bl fun bl=>kI kz cx ar r env nx bl K
     |false=>ig u bl fun bl=>kI kz cx ar r env nx bl K)
    |none=>match V9 ar i env bl nx with
     |some (ob,v,u)=>r9 kz ob (fV v fun v=>vB d v env fun env=>match i.lays with
      |true=>fN (nx+1) fun nx=>ig u bl fun bl=>kI kz cx ar r env nx bl K
      |false=>ig u bl fun bl=>kI kz cx ar r env nx bl K)
     |none=>Wh kz 1 ar bl fun bl=>match V9 ar i env bl nx with
      |some (ob,v,u)=>r9 kz ob (fV v fun v=>vB d v env fun env=>match i.lays with
       |true=>fN (nx+1) fun nx=>ig u bl fun bl=>kI kz cx ar r env nx bl K
       |false=>ig u bl fun bl=>kI kz cx ar r env nx bl K)
      |none=>kz.no
 | .call d g f a tys::r,env,nx,bl,K=>Cl kz g env (fun env=>vB d (.cO []) env fun env=>kI kz cx ar r env nx bl K) fun env=>Wh kz (dmOp cx.op) ar bl fun bl =>
   match f.ev env with
   | .fn f fs cs=>cx.ca kz f (fs++cT tys (a.map (·.ev env))++cs) nx bl fun v nx bl=>fV v fun v=>vB d v env fun env=>kI kz cx ar r env nx bl K
   | .yl id=>cx.rd kz id (cT tys (a.map (·.ev env))) nx bl fun v nx bl=>fV v fun v=>vB d v env fun env=>kI kz cx ar r env nx bl K
   |_=>kz.no
def AZ (kz:Kz R) (gs:List Nat) (d:Option Nat) (v:V) (env:Env) (K:Env→R):R:=match d with
 |none=>K env
 |some t=>match BN t gs with
  |false=>K ((t,v)::env)
  |true=>match v with
   | .bool c=>kz.br c (K ((t,.tf true)::env)) (K ((t,.tf false)::env))
   |v=>K ((t,v)::env)
def Rv (kz : Kz R) (cx : Cx) (ar : Ar) (gs : List Nat) (b : Nat) : List eX → Nat → Env → aq → List DR → (Env → aq → List DR → R) → R
 |[],_,env,bl,di,K=>K env bl di
 | .op d g i::r,k,env,bl,di,K=>match IA g env with
  |some true=>match (match cx.op with
    |0=>none
    |_+1=>zQ ar i env bl (b+k)) with
   |some (ob,v,u)=>r9 kz ob (fV v fun v=>AZ kz gs d v env fun env'=>ig u bl fun bl=>Rv kz cx ar gs b r (k+1) env' bl (wU k (nA i env) (u.map (·.1)) di) K)
   |none=>match V9 ar i env bl (b+k) with
    |some (ob,v,u)=>r9 kz ob (fV v fun v=>AZ kz gs d v env fun env'=>ig u bl fun bl=>Rv kz cx ar gs b r (k+1) env' bl (wU k (nA i env) (u.map (·.1)) di) K)
    |none=>kz.no
  |some false=>vB d (.cO []) env fun env=>Rv kz cx ar gs b r (k+1) env bl di K
  |none=>kz.no
 | .call d g f a tys::r,k,env,bl,di,K=>match IA g env with
  |some true=>match f.ev env with
   | .fn f fs cs=>match fs++cT tys (a.map (·.ev env))++cs with
    |vs=>match dw (fin ar bl 8) vs with
     |some vs'=>cx.pc kz f vs' fun x=>fV x fun x=>match DB x||vs.all (dQ 8) with
      |true=>AZ kz gs d x env fun env'=>Rv kz cx ar gs b r (k+1) env' bl (wU k (jN bl vs) [] di) K
      |false=>match wV (jN bl vs) bl with
       |some u=>AZ kz gs d x env fun env'=>ig u bl fun bT=>Rv kz cx ar gs b r (k+1) env' bT (wU k (jN bl vs) (u.map (·.1)) di) K
       |none=>kz.no
     |none=>kz.no
   |_=>kz.no
  |some false=>vB d (.cO []) env fun env=>Rv kz cx ar gs b r (k+1) env bl di K
  |none=>kz.no
end
abbrev Kc (R:Type):=Ex→Env→Nat→aq→List Nat→R
structure bQ (P:Program) (N:Nat) (out:Option Nat) (base:Nat):Type 1 where
 c:C
 run:{R:Type}→Kz R→Env→Nat→aq→List Nat→Kc R→R
 ok:∀{X:Type} {env:Env} {nx:Nat} {bl:aq} {ms:List Nat} {K:Kc (Option X)} {r:X},run (iN X) env nx bl ms K=some r →
  ∀{Q:Ex→St→Prop},(∀e env nx bl ms,K e env nx bl ms=some r→Q e ⟨env,⟨nx,bl⟩,ms⟩)→(gx P N out base).loop c ⟨env,⟨nx,bl⟩,ms⟩ Q
structure gB (P:Program) (N:Nat) (out:Option Nat) (base:Nat):Type 1 where
 f:O
 ps:List Nat
 a:C
 b:C
 run:{R:Type}→Kz R→Env→Nat→aq→List Nat→Kc R→R
 ok:∀{X:Type} {env:Env} {nx:Nat} {bl:aq} {ms:List Nat} {K:Kc (Option X)} {r:X},run (iN X) env nx bl ms K=some r →
  ∀{Q:Ex→St→Prop},(∀e env nx bl ms,K e env nx bl ms=some r→Q e ⟨env,⟨nx,bl⟩,ms⟩)→(gx P N out base).bM f ps a b ⟨env,⟨nx,bl⟩,ms⟩ Q
structure sg (P:Program) (N:Nat) (out:Option Nat) (base:Nat):Type 1 where
 pre:List eX
 m:O
 it:Nat
 cl:List Nat
 e:Option Nat
 kt:Ty
 kg:Bool
 vt:Ty
 vg:Bool
 ql:Nat
 b:C
 run:{R:Type}→Kz R→Env→Nat→aq→List Nat→Kc R→R
 ok:∀{X:Type} {env:Env} {nx:Nat} {bl:aq} {ms:List Nat} {K:Kc (Option X)} {r:X},run (iN X) env nx bl ms K=some r →
  ∀{Q:Ex→St→Prop},(∀e env nx bl ms,K e env nx bl ms=some r→Q e ⟨env,⟨nx,bl⟩,ms⟩)→(gx P N out base).gQ (.gQ pre m it cl e kt kg vt vg ql b) ⟨env,⟨nx,bl⟩,ms⟩ Q
structure He (P:Program) (N:Nat) (out:Option Nat) (base:Nat) (f:O) (ps:List Nat) (a b:C):Type 1 where
 run:{R:Type}→Kz R→Env→Nat→aq→List Nat→Kc R→R
 ok:∀{X:Type} {env:Env} {nx:Nat} {bl:aq} {ms:List Nat} {K:Kc (Option X)} {r:X},run (iN X) env nx bl ms K=some r →
  ∀{Q:Ex→St→Prop},(∀e env nx bl ms,K e env nx bl ms=some r→Q e ⟨env,⟨nx,bl⟩,ms⟩)→(gx P N out base).bM f ps a b ⟨env,⟨nx,bl⟩,ms⟩ Q
def He.s {P:Program} {N:Nat} {out:Option Nat} {base:Nat} {f:O} {ps:List Nat} {a b:C} (T:He P N out base f ps a b):gB P N out base:=⟨f,ps,a,b,T.run,T.ok⟩
inductive D (P:Program) (N:Nat) (out:Option Nat) (base:Nat):Type 1 where
 |skip
 |bh (items:List eX)
 |draw (cV:List (List Nat)) (items:List eX)
 |seq (a b:D P N out base)
 |cond (c:O) (a b:D P N out base)
 |block (id:Nat) (c:D P N out base)
 |loop (l:bQ P N out base)
 |exit (id:Nat)
 |ret
 |bM (l:gB P N out base)
 |gQ (l:sg P N out base)
section
variable {P:Program} {N:Nat} {out:Option Nat} {base:Nat} {R:Type}
def D.er : D P N out base → C
 | .skip=>.skip
 | .bh is=>.bh is
 | .draw ps is=>.draw ps is
 | .seq a b=>.seq a.er b.er
 | .cond c a b=>.cond c a.er b.er
 | .block id c=>.block id c.er
 | .loop l=>.loop l.c
 | .exit id=>.exit id
 | .ret=>.ret
 | .bM l=>.bM l.f l.ps l.a l.b
 | .gQ l=>.gQ l.pre l.m l.it l.cl l.e l.kt l.kg l.vt l.vg l.ql l.b
def rwK (c:O) (b:Bool) (env:Env):Env:=match c with
 | .t n=>(n,.tf b)::env
 | .c _=>env
 | .m _ _=>env
def kE (kz : Kz R) (cx : Cx) (ar : Ar) : D P N out base → Env → Nat → aq → List Nat → Kc R → R
 | .skip,env,nx,bl,ms,K=>K .normal env nx bl ms
 | .bh is,env,nx,bl,ms,K=>kI kz cx ar is env nx bl fun env nx bl=>K .normal env nx bl ms
 | .draw ps is,env,nx,bl,ms,K=>Rv kz cx ar (wY is) nx is 0 env bl [] fun env bl di=>match M8 ps di with
  |true=>fN (nx+is.length) fun nx=>K .normal env nx bl ms
  |false=>kz.no
 | .seq a b,env,nx,bl,ms,K=>kE kz cx ar a env nx bl ms fun e env nx bl ms=>match e with
  | .normal=>kE kz cx ar b env nx bl ms K
  | .exit id=>K (.exit id) env nx bl ms
  | .ret=>K .ret env nx bl ms
 | .cond c a b,env,nx,bl,ms,K=>match c.ev env with
  | .tf true=>kE kz cx ar a env nx bl ms K
  | .tf false=>kE kz cx ar b env nx bl ms K
  | .bool x=>kz.br x (kE kz cx ar a (rwK c true env) nx bl ms K) (kE kz cx ar b (rwK c false env) nx bl ms K)
  | .cb x=>kz.br x (kz.am (kE kz cx ar a (rwK c true env) nx bl ms K) (kE kz cx ar b (rwK c false env) nx bl ms K)) (kE kz cx ar b (rwK c false env) nx bl ms K)
  |_=>kz.no
 | .block id c,env,nx,bl,ms,K=>kE kz cx ar c env nx bl ms fun e env nx bl ms=>match e with
  | .normal=>K .normal env nx bl ms
  | .exit id'=>match Nat.beq id' id with
   |true=>K .normal env nx bl ms
   |false=>K (.exit id') env nx bl ms
  | .ret=>K .ret env nx bl ms
 | .loop l,env,nx,bl,ms,K=>Wh kz cx.op ar bl fun bl=>l.run kz env nx bl ms K
 | .exit id,env,nx,bl,ms,K=>K (.exit id) env nx bl ms
 | .ret,env,nx,bl,ms,K=>K .ret env nx bl ms
 | .bM l,env,nx,bl,ms,K=>Wh kz cx.op ar bl fun bl=>l.run kz env nx bl ms K
 | .gQ l,env,nx,bl,ms,K=>Wh kz cx.op ar bl fun bl=>l.run kz env nx bl ms K
variable {X:Type} {cx:Cx}
theorem nM {ob:List Bool} {x:Option X} {r:X} (h:r9 (iN X) ob x=some r):vr ob∧x=some r:=by
 induction ob with
 |nil=>exact ⟨trivial,h⟩
 |cons b l ih =>
  obtain ⟨h1,h2⟩:=cU h
  obtain ⟨h3,h4⟩:=ih h2
  cases l with
  |nil=>exact ⟨h1,h4⟩
  |cons c l=>exact ⟨⟨h1,h3⟩,h4⟩
theorem A2 {g : Option (Nat × Bool)} {env : Env} {nx : Nat} {bl : aq} {ms : List Nat} {skip run : Env → Option X} {r : X} (h : Cl (iN X) g env skip run = some r) {d : Option Nat} {K run' : St → Prop}
  (hs:∀env,skip env=some r→K ⟨put d (.cO []) env,⟨nx,bl⟩,ms⟩) (hr:∀env,run env=some r→run' ⟨env,⟨nx,bl⟩,ms⟩):pL g d ⟨env,⟨nx,bl⟩,ms⟩ K run':=by
 unfold Cl at h
 unfold pL
 split at h
 ·exact hr _ h
 ·rename_i s b
  simp only
  split at h
  ·rename_i c hc
   rw [hc]
   cases c<;>cases b<;>simp only at h ⊢
   ·exact hr _ h
   ·exact hs _ h
   ·exact hs _ h
   ·exact hr _ h
  ·rename_i c hc
   rw [hc]
   rcases iO h with ⟨e,h⟩|⟨e,h⟩
   ·refine ⟨fun _ => ?_, fun e' => by rw [e] at e'; cases e'⟩
    cases b<;>simp only at h ⊢
    ·exact hs _ h
    ·exact hr _ h
   ·refine ⟨fun e' => (by rw [e] at e'; cases e'), fun _ => ?_⟩
    cases b<;>simp only at h ⊢
    ·exact hr _ h
    ·exact hs _ h
  ·rename_i hc
   rw [hc]
   exact hs _ h
  ·cases h
theorem N9 {op:Nat} {bl:aq} {k:aq→Option X} {r:X} (h:Wh (iN X) op dY bl k=some r):k bl=some r∨∃ids u,ML (gx P N out base) ids bl=some u∧k (bG u bl)=some r:=by
 unfold Wh at h
 split at h
 ·exact .inl h
 ·split at h
  ·exact .inl h
  ·split at h <;> try (cases h; done)
   rename_i u hu
   rw [gh] at h
   exact .inr ⟨_,u,by unfold gx;rw [NM];exact hu,h⟩
theorem Cm {op:Nat} {env:Env} {nx:Nat} {bl:aq} {ms:List Nat} {k:aq→Option X} {r:X} (h:Wh (iN X) op dY bl k=some r) {K:St→Prop} (hK:∀bl,k bl=some r→K ⟨env,⟨nx,bl⟩,ms⟩):M0 (gx P N out base) ⟨env,⟨nx,bl⟩,ms⟩ K:=by
 rcases N9 (P:=P) (N:=N) (out:=out) (base:=base) h with h|⟨ids,u,hu,h⟩
 ·exact .inl (hK _ h)
 ·exact .inr ⟨ids,u,hu,hK _ h⟩
theorem oU (gD:cx.Ok P):∀{is:List eX} {env:Env} {nx:Nat} {bl:aq} {ms:List Nat} {K:Env→Nat→aq→Option X} {r:X} {Q:St→Prop},kI (iN X) cx dY is env nx bl K=some r →
  (∀env nx bl,K env nx bl=some r→Q ⟨env,⟨nx,bl⟩,ms⟩)→fK (gx P N out base) is ⟨env,⟨nx,bl⟩,ms⟩ Q
 |[],env,nx,bl,ms,K,r,Q,h,hK=>hK _ _ _ h
 | .op d g i::is,env,nx,bl,ms,K,r,Q,h,hK=>by
  simp only [kI] at h
  simp only [fK]
  have body:∀{env:Env} {bl:aq} {ob:List Bool} {v:V} {u:eL},V9 dY i env bl nx=some (ob,v,u) →
    r9 (iN X) ob (fV v fun v=>vB d v env fun env=>match i.lays with
     |true=>fN (nx+1) fun nx=>ig u bl fun bl=>kI (iN X) cx dY is env nx bl K
     |false=>ig u bl fun bl=>kI (iN X) cx dY is env nx bl K)=some r →
    cu (gx P N out base) i env bl nx=some (ob,v,u)∧vr ob∧fK (gx P N out base) is ⟨put d v env,⟨MM i.lays nx,bG u bl⟩,ms⟩ Q:=by
   intro env bl ob v u aj h
   obtain ⟨dc,h⟩:=nM h
   rw [oa,lZ] at h
   rw [NT] at aj
   refine ⟨by unfold gx;rw [NK];exact aj,dc,?_⟩
   split at h
   ·rename_i hl
    rw [gb,gh] at h
    simp only [hl,MM]
    exact oU gD h hK
   ·rename_i hl
    rw [gh] at h
    simp only [hl,MM]
    exact oU gD h hK
  refine A2 h (fun env h=>?_) (fun env h=>?_)
  ·rw [lZ] at h;exact oU gD h hK
  ·split at h
   ·split at h
    ·rename_i ob v u aj
     obtain ⟨h1,h2,h3⟩:=body aj h
     exact Cg h1 h2 h3
    ·cases h
   ·split at h
    ·rename_i ob v u aj
     obtain ⟨dc,h⟩:=nM h
     rw [oa,lZ] at h
     refine Yk (by unfold gx;rw [NL];exact aj) dc ?_
     split at h
     ·rename_i hl
      rw [gb,gh] at h
      simp only [hl,MM]
      exact oU gD h hK
     ·rename_i hl
      rw [gh] at h
      simp only [hl,MM]
      exact oU gD h hK
    ·split at h
     ·rename_i ob v u aj
      obtain ⟨h1,h2,h3⟩:=body aj h
      exact Cg h1 h2 h3
     ·rcases N9 (P := P) (N := N) (out := out) (base := base) h with h | ⟨ids, u', hu, h⟩
      ·split at h
       ·rename_i ob v u aj
        obtain ⟨h1,h2,h3⟩:=body aj h
        exact Cg h1 h2 h3
       ·cases h
      ·split at h
       ·rename_i ob v u aj
        obtain ⟨h1,h2,h3⟩:=body aj h
        exact Yl hu h1 h2 h3
       ·cases h
 | .call d g f a tys::is,env,nx,bl,ms,K,r,Q,h,hK=>by
  simp only [kI] at h
  simp only [fK]
  refine A2 h (fun env h=>?_) (fun env h=>?_)
  ·rw [lZ] at h;exact oU gD h hK
  ·simp only [Gt]
   refine Cm h fun bl h=>?_
   simp only [vQ]
   split at h
   ·rename_i f' fs cs hf
    rw [hf]
    refine gD.SC h fun v nx bl h=>?_
    rw [oa,lZ] at h
    exact oU gD h hK
   ·rename_i id hf
    rw [hf]
    refine gD.Yx h fun v nx bl h=>?_
    rw [oa,lZ] at h
    exact oU gD h hK
   ·cases h
theorem sj {gs:List Nat} {d:Option Nat} {v:V} {env:Env} {K:Env→Option X} {r:X} (h:AZ (iN X) gs d v env K=some r) {K':Env→Prop} (hK:∀env,K env=some r→K' env):DC gs d v env K':=by
 unfold AZ at h
 unfold DC
 cases d with
 |none=>exact hK _ h
 |some t =>
  simp only at h ⊢
  split at h
  ·rename_i hm;rw [hm];exact hK _ h
  ·rename_i hm
   rw [hm]
   simp only
   split at h
   ·rename_i c
    simp only
    rcases iO h with ⟨e,h⟩|⟨e,h⟩
    ·exact ⟨fun _=>hK _ h,fun e'=>by rw [e] at e';cases e'⟩
    ·exact ⟨fun e'=>(by rw [e] at e';cases e'),fun _=>hK _ h⟩
   ·rename_i hv
    have:=hK _ h
    cases v<;>first|exact this|exact (hv _ rfl).elim
theorem qQ (gD:cx.Ok P) {gs:List Nat} {b:Nat}:∀{is:List eX} {k:Nat} {env:Env} {bl:aq} {di:List DR} {K:Env→aq→List DR→Option X} {r:X} {Q:Env→aq→List DR→Prop},
  Rv (iN X) cx dY gs b is k env bl di K=some r→(∀env bl di,K env bl di=some r→Q env bl di)→rO (gx P N out base) gs b is k env bl di Q
 |[],k,env,bl,di,K,r,Q,h,hK=>hK _ _ _ h
 | .op d g i::is,k,env,bl,di,K,r,Q,h,hK=>by
  simp only [Rv] at h
  simp only [rO]
  split at h
  ·rename_i hg
   rw [hg]
   split at h
   ·rename_i ob v u aj
    obtain ⟨dc,h⟩:=nM h
    rw [oa] at h
    have Yy:zQ (gx P N out base) i env bl (b+k)=some (ob,v,u):=by
     unfold gx;rw [NL]
     split at aj
     ·cases aj
     ·exact aj
    refine .inr (Aw Yy dc (sj h fun env h=>?_))
    rw [gh] at h
    exact qQ gD h hK
   ·split at h
    ·rename_i ob v u aj
     obtain ⟨dc,h⟩:=nM h
     rw [oa] at h
     rw [NT] at aj
     have Yy:cu (gx P N out base) i env bl (b+k)=some (ob,v,u):=by unfold gx;rw [NK];exact aj
     refine .inl (Aw Yy dc (sj h fun env h=>?_))
     rw [gh] at h
     exact qQ gD h hK
    ·cases h
  ·rename_i hg
   rw [hg]
   rw [lZ] at h
   exact qQ gD h hK
  ·cases h
 | .call d g f a tys::is,k,env,bl,di,K,r,Q,h,hK=>by
  simp only [Rv] at h
  simp only [rO]
  split at h
  ·rename_i hg
   rw [hg]
   split at h
   ·rename_i f' fs cs hf
    rw [hf]
    split at h
    ·rename_i vs' hm
     obtain ⟨v,hp,h⟩:=gD.Wg h
     rw [oa] at h
     have e:dw (fin (gx P N out base) bl 8)=dw (fin dY bl 8):=funext fun vs=>nJ (fun v=>by unfold gx;exact xQ) vs
     simp only [e,hm]
     split at h
     ·rename_i hsc
      exact ⟨v,[],hp,by rw [hsc];rfl,sj h fun env h=>qQ gD h hK⟩
     ·rename_i hsc
      split at h
      ·rename_i u hu
       exact ⟨v,u,hp,by rw [hsc];exact hu,sj h fun env h=>qQ gD (by rw [gh] at h;exact h) hK⟩
      ·cases h
    ·cases h
   ·cases h
  ·rename_i hg
   rw [hg]
   rw [lZ] at h
   exact qQ gD h hK
  ·cases h
theorem l5 (gD:cx.Ok P):∀{d:D P N out base} {env:Env} {nx:Nat} {bl:aq} {ms:List Nat} {K:Kc (Option X)} {r:X} {Q:Ex→St→Prop},kE (iN X) cx dY d env nx bl ms K=some r →
  (∀e env nx bl ms,K e env nx bl ms=some r→Q e ⟨env,⟨nx,bl⟩,ms⟩)→rP (gx P N out base) d.er ⟨env,⟨nx,bl⟩,ms⟩ Q:=by
 intro d
 induction d with
 |skip=>intro env nx bl ms K r Q h hK;exact hK _ _ _ _ _ h
 |bh is=>intro env nx bl ms K r Q h hK;exact oU gD h fun env nx bl h=>hK _ _ _ _ _ h
 |draw ps is =>
  intro env nx bl ms K r Q h hK
  refine qQ gD h fun env bl di h=>?_
  split at h
  ·rename_i hd
   rw [gb] at h
   exact ⟨hd,hK _ _ _ _ _ h⟩
  ·cases h
 |seq a b Hf Ga =>
  intro env nx bl ms K r Q h hK
  refine Hf h fun e env nx bl ms h=>?_
  cases e with
  |normal=>exact Ga h hK
  |exit id=>exact hK _ _ _ _ _ h
  |ret=>exact hK _ _ _ _ _ h
 |cond c a b Hf Ga =>
  intro env nx bl ms K r Q h hK
  simp only [kE] at h
  simp only [D.er,rP]
  have hrw:∀x env,RP c x ⟨env,⟨nx,bl⟩,ms⟩=⟨rwK c x env,⟨nx,bl⟩,ms⟩:=fun x env=>by cases c<;>rfl
  split at h
  ·rename_i hc;rw [hc];exact Hf h hK
  ·rename_i hc;rw [hc];exact Ga h hK
  ·rename_i x hc
   rw [hc]
   rcases iO h with ⟨e,h⟩|⟨e,h⟩
   ·refine ⟨fun _ => ?_, fun e' => by rw [e] at e'; cases e'⟩
    rw [hrw];exact Hf h hK
   ·refine ⟨fun e' => (by rw [e] at e'; cases e'), fun _ => ?_⟩
    rw [hrw];exact Ga h hK
  ·rename_i x hc
   rw [hc]
   rcases iO h with ⟨e,h⟩|⟨e,h⟩
   ·obtain ⟨h1, h2⟩ := La h
    exact ⟨fun _=>by rw [hrw];exact Hf h1 hK,by rw [hrw];exact Ga h2 hK⟩
   ·exact ⟨fun e'=>(by rw [e] at e';cases e'),by rw [hrw];exact Ga h hK⟩
  ·cases h
 |block id c ih =>
  intro env nx bl ms K r Q h hK
  refine ih h fun e env nx bl ms h=>?_
  cases e with
  |normal=>exact hK _ _ _ _ _ h
  |exit id' =>
   simp only at h ⊢
   split at h
   ·rename_i e;rw [e];exact hK _ _ _ _ _ h
   ·rename_i e;rw [e];exact hK _ _ _ _ _ h
  |ret=>exact hK _ _ _ _ _ h
 |loop l=>intro env nx bl ms K r Q h hK;exact Cm h fun bl h=>l.ok h hK
 |exit id=>intro env nx bl ms K r Q h hK;exact hK _ _ _ _ _ h
 |ret=>intro env nx bl ms K r Q h hK;exact hK _ _ _ _ _ h
 |bM l=>intro env nx bl ms K r Q h hK;exact Cm h fun bl h=>l.ok h hK
 |gQ l=>intro env nx bl ms K r Q h hK;exact Cm h fun bl h=>l.ok h hK
end
end Go.AM
end
section
namespace Go.AM
inductive CP where
 |any
 |tf (b:Bool)
 |eH
 |cL
 |fu
 |cq
 |hole (t:Ty)
 |cn (b:Nat) (t:Ty)
 |Rw (b:Nat) (t:Ty)
 |ptr (b off:Nat)
 |yl (b:Nat)
 |fH (t:Ty)
 |fn0 (f:Nat)
 |Lb (l:CP)
 |Lf (l:CP)
 |fn (f:Nat) (a b:CP)
 |Hg (t:Nat) (g:Bool) (l:CP)
 |mp (b:Nat)
 |cH
 |pa (b:Nat) (t:Ty) (n:Nat)
 |lN (t:Ty)
 |nil
 |cons (c l:CP)
inductive SP where
 |c (c:CP)
 |agg (cs:List CP)
 |cO (cs:List CP)
 |fn (f:Nat) (a b:List CP)
 |alt (a b:List CP)
def CP.T : CP → Type → Type
 | .hole t,A=>t.den×A
 | .cn _ _,A=>Nat×A
 | .Rw _ _,A=>Nat×Nat×A
 | .fH t,A=>t.den×A
 | .lN t,A=>List t.den×A
 | .Hg _ _ l,A=>l.T A
 | .mp _,A=>A
 | .cH,A=>A
 | .pa _ _ _,A=>A
 | .Lb l,A=>l.T A
 | .Lf l,A=>l.T A
 | .fn _ a b,A=>a.T (b.T A)
 | .cons c l,A=>c.T (l.T A)
 | .any,A=>A
 | .tf _,A=>A
 | .eH,A=>A
 | .cL,A=>A
 | .fu,A=>A
 | .cq,A=>A
 | .ptr _ _,A=>A
 | .yl _,A=>A
 | .fn0 _,A=>A
 | .nil,A=>A
def tyV : (t : Ty) → t.den → V
 | .unit,_=>.agg []
 | .bool,b=>.bool b
 | .str,s=>.str s
 | .int k,n=>.int k n
 | .list t,xs=>.eU t xs
 | .prod a b,x=>.agg (cD (.prod a b) x)
 | .cB d g t,x=>.cB d (cD.jd g (cD t x))
def CP.r : (c : CP) → {A : Type} → c.T A → A
 | .any,_,x=>x
 | .tf _,_,x=>x
 | .eH,_,x=>x
 | .cL,_,x=>x
 | .fu,_,x=>x
 | .cq,_,x=>x
 | .hole _,_,x=>x.2
 | .cn _ _,_,x=>x.2
 | .Rw _ _,_,x=>x.2.2
 | .ptr _ _,_,x=>x
 | .yl _,_,x=>x
 | .fH _,_,x=>x.2
 | .lN _,_,x=>x.2
 | .Hg _ _ l,_,x=>l.r x
 | .mp _,_,x=>x
 | .cH,_,x=>x
 | .pa _ _ _,_,x=>x
 | .fn0 _,_,x=>x
 | .Lb l,_,x=>l.r x
 | .Lf l,_,x=>l.r x
 | .fn _ a b,_,x=>b.r (a.r x)
 | .nil,_,x=>x
 | .cons c l,_,x=>l.r (c.r x)
def CP.vs : (c : CP) → {A : Type} → c.T A → List V
 | .any,_,_=>[.any]
 | .tf b,_,_=>[.tf b]
 | .eH,_,_=>[.eH]
 | .cL,_,_=>[.cL]
 | .fu,_,_=>[.fu]
 | .cq,_,_=>[.cq]
 | .hole t,_,x=>[tyV t x.1]
 | .cn b t,_,x=>[.sl b t 0 x.1]
 | .Rw b t,_,x=>[.sl b t x.1 x.2.1]
 | .ptr b off,_,_=>[.ptr b off]
 | .yl b,_,_=>[.yl b]
 | .fH t,_,x=>[.fH (cD t x.1)]
 | .fn0 f,_,_=>[.fn f [] []]
 | .Lb l,_,x=>[.fH (l.vs x)]
 | .Lf l,_,x=>[.agg (l.vs x)]
 | .Hg t g l,_,x=>[.cB t (cD.jd g (l.vs x))]
 | .mp b,_,_=>[.mp b]
 | .cH,_,_=>[.cH]
 | .pa b t n,_,_=>[.pa b t n]
 | .lN t,_,x=>[.lN t x.1]
 | .fn f a b,_,x=>[.fn f (a.vs x) (b.vs (a.r x))]
 | .nil,_,_=>[]
 | .cons c l,_,x=>c.vs x++l.vs (c.r x)
def NX : List V → V
 |v::_=>v
 |[]=>.any
def CP.v {A:Type} (c:CP) (x:c.T A):V:=NX (c.vs x)
def mN : List CP → Type → Type
 |[],A=>A
 |c::r,A=>c.T (mN r A)
def qR {A : Type} : (cs : List CP) → mN cs A → List V
 |[],_=>[]
 |c::r,x=>c.v x::qR r (c.r x)
def sk {A : Type} : (cs : List CP) → mN cs A → A
 |[],x=>x
 |c::r,x=>sk r (c.r x)
def SP.T : SP → Type → Type
 | .c q,A=>q.T A
 | .agg cs,A=>mN cs A
 | .cO cs,A=>mN cs A
 | .fn _ a b,A=>mN a (mN b A)
 | .alt a b,A=>mN a A ⊕ mN b A
def SP.v {A : Type} : (p : SP) → p.T A → V
 | .c q,x=>q.v x
 | .agg cs,x=>.agg (qR cs x)
 | .cO cs,x=>.cO (qR cs x)
 | .fn f a b,x=>.fn f (qR a x) (qR b (sk a x))
 | .alt a b,x=>match x with
  | .inl y=>.cO (qR a y)
  | .inr y=>.cO (qR b y)
def SP.r {A : Type} : (p : SP) → p.T A → A
 | .c q,x=>q.r x
 | .agg cs,x=>sk cs x
 | .cO cs,x=>sk cs x
 | .fn _ a b,x=>sk b (sk a x)
 | .alt a b,x=>match x with
  | .inl y=>sk a y
  | .inr y=>sk b y
def Aa : List (Nat × SP) → Type → Type
 |[],A=>A
 |(_,p)::r,A=>p.T (Aa r A)
def yc {A : Type} : (ps : List (Nat × SP)) → Aa ps A → Env
 |[],_=>[]
 |(s,p)::r,x=>(s,p.v x)::yc r (p.r x)
def Oa {A : Type} : (ps : List (Nat × SP)) → Aa ps A → A
 |[],x=>x
 |(_,p)::r,x=>Oa r (p.r x)
inductive BP where
 |arr (t:Ty) (fz:Bool)
 |cells (cs:List CP) (fz:Bool)
 |loop (st:qC) (j:Option Ex) (d:Nat) (env:List (Nat×SP)) (ps:List Nat) (as bd:C) (N:Nat)
 |iz
 |map (kt:Ty) (kg:Bool) (vt:Ty) (vg:Bool)
 |nq (t:Ty) (i:Nat) (p:List Bool) (c:CP)
def BP.T : BP → Type → Type
 | .arr t _,A=>List t.den×A
 | .cells cs _,A=>mN cs A
 | .loop _ _ _ env _ _ _ _,A=>Aa env A
 | .iz,A=>A
 | .map kt _ vt _,A=>List (kt.den×vt.den)×A
 | .nq t _ _ c,A=>List t.den×c.T A
def BP.v {A : Type} : (p : BP) → p.T A → lM
 | .arr t fz,x=>.arr t x.1 fz
 | .cells cs fz,x=>.cells (qR cs x) fz
 | .loop st j d env ps as bd N,x=>.loop st j d (yc env x) ps as bd N
 | .iz,_=>.iz
 | .map kt kg vt vg,x=>.map kt kg vt vg x.1
 | .nq t i p c,x=>.nq t x.1 i p (c.v x.2)
def BP.r {A : Type} : (p : BP) → p.T A → A
 | .arr _ _,x=>x.2
 | .cells cs _,x=>sk cs x
 | .loop _ _ _ env _ _ _ _,x=>Oa env x
 | .iz,x=>x
 | .map _ _ _ _,x=>x.2
 | .nq _ _ _ c,x=>c.r x.2
def SD : List (Nat × BP) → Type → Type
 |[],A=>A
 |(_,p)::r,A=>p.T (SD r A)
def Rx {A : Type} : (ps : List (Nat × BP)) → SD ps A → aq
 |[],_=>[]
 |(s,p)::r,x=>(s,p.v x)::Rx r (p.r x)
inductive Lc where
 |slot (s:Nat)
 |part (s k:Nat)
 |cell (b k:Nat)
 |old (i:Nat)
 |mark (j:Nat)
structure az where
 env:List (Nat×SP)
 bl:List (Nat×BP)
 gR:List Lc
 ms:List Nat
def az.T (p:az):Type:=Aa p.env (SD p.bl Unit)
def az.E (p:az) (x:p.T):Env:=yc p.env x
def az.B (p:az) (x:p.T):aq:=Rx p.bl (Oa p.env x)
def az.st (base:Nat) (p:az) (x:p.T):St:=⟨p.E x,⟨base+p.gR.length,p.B x⟩,p.ms⟩
def vC : List Nat → Nat → Option Nat
 |[],_=>none
 |i::_,0=>some i
 |_::r,n+1=>vC r n
def mB : Bool → Bool → Bool
 |true,true=>true
 |false,false=>true
 |_,_=>false
def mP : (t t' : Ty) → Bool
 | .unit,.unit=>true
 | .bool,.bool=>true
 | .str,.str=>true
 | .int k,.int k'=>decide (k=k')
 | .list t,.list t'=>mP t t'
 | .prod a b,.prod a' b'=>match mP a a' with
  |true=>mP b b'
  |false=>false
 | .cB d g a,.cB d' g' a'=>match Nat.beq d d' with
  |true=>match mB g g' with
   |true=>mP a a'
   |false=>false
  |false=>false
 |_,_=>false
def Ab (π:List Nat) (b i:Nat):Bool:=match vC π b with
 |some j=>Nat.beq j i
 |none=>false
def Cn : (t : Ty) → V → Option t.den
 | .bool,.bool b=>some b
 | .bool,.tf b=>some b
 | .str,.str s=>some s
 | .int k,.int k' n=>match decide (k=k') with
  |true=>some n
  |false=>none
 | .list t,.eU t' xs=>kA t' t xs
 | .list _,.cq=>some []
 | .prod a b,.agg cs=>match bC dY [] (.prod a b) cs with
  |some (x,_,[])=>some x
  |_=>none
 | .cB d g a,v=>match bC dY [] (.cB d g a) [v] with
  |some (x,_,[])=>some x
  |_=>none
 |_,_=>none
def CP.rd1 {A:Type} (π:List Nat) (c:CP) (v:V):Option (A→c.T A) :=
 match c with
 | .any=>some fun a=>a
 | .tf b=>match v with
  | .tf b'=>match mB b b' with
   |true=>some fun a=>a
   |false=>none
  |_=>none
 | .eH=>match v with
  | .eH=>some fun a=>a
  |_=>none
 | .cL=>match v with
  | .cL=>some fun a=>a
  |_=>none
 | .fu=>match v with
  | .fu=>some fun a=>a
  |_=>none
 | .cq=>match v with
  | .cq=>some fun a=>a
  |_=>none
 | .hole t=>match Cn t v with
  |some x=>some fun a=>(x,a)
  |none=>none
 | .cn b t=>match v with
  | .sl i t' lo n=>match Ab π b i with
   |true=>match mP t' t with
    |true=>match Nat.beq lo 0 with
     |true=>some fun a=>(n,a)
     |false=>none
    |false=>none
   |false=>none
  | .cq=>some fun a=>((0:Nat),a)
  |_=>none
 | .Rw b t=>match v with
  | .sl i t' lo n=>match Ab π b i with
   |true=>match mP t' t with
    |true=>some fun a=>(lo,n,a)
    |false=>none
   |false=>none
  | .cq=>some fun a=>((0:Nat),(0:Nat),a)
  |_=>none
 | .ptr b off=>match v with
  | .ptr i o=>match Ab π b i with
   |true=>match Nat.beq o off with
    |true=>some fun a=>a
    |false=>none
   |false=>none
  |_=>none
 | .yl b=>match v with
  | .yl i=>match Ab π b i with
   |true=>some fun a=>a
   |false=>none
  |_=>none
 | .fH t=>match v with
  | .fH cs=>match bC dY [] t cs with
   |some (x,_,[])=>some fun a=>(x,a)
   |_=>none
  |_=>none
 | .mp b=>match v with
  | .mp i=>match Ab π b i with
   |true=>some fun a=>a
   |false=>none
  |_=>none
 | .cH=>match v with
  | .cH=>some fun a=>a
  |_=>none
 | .pa b t n=>match v with
  | .pa i t' n'=>match Ab π b i with
   |true=>match mP t' t with
    |true=>match Nat.beq n' n with
     |true=>some fun a=>a
     |false=>none
    |false=>none
   |false=>none
  |_=>none
 | .lN t=>match v with
  | .lN t' xs=>match kA t' t xs with
   |some ys=>some fun a=>(ys,a)
   |none=>none
  |_=>none
 | .fn0 f=>match v with
  | .fn f' [] []=>match Nat.beq f' f with
   |true=>some fun a=>a
   |false=>none
  |_=>none
 |_=>none
def CP.Gb (π : List Nat) : (c : CP) → {A : Type} → List V → Option ((A → c.T A) × List V)
 | .nil,_,vs=>some (fun a=>a,vs)
 | .cons c l,A,vs=>match c.Gb π (A:=l.T A) vs with
  |some (f,vs')=>match l.Gb π (A:=A) vs' with
   |some (g,vs'')=>some (fun a=>f (g a),vs'')
   |none=>none
  |none=>none
 | .Lb l,A,vs=>match vs with
  | .fH cs::r=>match l.Gb π (A:=A) cs with
   |some (f,[])=>some (f,r)
   |_=>none
  |_=>none
 | .Lf l,A,vs=>match vs with
  | .agg cs::r=>match l.Gb π (A:=A) cs with
   |some (f,[])=>some (f,r)
   |_=>none
  |_=>none
 | .Hg t g l,A,vs=>match vs with
  | .cB t' v::r=>match Nat.beq t' t with
   |true=>match BF g v with
    |some cs=>match l.Gb π (A:=A) cs with
     |some (f,[])=>some (f,r)
     |_=>none
    |none=>none
   |false=>none
  |_=>none
 | .fn f a b,A,vs=>match vs with
  | .fn f' va vb::r=>match Nat.beq f' f with
   |true=>match a.Gb π (A:=b.T A) va with
    |some (g,[])=>match b.Gb π (A:=A) vb with
     |some (h,[])=>some (fun x=>g (h x),r)
     |_=>none
    |_=>none
   |false=>none
  |_=>none
 |c,_,vs=>match vs with
  |v::r=>match c.rd1 π v with
   |some f=>some (f,r)
   |none=>none
  |[]=>none
def CP.rd {A:Type} (π:List Nat) (c:CP) (v:V):Option (A→c.T A):=match c.Gb π (A:=A) [v] with
 |some (f,[])=>some f
 |_=>none
def fJ {A : Type} (π : List Nat) : (cs : List CP) → List V → Option (A → mN cs A)
 |[],[]=>some fun a=>a
 |c::r,v::vs=>match CP.rd (A:=mN r A) π c v with
  |some f=>match fJ (A:=A) π r vs with
   |some g=>some fun a=>f (g a)
   |none=>none
  |none=>none
 |_,_=>none
def SP.rd {A:Type} (π:List Nat) (p:SP) (v:V):Option (A→p.T A) :=
 match p with
 | .c q=>q.rd π v
 | .agg cs=>match v with
  | .agg vs=>fJ π cs vs
  |_=>none
 | .cO cs=>match v with
  | .cO vs=>fJ π cs vs
  |_=>none
 | .fn f a b=>match v with
  | .fn f' va vb=>match Nat.beq f' f with
   |true=>match fJ (A:=mN b A) π a va with
    |some g=>match fJ (A:=A) π b vb with
     |some h=>some fun x=>g (h x)
     |none=>none
    |none=>none
   |false=>none
  |_=>none
 | .alt a b=>match v with
  | .cO vs=>match fJ (A:=A) π a vs with
   |some f=>some fun x=>.inl (f x)
   |none=>match fJ (A:=A) π b vs with
    |some f=>some fun x=>.inr (f x)
    |none=>none
  |_=>none
def SP.kv {R : Type} (kz : Kz R) : (p : SP) → p.T Unit → (V → R) → R
 | .alt a b,y,K=>kz.sm (A:=mN a Unit) (B:=mN b Unit) y (fun x=>K (.cO (qR a x))) (fun x=>K (.cO (qR b x)))
 | .c q,y,K=>K (SP.v (.c q) y)
 | .agg cs,y,K=>K (SP.v (.agg cs) y)
 | .cO cs,y,K=>K (SP.v (.cO cs) y)
 | .fn f a b,y,K=>K (SP.v (.fn f a b) y)
theorem SP.ac1 {X : Type} : ∀ (p : SP) (y : p.T Unit) (K : V → Option X), p.kv (iN X) y K = K (p.v y)
 | .alt _ _,.inl _,_=>rfl
 | .alt _ _,.inr _,_=>rfl
 | .c _,_,_=>rfl
 | .agg _,_,_=>rfl
 | .cO _,_,_=>rfl
 | .fn _ _ _,_,_=>rfl
def A3 {A : Type} (π : List Nat) (env : Env) : (ps : List (Nat × SP)) → Option (A → Aa ps A)
 |[]=>some fun a=>a
 |(s,p)::r=>match SP.rd (A:=Aa r A) π p (get s env) with
  |some f=>match A3 (A:=A) π env r with
   |some g=>some fun a=>f (g a)
   |none=>none
  |none=>none
mutual
def SE : V → V → Bool
 | .any,.any=>true
 | .tf a,.tf b=>mB a b
 | .bool a,.bool b=>mB a b
 | .int k n,.int k' m=>match decide (k=k') with
  |true=>decide (n=m)
  |false=>false
 | .eH,.eH=>true
 | .cL,.cL=>true
 | .fu,.fu=>true
 | .cH,.cH=>true
 | .cq,.cq=>true
 | .str s,.str s'=>decide (s=s')
 | .fn f a b,.fn f' a' b'=>match Nat.beq f f' with
  |true=>match qu a a' with
   |true=>qu b b'
   |false=>false
  |false=>false
 | .agg a,.agg b=>qu a b
 |_,_=>false
def qu : List V → List V → Bool
 |[],[]=>true
 |a::r,b::s=>match SE a b with
  |true=>qu r s
  |false=>false
 |_,_=>false
end
mutual
theorem I9 : ∀ {a b : V}, SE a b = true → a = b
 |a,b,h=>by
  cases a<;>cases b<;>simp only [SE,Bool.false_eq_true] at h<;>try rfl
  case tf.tf x y=>cases x<;>cases y<;>simp_all [mB]
  case bool.bool x y=>cases x<;>cases y<;>simp_all [mB]
  case int.int=>split at h<;>simp_all
  case str.str=>simp_all
  case fn.fn =>
   split at h<;>try (cases h;done)
   rename_i h1
   split at h<;>try (cases h;done)
   rename_i h2
   rw [Nat.eq_of_beq_eq_true h1,mQ h2,mQ h]
  case agg.agg=>rw [mQ h]
theorem mQ : ∀ {a b : List V}, qu a b = true → a = b
 |[],[],_=>rfl
 |a::r,b::s,h=>by
  simp only [qu] at h
  split at h<;>try (cases h;done)
  rename_i h1
  rw [I9 h1,mQ h]
 |[],_::_,h=>by simp [qu] at h
 |_::_,[],h=>by simp [qu] at h
end
end Go.AM
end
section
namespace Go.AM
def an (a b:Bool):Bool:=match a with
 |true=>b
 |false=>false
theorem aX {a b:Bool}:an a b=true↔a=true∧b=true:=by cases a<;>simp [an]
theorem ez {a b:Bool} (h:mB a b=true):a=b:=by cases a<;>cases b<;>simp_all [mB]
theorem l6:∀{t t':Ty},mP t t'=true→t=t':=by
 intro t
 induction t with
 |unit=>intro t' h;cases t'<;>simp [mP] at h ⊢
 |bool=>intro t' h;cases t'<;>simp [mP] at h ⊢
 |str=>intro t' h;cases t'<;>simp [mP] at h ⊢
 |int k=>intro t' h;cases t'<;>simp [mP] at h ⊢;exact h
 |list t ih=>intro t' h;cases t'<;>simp [mP] at h ⊢;exact ih h
 |prod a b Hf Ga =>
  intro t' h
  cases t'<;>simp only [mP,Bool.false_eq_true] at h
  split at h<;>try (cases h;done)
  rename_i h1
  rw [Hf h1,Ga h]
 |cB d g a ih =>
  intro t' h
  cases t'<;>simp only [mP,Bool.false_eq_true] at h
  split at h<;>try (cases h;done)
  rename_i h1
  split at h<;>try (cases h;done)
  rename_i h2
  rw [Nat.eq_of_beq_eq_true h1,ez h2,ih h]
def Ob (a b:IntKind):Bool:=decide (a=b)
theorem Oc {a b:IntKind} (h:Ob a b=true):a=b:=by simpa [Ob] using h
def Od (a b:zN):Bool:=decide (a=b)
theorem Oe {a b:zN} (h:Od a b=true):a=b:=by simpa [Od] using h
def Of : Kd → Kd → Bool
 | .b,.b=>true
 | .i,.i=>true
 | .s,.s=>true
 |_,_=>false
theorem Og {x y:Kd} (h:Of x y=true):x=y:=by cases x<;>cases y<;>simp_all [Of]
def kU {α : Type} (f : α → α → Bool) : List α → List α → Bool
 |[],[]=>true
 |a::r,b::s=>match f a b with
  |true=>kU f r s
  |false=>false
 |_,_=>false
theorem fh {α : Type} {f : α → α → Bool} (hf : ∀ {a b}, f a b = true → a = b) : ∀ {a b : List α}, kU f a b = true → a = b
 |[],[],_=>rfl
 |a::r,b::s,h=>by
  simp only [kU] at h
  split at h<;>try (cases h;done)
  rename_i h1
  rw [hf h1,fh hf h]
 |[],_::_,h=>by simp [kU] at h
 |_::_,[],h=>by simp [kU] at h
def Wi:=kU Of
theorem Oh {a b:List Kd} (h:Wi a b=true):a=b:=fh Og h
def Oi:=kU mB
theorem Eh {a b:List Bool} (h:Oi a b=true):a=b:=fh ez h
def Ei:=kU Nat.beq
theorem sn {a b:List Nat} (h:Ei a b=true):a=b:=fh Nat.eq_of_beq_eq_true h
def Oj:=kU Ei
theorem Lg {a b:List (List Nat)} (h:Oj a b=true):a=b:=fh sn h
def dU : O → O → Bool
 | .t n,.t m=>Nat.beq n m
 | .c v,.c u=>SE v u
 | .m n l,.m m k=>an (Nat.beq n m) (decide (l=k))
 |_,_=>false
theorem bq {a b:O} (h:dU a b=true):a=b:=by
 cases a<;>cases b<;>simp only [dU,Bool.false_eq_true] at h
 ·rw [Nat.eq_of_beq_eq_true h]
 ·rw [I9 h]
 ·rw [aX] at h;rw [Nat.eq_of_beq_eq_true h.1,of_decide_eq_true h.2]
def yd:=kU dU
theorem mR {a b:List O} (h:yd a b=true):a=b:=fh bq h
def Ej : Option O → Option O → Bool
 |none,none=>true
 |some a,some b=>dU a b
 |_,_=>false
theorem ye {a b:Option O} (h:Ej a b=true):a=b:=by
 cases a<;>cases b<;>simp only [Ej,Bool.false_eq_true] at h
 ·rfl
 ·rw [bq h]
def Yz : Nat × Nat × O → Nat × Nat × O → Bool
 |(a,b,x),(a',b',x')=>an (Nat.beq a a') (an (Nat.beq b b') (dU x x'))
theorem SF {p q:Nat×Nat×O} (h:Yz p q=true):p=q:=by
 obtain ⟨a,b,c⟩:=p
 obtain ⟨a',b',c'⟩:=q
 simp only [Yz,aX] at h
 rw [Nat.eq_of_beq_eq_true h.1,Nat.eq_of_beq_eq_true h.2.1,bq h.2.2]
def Wj:=kU Yz
theorem Ol {a b:List (Nat×Nat×O)} (h:Wj a b=true):a=b:=fh SF h
def gE : I → I → Bool
 | .mv x0,.mv y0=>dU x0 y0
 | .pick x0 x1 x2,.pick y0 y1 y2=>an (dU x0 y0) (an (dU x1 y1) (dU x2 y2))
 | .alloc x0,.alloc y0=>qu x0 y0
 | .box x0,.box y0=>dU x0 y0
 | .build x0 x1,.build y0 y1=>an (qu x0 y0) (Wj x1 y1)
 | .dZ x0 x1,.dZ y0 y1=>an (mP x0 y0) (yd x1 y1)
 | .load x0 x1 x2,.load y0 y1 y2=>an (mB x0 y0) (an (Nat.beq x1 y1) (dU x2 y2))
 | .store x0 x1 x2,.store y0 y1 y2=>an (Nat.beq x0 y0) (an (dU x1 y1) (dU x2 y2))
 | .bin x0 x1 x2,.bin y0 y1 y2=>an (Od x0 y0) (an (dU x1 y1) (dU x2 y2))
 | .RG x0 x1 x2,.RG y0 y1 y2=>an (mB x0 y0) (an (dU x1 y1) (dU x2 y2))
 | .eqs x0 x1 x2 x3,.eqs y0 y1 y2 y3=>an (mB x0 y0) (an (Wi x1 y1) (an (dU x2 y2) (dU x3 y3)))
 | .neg x0,.neg y0=>dU x0 y0
 | .not x0,.not y0=>dU x0 y0
 | .conv x0 x1,.conv y0 y1=>an (Ob x0 y0) (dU x1 y1)
 | .nu x0 x1 x2,.nu y0 y1 y2=>an (Nat.beq x0 y0) (an (Oi x1 y1) (dU x2 y2))
 | .field x0 x1 x2 x3,.field y0 y1 y2 y3=>an (mB x0 y0) (an (Nat.beq x1 y1) (an (Nat.beq x2 y2) (dU x3 y3)))
 | .idx x0 x1 x2,.idx y0 y1 y2=>an (Nat.beq x0 y0) (an (dU x1 y1) (dU x2 y2))
 | .zO x0 x1 x2 x3,.zO y0 y1 y2 y3=>an (Nat.beq x0 y0) (an (Nat.beq x1 y1) (an (dU x2 y2) (dU x3 y3)))
 | .ext x0 x1,.ext y0 y1=>an (Nat.beq x0 y0) (dU x1 y1)
 | .len x0,.len y0=>dU x0 y0
 | .lens x0,.lens y0=>dU x0 y0
 | .zP x0,.zP y0=>Nat.beq x0 y0
 | .append x0 x1 x2,.append y0 y1 y2=>an (Nat.beq x0 y0) (an (dU x1 y1) (dU x2 y2))
 | .iW x0 x1,.iW y0 y1=>an (mP x0 y0) (dU x1 y1)
 | .BD x0 x1 x2,.BD y0 y1 y2=>an (Nat.beq x0 y0) (an (yd x1 y1) (yd x2 y2))
 | .slice x0 x1 x2 x3 x4,.slice y0 y1 y2 y3 y4=>an (Nat.beq x0 y0) (an (dU x1 y1) (an (Ej x2 y2) (an (Ej x3 y3) (Ej x4 y4))))
 | .mh x0 x1 x2,.mh y0 y1 y2=>an (mB x0 y0) (an (dU x1 y1) (yd x2 y2))
 | .ex x0 x1,.ex y0 y1=>an (decide (x0=y0)) (yd x1 y1)
 |_,_=>false
theorem SG {a b:I} (h:gE a b=true):a=b:=by
 cases a<;>cases b<;>first|(simp only [gE,Bool.false_eq_true] at h;done)|skip
 case mv.mv=>simp only [gE,aX] at h;rw [bq h]
 case pick.pick=>simp only [gE,aX] at h;rw [bq h.1,bq h.2.1,bq h.2.2]
 case alloc.alloc=>simp only [gE,aX] at h;rw [mQ h]
 case box.box=>simp only [gE,aX] at h;rw [bq h]
 case build.build=>simp only [gE,aX] at h;rw [mQ h.1,Ol h.2]
 case dZ.dZ=>simp only [gE,aX] at h;rw [l6 h.1,mR h.2]
 case load.load=>simp only [gE,aX] at h;rw [ez h.1,Nat.eq_of_beq_eq_true h.2.1,bq h.2.2]
 case store.store=>simp only [gE,aX] at h;rw [Nat.eq_of_beq_eq_true h.1,bq h.2.1,bq h.2.2]
 case bin.bin=>simp only [gE,aX] at h;rw [Oe h.1,bq h.2.1,bq h.2.2]
 case RG.RG=>simp only [gE,aX] at h;rw [ez h.1,bq h.2.1,bq h.2.2]
 case eqs.eqs=>simp only [gE,aX] at h;rw [ez h.1,Oh h.2.1,bq h.2.2.1,bq h.2.2.2]
 case neg.neg=>simp only [gE,aX] at h;rw [bq h]
 case not.not=>simp only [gE,aX] at h;rw [bq h]
 case conv.conv=>simp only [gE,aX] at h;rw [Oc h.1,bq h.2]
 case nu.nu=>simp only [gE,aX] at h;rw [Nat.eq_of_beq_eq_true h.1,Eh h.2.1,bq h.2.2]
 case field.field=>simp only [gE,aX] at h;rw [ez h.1,Nat.eq_of_beq_eq_true h.2.1,Nat.eq_of_beq_eq_true h.2.2.1,bq h.2.2.2]
 case idx.idx=>simp only [gE,aX] at h;rw [Nat.eq_of_beq_eq_true h.1,bq h.2.1,bq h.2.2]
 case zO.zO=>simp only [gE,aX] at h;rw [Nat.eq_of_beq_eq_true h.1,Nat.eq_of_beq_eq_true h.2.1,bq h.2.2.1,bq h.2.2.2]
 case ext.ext=>simp only [gE,aX] at h;rw [Nat.eq_of_beq_eq_true h.1,bq h.2]
 case len.len=>simp only [gE,aX] at h;rw [bq h]
 case lens.lens=>simp only [gE,aX] at h;rw [bq h]
 case zP.zP=>simp only [gE,aX] at h;rw [Nat.eq_of_beq_eq_true h]
 case append.append=>simp only [gE,aX] at h;rw [Nat.eq_of_beq_eq_true h.1,bq h.2.1,bq h.2.2]
 case iW.iW=>simp only [gE,aX] at h;rw [l6 h.1,bq h.2]
 case BD.BD=>simp only [gE,aX] at h;rw [Nat.eq_of_beq_eq_true h.1,mR h.2.1,mR h.2.2]
 case slice.slice=>simp only [gE,aX] at h;rw [Nat.eq_of_beq_eq_true h.1,bq h.2.1,ye h.2.2.1,ye h.2.2.2.1,ye h.2.2.2.2]
 case mh.mh=>simp only [gE,aX] at h;rw [ez h.1,bq h.2.1,mR h.2.2]
 case ex.ex=>simp only [gE,aX] at h;rw [of_decide_eq_true h.1,mR h.2]
def SH : Option (Nat × Bool) → Option (Nat × Bool) → Bool
 |none,none=>true
 |some (s,b),some (s',b')=>an (Nat.beq s s') (mB b b')
 |_,_=>false
theorem Ja {p q:Option (Nat×Bool)} (h:SH p q=true):p=q:=by
 rcases p with _|⟨a,b⟩<;>rcases q with _|⟨a',b'⟩<;>simp only [SH,Bool.false_eq_true,aX] at h
 ·rfl
 ·rw [Nat.eq_of_beq_eq_true h.1,ez h.2]
def Om : Option Nat → Option Nat → Bool
 |none,none=>true
 |some a,some b=>Nat.beq a b
 |_,_=>false
theorem Co {a b:Option Nat} (h:Om a b=true):a=b:=by
 cases a<;>cases b<;>simp only [Om,Bool.false_eq_true] at h
 ·rfl
 ·rw [Nat.eq_of_beq_eq_true h]
def On : Option Ty → Option Ty → Bool
 |none,none=>true
 |some a,some b=>mP a b
 |_,_=>false
theorem Oo {a b:Option Ty} (h:On a b=true):a=b:=by
 cases a<;>cases b<;>simp only [On,Bool.false_eq_true] at h
 ·rfl
 ·rw [l6 h]
def yf : eX → eX → Bool
 | .op d g i,.op d' g' i'=>an (Om d d') (an (SH g g') (gE i i'))
 | .call d g f a t,.call d' g' f' a' t'=>an (Om d d') (an (SH g g') (an (dU f f') (an (yd a a') (kU On t t'))))
 |_,_=>false
theorem uq {a b:eX} (h:yf a b=true):a=b:=by
 cases a<;>cases b<;>simp only [yf,Bool.false_eq_true,aX] at h
 ·rw [Co h.1,Ja h.2.1,SG h.2.2]
 ·rw [Co h.1,Ja h.2.1,bq h.2.2.1,mR h.2.2.2.1,fh Oo h.2.2.2.2]
def jF : C → C → Bool
 | .skip,.skip=>true
 | .bh is,.bh is'=>kU yf is is'
 | .draw ps is,.draw ps' is'=>an (Oj ps ps') (kU yf is is')
 | .seq a b,.seq a' b'=>an (jF a a') (jF b b')
 | .cond c a b,.cond c' a' b'=>an (dU c c') (an (jF a a') (jF b b'))
 | .block id c,.block id' c'=>an (Nat.beq id id') (jF c c')
 | .loop c,.loop c'=>jF c c'
 | .exit id,.exit id'=>Nat.beq id id'
 | .ret,.ret=>true
 | .bM f ps a b,.bM f' ps' a' b'=>an (dU f f') (an (Ei ps ps') (an (jF a a') (jF b b')))
 | .gQ p m i cl e kt kg vt vg d b,.gQ p' m' i' cl' e' MJ VW MK RK d' b'=>an (kU yf p p') (an (dU m m') (an (Nat.beq i i') (an (Ei cl cl') (an (Om e e') (an (mP kt MJ) (an (mB kg VW) (an (mP vt MK) (an (mB vg RK) (an (Nat.beq d d') (jF b b'))))))))))
 |_,_=>false
theorem vY:∀{a b:C},jF a b=true→a=b:=by
 intro a
 induction a with
 |skip=>intro b h;cases b<;>simp [jF] at h ⊢
 |ret=>intro b h;cases b<;>simp [jF] at h ⊢
 |exit id=>intro b h;cases b<;>simp only [jF,Bool.false_eq_true] at h;rw [Nat.eq_of_beq_eq_true h]
 |bh is=>intro b h;cases b<;>simp only [jF,Bool.false_eq_true] at h;rw [fh uq h]
 |draw ps is=>intro b h;cases b<;>simp only [jF,Bool.false_eq_true,aX] at h;rw [Lg h.1,fh uq h.2]
 |seq a b Hf Ga=>intro b h;cases b<;>simp only [jF,Bool.false_eq_true,aX] at h;rw [Hf h.1,Ga h.2]
 |cond c a b Hf Ga=>intro b h;cases b<;>simp only [jF,Bool.false_eq_true,aX] at h;rw [bq h.1,Hf h.2.1,Ga h.2.2]
 |block id c ih=>intro b h;cases b<;>simp only [jF,Bool.false_eq_true,aX] at h;rw [Nat.eq_of_beq_eq_true h.1,ih h.2]
 |loop c ih=>intro b h;cases b<;>simp only [jF,Bool.false_eq_true] at h;rw [ih h]
 |gQ p m i cl e kt kg vt vg d b ih =>
  intro b h
  cases b<;>simp only [jF,Bool.false_eq_true,aX] at h
  obtain ⟨h1,h2,h3,h4,h5,h6,h7,h8,h9,h11,h10⟩:=h
  rw [fh uq h1,bq h2,Nat.eq_of_beq_eq_true h3,sn h4,Co h5,l6 h6,ez h7,l6 h8,ez h9,Nat.eq_of_beq_eq_true h11,ih h10]
 |bM f ps a b Hf Ga=>intro b h;cases b<;>simp only [jF,Bool.false_eq_true,aX] at h;rw [bq h.1,sn h.2.1,Hf h.2.2.1,Ga h.2.2.2]
end Go.AM
end
section
namespace Go.AM
section
variable {π:List Nat}
theorem pV : ∀ (π : List Nat) (b : Nat), vC π b = π[b]?
 |[],_=>by simp [vC]
 |i::r,0=>by simp [vC]
 |i::r,n+1=>by simp [vC,pV r n]
theorem l7 {b i:Nat} (h:Ab π b i=true):π[b]?=some i:=by
 unfold Ab at h
 split at h
 ·rename_i j e;rw [←pV,e,Nat.eq_of_beq_eq_true h]
 ·cases h
theorem Ds.append {as bs cs ds:List V} (h:Ds π as bs) (h':Ds π cs ds):Ds π (as++cs) (bs++ds):=by
 induction as generalizing bs with
 |nil =>
  have:bs=[]:=List.eq_nil_of_length_eq_zero h.1.symm
  subst this;simpa using h'
 |cons a as ih =>
  cases bs with
  |nil=>exact absurd h.1 (by simp)
  |cons b bs=>exact .cons (h.2 0 a b rfl rfl) (ih ⟨by have:=h.1;simpa using this,fun i v u hv hu=>h.2 (i+1) v u (by simpa using hv) (by simpa using hu)⟩)
theorem Ek {t t':Ty} {xs:List t.den} {ys:List t'.den} (h:kA t t' xs=some ys):V.eU t' ys=V.eU t xs:=by
 obtain ⟨e,he⟩:=ef h
 subst e;subst he;rfl
theorem El {g:Bool} {v:V} {ds cs:List V} (h:BF g v=some cs) (aj:Ds π ds cs):EV π (cD.jd g ds) v:=by
 cases g with
 |true =>
  cases v<;>simp [BF] at h
  subst h
  exact .agg _ _ aj.1 aj.2
 |false =>
  have:cs=[v]:=by cases v<;>simp_all [BF,V.cells?]
  subst this
  match ds,aj with
  |[w],aj=>exact aj.2 0 w v rfl rfl
  |[],aj=>exact absurd aj.1 (by simp)
  |_::_::_,aj=>exact absurd aj.1 (by simp)
theorem pW {ar : Ar} : ∀ {t : Ty} {vs : List V} {x : t.den} {u : eL} {r : List V}, bC ar [] t vs = some (x, u, r) → ∃ us, vs = us ++ r ∧ Ds π (cD t x) us
 | .unit,vs,x,u,r,h=>by
  simp [bC] at h;obtain ⟨_,_,rfl⟩:=h;exact ⟨[],rfl,.nil⟩
 | .bool,vs,x,u,r,h=>by
  rcases vs with _|⟨v,r'⟩
  ·simp [bC] at h
  ·cases v <;> simp [bC] at h
   ·obtain ⟨rfl,_,rfl⟩:=h;exact ⟨[_],rfl,.cons (.tfb _) .nil⟩
   ·obtain ⟨rfl,_,rfl⟩:=h;exact ⟨[_],rfl,.cons (.bool _) .nil⟩
 | .str,vs,x,u,r,h=>by
  rcases vs with _|⟨v,r'⟩
  ·simp [bC] at h
  ·cases v <;> simp [bC] at h
   obtain ⟨rfl,_,rfl⟩:=h;exact ⟨[_],rfl,.cons (.str _) .nil⟩
 | .int k,vs,x,u,r,h=>by
  rcases vs with _|⟨v,r'⟩
  ·simp [bC] at h
  ·cases v <;> simp [bC] at h
   obtain ⟨rfl,rfl,_,rfl⟩:=h;exact ⟨[_],rfl,.cons (.int _ _) .nil⟩
 | .list t,vs,x,u,r,h=>by
  rcases vs with _|⟨v,r'⟩
  ·simp [bC] at h
  ·cases v <;> simp only [bC] at h <;> try (cases h; done)
   ·split at h <;> try (cases h; done)
    rename_i hc
    cases h
    exact ⟨[_],rfl,.cons (by rw [Ek hc];exact .eU _ _) .nil⟩
   ·cases h;exact ⟨[.cq],rfl,.cons (.Ym _) .nil⟩
 | .prod a b,vs,x,u,r,h=>by
  simp only [bC] at h
  split at h<;>try (cases h;done)
  rename_i x1 u1 r1 h1
  split at h<;>try (cases h;done)
  rename_i y1 u2 r2 h2
  cases h
  obtain ⟨us,rfl,e1⟩:=pW h1
  obtain ⟨XN,rfl,e2⟩:=pW h2
  exact ⟨us++XN,by simp,e1.append e2⟩
 | .cB d g t,vs,x,u,r,h=>by
  cases vs with
  |nil=>simp [bC] at h
  |cons v vs =>
   cases v<;>simp only [bC] at h<;>try (cases h;done)
   rename_i d' v'
   split at h<;>try (cases h;done)
   rename_i e;subst e
   split at h<;>try (cases h;done)
   rename_i cs hun
   split at h<;>try (cases h;done)
   rename_i x0 ho
   cases h
   obtain ⟨us,e1,aj⟩:=pW ho
   rw [List.append_nil] at e1
   exact ⟨[.cB d v'],rfl,.cons (.cB _ _ _ (El hun (by rw [e1];exact aj))) .nil⟩
theorem SJ : ∀ {t : Ty} {v : V} {x : t.den}, Cn t v = some x → EV π (tyV t x) v
 | .unit,v,x,h=>by simp [Cn] at h
 | .bool,v,x,h=>by
  cases v<;>simp [Cn] at h
  ·subst h;exact .tfb _
  ·subst h;exact .bool _
 | .str,v,x,h=>by
  cases v<;>simp [Cn] at h
  subst h;exact .str _
 | .int k,v,x,h=>by
  cases v<;>simp only [Cn] at h<;>try (cases h;done)
  split at h<;>try (cases h;done)
  rename_i hk
  cases h
  have:=of_decide_eq_true hk
  subst this;exact .int _ _
 | .list t,v,x,h=>by
  cases v<;>simp only [Cn] at h<;>try (cases h;done)
  ·show EV π (.eU t x) _
   rw [Ek h];exact .eU _ _
  ·cases h;exact .Ym _
 | .prod a b,v,x,h=>by
  cases v<;>simp only [Cn] at h<;>try (cases h;done)
  split at h<;>try (cases h;done)
  rename_i hc
  cases h
  obtain ⟨us,e,aj⟩:=pW (π:=π) hc
  rw [List.append_nil] at e
  subst e
  exact .agg _ _ aj.1 aj.2
 | .cB d g t,v,x,h=>by
  simp only [Cn] at h
  split at h<;>try (cases h;done)
  rename_i hc
  cases h
  obtain ⟨us,e,aj⟩:=pW (π:=π) hc
  rw [List.append_nil] at e
  subst e
  exact aj.2 0 _ _ rfl rfl
variable {A:Type}
theorem CP.YA {c:CP} {v:V} {f:A→c.T A} (h:c.rd1 π v=some f) (a:A):Ds π (c.vs (f a)) [v]∧c.r (f a)=a:=by
 cases c<;>simp only [CP.rd1] at h
 case any=>cases h;exact ⟨.cons (.any _) .nil,rfl⟩
 case tf b =>
  split at h<;>try (cases h;done)
  split at h<;>try (cases h;done)
  rename_i hb
  cases h
  rw [←ez hb]
  exact ⟨.cons (.tf _) .nil,rfl⟩
 case eH=>split at h<;>cases h;exact ⟨.cons (.eH) .nil,rfl⟩
 case cL=>split at h<;>cases h;exact ⟨.cons (.cL) .nil,rfl⟩
 case fu=>split at h<;>cases h;exact ⟨.cons (.fu) .nil,rfl⟩
 case cq=>split at h<;>cases h;exact ⟨.cons (.cq) .nil,rfl⟩
 case hole t =>
  split at h<;>cases h
  rename_i hx
  exact ⟨.cons (SJ hx) .nil,rfl⟩
 case cn b t =>
  split at h<;>try (cases h;done)
  ·rename_i i t' lo n
   split at h<;>try (cases h;done)
   rename_i h1
   split at h<;>try (cases h;done)
   rename_i h2
   split at h<;>try (cases h;done)
   rename_i h3
   cases h
   have e:=Nat.eq_of_beq_eq_true h3
   rw [l6 h2,e]
   exact ⟨.cons (.sl _ _ _ _ _ (l7 h1)) .nil,rfl⟩
  ·cases h;exact ⟨.cons (.Yn _ _ _) .nil,rfl⟩
 case Rw b t =>
  split at h<;>try (cases h;done)
  ·rename_i i t' lo n
   split at h<;>try (cases h;done)
   rename_i h1
   split at h<;>try (cases h;done)
   rename_i h2
   cases h
   rw [l6 h2]
   exact ⟨.cons (.sl _ _ _ _ _ (l7 h1)) .nil,rfl⟩
  ·cases h;exact ⟨.cons (.Yn _ _ _) .nil,rfl⟩
 case ptr b off =>
  split at h<;>try (cases h;done)
  split at h<;>try (cases h;done)
  rename_i h1
  split at h<;>try (cases h;done)
  rename_i h2
  cases h
  rw [Nat.eq_of_beq_eq_true h2]
  exact ⟨.cons (.ptr _ _ _ (l7 h1)) .nil,rfl⟩
 case yl b =>
  split at h<;>try (cases h;done)
  split at h<;>try (cases h;done)
  rename_i h1
  cases h
  exact ⟨.cons (.yl _ _ (l7 h1)) .nil,rfl⟩
 case fH t =>
  split at h<;>try (cases h;done)
  split at h<;>try (cases h;done)
  rename_i hc
  cases h
  obtain ⟨us,e,aj⟩:=pW (π:=π) hc
  rw [List.append_nil] at e
  subst e
  exact ⟨.cons (.fH _ _ aj.1 aj.2) .nil,rfl⟩
 case mp b =>
  split at h<;>try (cases h;done)
  split at h<;>try (cases h;done)
  rename_i h1
  cases h
  exact ⟨.cons (.mp _ _ (l7 h1)) .nil,rfl⟩
 case cH=>split at h<;>cases h;exact ⟨.cons (.cH) .nil,rfl⟩
 case pa b t n =>
  split at h<;>try (cases h;done)
  split at h<;>try (cases h;done)
  rename_i h1
  split at h<;>try (cases h;done)
  rename_i h2
  split at h<;>try (cases h;done)
  rename_i h3
  cases h
  rw [l6 h2,Nat.eq_of_beq_eq_true h3]
  exact ⟨.cons (.pa _ _ _ _ (l7 h1)) .nil,rfl⟩
 case lN t =>
  split at h<;>try (cases h;done)
  split at h<;>try (cases h;done)
  rename_i ys hc
  cases h
  obtain ⟨e,he⟩:=ef hc
  subst e;subst he
  exact ⟨.cons (.lN _ _) .nil,rfl⟩
 case Hg=>cases h
 case fn0 f' =>
  split at h<;>try (cases h;done)
  split at h<;>try (cases h;done)
  rename_i h1
  cases h
  rw [Nat.eq_of_beq_eq_true h1]
  exact ⟨.cons (.fn _ _ _ _ _ rfl (fun i v u hv=>by simp at hv) rfl (fun i v u hv=>by simp at hv)) .nil,rfl⟩
 case Lb=>cases h
 case Lf=>cases h
 case fn=>cases h
 case nil=>cases h
 case cons=>cases h
theorem CP.YB:∀{c:CP} {A:Type} {vs r:List V} {f:A→c.T A},c.Gb π vs=some (f,r)→∃us,vs=us++r∧∀a,Ds π (c.vs (f a)) us∧c.r (f a)=a:=by
 intro c
 induction c with
 |nil=>intro A vs r f h;simp only [CP.Gb] at h;cases h;exact ⟨[],rfl,fun a=>⟨.nil,rfl⟩⟩
 |cons c l ihc ihl =>
  intro A vs r f h
  simp only [CP.Gb] at h
  split at h<;>try (cases h;done)
  rename_i f1 vs' h1
  split at h<;>try (cases h;done)
  rename_i g vs'' h2
  cases h
  obtain ⟨us,rfl,e1⟩:=ihc h1
  obtain ⟨XN,rfl,e2⟩:=ihl h2
  refine ⟨us++XN,by simp,fun a=>?_⟩
  obtain ⟨q1,q2⟩:=e1 (g a)
  obtain ⟨q3,q4⟩:=e2 a
  simp only [CP.vs,CP.r,q2]
  exact ⟨q1.append q3,q4⟩
 |Lb l ih =>
  intro A vs r f h
  simp only [CP.Gb] at h
  split at h<;>try (cases h;done)
  rename_i cs r'
  split at h<;>try (cases h;done)
  rename_i f1 h1
  cases h
  obtain ⟨us,e,e1⟩:=ih h1
  rw [List.append_nil] at e
  subst e
  refine ⟨[.fH cs],rfl,fun a=>?_⟩
  obtain ⟨q1,q2⟩:=e1 a
  exact ⟨.cons (.fH _ _ q1.1 q1.2) .nil,q2⟩
 |Lf l ih =>
  intro A vs r f h
  simp only [CP.Gb] at h
  split at h<;>try (cases h;done)
  rename_i cs r'
  split at h<;>try (cases h;done)
  rename_i f1 h1
  cases h
  obtain ⟨us,e,e1⟩:=ih h1
  rw [List.append_nil] at e
  subst e
  refine ⟨[.agg cs],rfl,fun a=>?_⟩
  obtain ⟨q1,q2⟩:=e1 a
  exact ⟨.cons (.agg _ _ q1.1 q1.2) .nil,q2⟩
 |Hg t g l ih =>
  intro A vs r f h
  simp only [CP.Gb] at h
  split at h<;>try (cases h;done)
  rename_i t' v r'
  split at h<;>try (cases h;done)
  rename_i ht
  split at h<;>try (cases h;done)
  rename_i cs hun
  split at h<;>try (cases h;done)
  rename_i f1 h1
  cases h
  obtain ⟨us,e,e1⟩:=ih h1
  rw [List.append_nil] at e
  subst e
  have e0:=Nat.eq_of_beq_eq_true ht
  subst e0
  refine ⟨[.cB t' v],rfl,fun a=>?_⟩
  obtain ⟨q1,q2⟩:=e1 a
  exact ⟨.cons (.cB _ _ _ (El hun q1)) .nil,q2⟩
 |fn f0 a b Hf Ga =>
  intro A vs r f h
  simp only [CP.Gb] at h
  split at h<;>try (cases h;done)
  rename_i f' va vb r'
  split at h<;>try (cases h;done)
  rename_i hf
  split at h<;>try (cases h;done)
  rename_i g hg
  split at h<;>try (cases h;done)
  rename_i k hk
  cases h
  obtain ⟨us,e,e1⟩:=Hf hg
  rw [List.append_nil] at e
  subst e
  obtain ⟨XN,e',e2⟩:=Ga hk
  rw [List.append_nil] at e'
  subst e'
  have e0:=Nat.eq_of_beq_eq_true hf
  subst e0
  refine ⟨[.fn f' va vb],rfl,fun x=>?_⟩
  obtain ⟨q1,q2⟩:=e1 (k x)
  obtain ⟨q3,q4⟩:=e2 x
  simp only [CP.vs,CP.r,q2]
  exact ⟨.cons (.fn _ _ _ _ _ q1.1 q1.2 q3.1 q3.2) .nil,q4⟩
 |_ =>
  intro A vs r f h
  simp only [CP.Gb] at h
  split at h<;>try (cases h;done)
  rename_i v r'
  split at h<;>try (cases h;done)
  rename_i f1 h1
  cases h
  exact ⟨[v],rfl,fun a=>CP.YA h1 a⟩
theorem CP.sq {c:CP} {v:V} {f:A→c.T A} (h:c.rd π v=some f) (a:A):EV π (c.v (f a)) v∧c.r (f a)=a:=by
 unfold CP.rd at h
 split at h<;>try (cases h;done)
 rename_i f1 h1
 cases h
 obtain ⟨us,e,e1⟩:=CP.YB h1
 rw [List.append_nil] at e
 subst e
 obtain ⟨q1,q2⟩:=e1 a
 refine ⟨?_,q2⟩
 unfold CP.v
 have hl:=q1.1
 cases hc:c.vs (f a) with
 |nil=>rw [hc] at hl;simp at hl
 |cons u r=>exact q1.2 0 u v (by rw [hc];rfl) rfl
theorem jl : ∀ {cs : List CP} {vs : List V} {f : A → mN cs A}, fJ π cs vs = some f → ∀ a, Ds π (qR cs (f a)) vs ∧ sk cs (f a) = a
 |[],[],f,h,a=>by cases h;exact ⟨.nil,rfl⟩
 |c::r,v::vs,f,h,a=>by
  simp only [fJ] at h
  split at h<;>try (cases h;done)
  rename_i f1 h1
  split at h<;>cases h
  rename_i g h2
  obtain ⟨q1,q2⟩:=CP.sq h1 (g a)
  obtain ⟨q3,q4⟩:=jl h2 a
  simp only [qR,sk,q2]
  exact ⟨.cons q1 q3,q4⟩
 |[],_::_,f,h,a=>by simp [fJ] at h
 |_::_,[],f,h,a=>by simp [fJ] at h
theorem SP.sq : ∀ {p : SP} {v : V} {f : A → p.T A}, p.rd π v = some f → ∀ (a : A), EV π (p.v (f a)) v ∧ p.r (f a) = a
 | .c q,v,f,h,a=>CP.sq (c:=q) h a
 | .agg cs,v,f,h,a=>by
  cases v<;>try (cases h;done)
  rename_i vs
  have h':fJ π cs vs=some f:=h
  obtain ⟨h1,h2⟩:=jl h' a
  exact ⟨.agg _ _ h1.1 h1.2,h2⟩
 | .cO cs,v,f,h,a=>by
  cases v<;>try (cases h;done)
  rename_i vs
  have h':fJ π cs vs=some f:=h
  obtain ⟨h1,h2⟩:=jl h' a
  exact ⟨.cO _ _ h1.1 h1.2,h2⟩
 | .fn f' x y,v,f,h,a=>by
  cases v with
  |fn f2 va vb =>
   have h':(match Nat.beq f2 f' with
    |true=>match fJ (A:=mN y A) π x va with
     |some g=>match fJ (A:=A) π y vb with
      |some h=>some fun z=>g (h z)
      |none=>none
     |none=>none
    |false=>none)=some f:=h
   clear h
   cases hf:Nat.beq f2 f' with
   |false=>rw [hf] at h';cases h'
   |true =>
    rw [hf] at h'
    simp only at h'
    cases hg:fJ (A:=mN y A) π x va with
    |none=>rw [hg] at h';cases h'
    |some g =>
     rw [hg] at h'
     simp only at h'
     cases hk:fJ (A:=A) π y vb with
     |none=>rw [hk] at h';cases h'
     |some k =>
      rw [hk] at h'
      have h2:(fun z=>g (k z))=f:=Option.some.inj h'
      obtain ⟨q1,q2⟩:=jl hg (k a)
      obtain ⟨q3,q4⟩:=jl hk a
      have e:=Nat.eq_of_beq_eq_true hf
      subst e
      have e2:SP.v (A:=A) (.fn f2 x y) (g (k a)) = .fn f2 (qR x (g (k a))) (qR y (k a)):=by
       show V.fn f2 _ (qR y (sk x (g (k a))))=_
       rw [q2]
      have e3:SP.r (A:=A) (.fn f2 x y) (g (k a))=a:=by
       show sk y (sk x (g (k a)))=a
       rw [q2,q4]
      have e4:f a=g (k a):=by rw [←h2]
      rw [e4]
      exact ⟨by rw [e2];exact .fn _ _ _ _ _ q1.1 q1.2 q3.1 q3.2,e3⟩
  |_=>cases h
 | .alt x y,v,f,h,a=>by
  cases v with
  |cO vs =>
   have h':(match fJ (A:=A) π x vs with
    |some f=>some fun z=>(Sum.inl (f z):mN x A ⊕ mN y A)
    |none=>match fJ (A:=A) π y vs with
     |some f=>some fun z=>Sum.inr (f z)
     |none=>none)=some f:=h
   clear h
   cases hx:fJ (A:=A) π x vs with
   |some g =>
    rw [hx] at h'
    have h2:=Option.some.inj h'
    subst h2
    obtain ⟨h1,h2⟩:=jl hx a
    exact ⟨.cO _ _ h1.1 h1.2,h2⟩
   |none =>
    rw [hx] at h'
    simp only at h'
    cases hy:fJ (A:=A) π y vs with
    |none=>rw [hy] at h';cases h'
    |some g =>
     rw [hy] at h'
     have h2:=Option.some.inj h'
     subst h2
     obtain ⟨h1,h2⟩:=jl hy a
     exact ⟨.cO _ _ h1.1 h1.2,h2⟩
  |_=>cases h
theorem sr {env : Env} : ∀ {ps : List (Nat × SP)} {f : A → Aa ps A}, A3 π env ps = some f → ∀ a, EE π (yc ps (f a)) env ∧ Oa ps (f a) = a
 |[],f,h,a=>by cases h;exact ⟨fun p hp=>by simp [yc] at hp,rfl⟩
 |(s,p)::r,f,h,a=>by
  simp only [A3] at h
  split at h<;>try (cases h;done)
  rename_i f1 h1
  split at h<;>cases h
  rename_i g h2
  obtain ⟨q1,q2⟩:=SP.sq h1 (g a)
  obtain ⟨q3,q4⟩:=sr h2 a
  simp only [yc,Oa,q2]
  refine ⟨fun x hx=>?_,q4⟩
  rcases List.mem_cons.1 hx with rfl|hx
  ·exact q1
  ·exact q3 x hx
def Oq : qC → qC → Bool
 | .ready,.ready=>true
 | .busy,.busy=>true
 | .done,.done=>true
 | .exhausted,.exhausted=>true
 |_,_=>false
theorem Ot {a b:qC} (h:Oq a b=true):a=b:=by cases a<;>cases b<;>simp_all [Oq]
def YC : Option Ex → Option Ex → Bool
 |none,none=>true
 |some .normal,some .normal=>true
 |some (.exit a),some (.exit b)=>Nat.beq a b
 |some .ret,some .ret=>true
 |_,_=>false
theorem SK {a b:Option Ex} (h:YC a b=true):a=b:=by
 rcases a with _|(_|_|_)<;>rcases b with _|(_|_|_)<;>simp only [YC,Bool.false_eq_true] at h<;>try rfl
 rw [Nat.eq_of_beq_eq_true h]
def BP.rd (π:List Nat) (nx:Nat) (bl:aq) (id:Nat) (p:BP):Option (A→p.T A) :=
 match vC π id with
 |none=>none
 |some i=>match p with
  | .arr t fz=>match ax i bl with
   |some (.arr t' xs XO)=>match kA t' t xs with
    |some ys=>match mB XO fz with
     |true=>some fun a=>(ys,a)
     |false=>none
    |none=>none
   |none=>match Nat.ble nx i with
    |true=>some fun a=>(([]:List t.den),a)
    |false=>none
   |_=>none
  | .cells cs fz=>match ax i bl with
   |some (.cells vs XO)=>match mB XO fz with
    |true=>fJ π cs vs
    |false=>none
   |_=>none
  | .loop st j d env ps as bd N=>match ax i bl with
   |some (.loop st' j' d' env' ps' as' Sg N')=>match an (Oq st' st) (an (YC j' j)<|an (Ab π d d') (an (Ei ps' ps) (an (Nat.beq N' N) (an (jF as' as) (jF Sg bd))))) with
    |true=>A3 π env' env
    |false=>none
   |_=>none
  | .iz=>match ax i bl with
   |some .iz=>some fun a=>a
   |_=>none
  | .map kt kg vt vg=>match ax i bl with
   |some (.map MJ VW MK RK es)=>match an (mB VW kg) (mB RK vg) with
    |true=>match Ir MJ MK kt vt es with
     |some fs=>some fun a=>(fs,a)
     |none=>none
    |false=>none
   |_=>none
  | .nq t k q c=>match ax i bl with
   |some (.nq t' xs k' q' v)=>match an (Nat.beq k' k) (Oi q' q) with
    |true=>match kA t' t xs with
     |some ys=>match CP.rd π c v with
      |some f=>some fun a=>(ys,f a)
      |none=>none
     |none=>none
    |false=>none
   |_=>none
theorem BP.sq {nx:Nat} {bl:aq} {id:Nat} {p:BP} {f:A→p.T A} (h:p.rd π nx bl id=some f) (a:A):EBk π nx bl id (p.v (f a))∧p.r (f a)=a:=by
 unfold BP.rd at h
 split at h
 ·cases h
 ·rename_i i hi
  rw [pV] at hi
  cases p<;>simp only at h
  case arr t fz =>
   split at h
   ·rename_i t' xs XO hb
    split at h<;>try (cases h;done)
    rename_i ys hc
    split at h<;>cases h
    rename_i hfz
    refine ⟨⟨i,hi,.inl ?_⟩,rfl⟩
    obtain ⟨e,he⟩:=ef hc
    subst e;subst he
    rw [hb,ez hfz]
   ·rename_i hb
    split at h<;>cases h
    rename_i hle
    exact ⟨⟨i,hi,.inr ⟨rfl,Nat.le_of_ble_eq_true hle⟩⟩,rfl⟩
   ·cases h
  case cells cs fz =>
   split at h<;>try (cases h;done)
   rename_i vs XO hb
   split at h<;>try (cases h;done)
   rename_i hfz
   obtain ⟨h1,h2⟩:=jl h a
   refine ⟨⟨i,hi,vs,?_,h1⟩,h2⟩
   rw [hb,ez hfz]
  case loop st j d env ps as bd N =>
   split at h<;>try (cases h;done)
   rename_i st' j' d' env' ps' as' Sg N' hb
   split at h<;>try (cases h;done)
   rename_i hc
   simp only [aX] at hc
   obtain ⟨c1,cj,c2,c3,c4,c5,c6⟩:=hc
   obtain ⟨h1,h2⟩:=sr h a
   refine ⟨⟨i,hi,d',env',?_,l7 c2,h1⟩,h2⟩
   rw [hb,Ot c1,SK cj,sn c3,Nat.eq_of_beq_eq_true c4,vY c5,vY c6]
  case iz =>
   split at h<;>cases h
   rename_i hb
   exact ⟨⟨i,hi,hb⟩,rfl⟩
  case map kt kg vt vg =>
   split at h<;>try (cases h;done)
   rename_i MJ VW MK RK es hb
   split at h<;>try (cases h;done)
   rename_i hg
   split at h<;>try (cases h;done)
   rename_i fs hc
   cases h
   simp only [aX] at hg
   rw [ez hg.1,ez hg.2] at hb
   unfold Ir at hc
   split at hc<;>try (cases hc;done)
   rename_i he
   obtain ⟨rfl,rfl⟩:=he
   cases hc
   exact ⟨⟨i,hi,hb⟩,rfl⟩
  case nq t k q c =>
   split at h<;>try (cases h;done)
   rename_i t' xs k' q' v hb
   split at h<;>try (cases h;done)
   rename_i hc
   simp only [aX] at hc
   split at h<;>try (cases h;done)
   rename_i ys hy
   split at h<;>try (cases h;done)
   rename_i f' hf
   cases h
   obtain ⟨e,he⟩:=ef hy
   subst e;subst he
   obtain ⟨h1,h2⟩:=CP.sq hf a
   refine ⟨⟨i,hi,v,?_,h1⟩,h2⟩
   rw [hb,Nat.eq_of_beq_eq_true hc.1,Eh hc.2]
def Ou (π : List Nat) (nx : Nat) (bl : aq) : (ps : List (Nat × BP)) → Option (A → SD ps A)
 |[]=>some fun a=>a
 |(id,p)::r=>match BP.rd (A:=SD r A) π nx bl id p with
  |some f=>match Ou π nx bl r with
   |some g=>some fun a=>f (g a)
   |none=>none
  |none=>none
theorem Cp {nx : Nat} {bl : aq} : ∀ {ps : List (Nat × BP)} {f : A → SD ps A}, Ou π nx bl ps = some f → ∀ a, (∀ p ∈ Rx ps (f a), EBk π nx bl p.1 p.2) ∧ (Rx ps (f a)).map (·.1) = ps.map (·.1)
 |[],f,h,a=>by cases h;exact ⟨fun p hp=>by simp [Rx] at hp,rfl⟩
 |(s,p)::r,f,h,a=>by
  simp only [Ou] at h
  split at h<;>try (cases h;done)
  rename_i f1 h1
  split at h<;>cases h
  rename_i g h2
  obtain ⟨q1,q2⟩:=BP.sq h1 (g a)
  obtain ⟨q3,q4⟩:=Cp h2 a
  simp only [Rx,q2]
  refine ⟨fun x hx=>?_,by simp [q4]⟩
  rcases List.mem_cons.1 hx with rfl|hx
  ·exact q1
  ·exact q3 x hx
def Lh (nx b : Nat) : V → Option Nat
 | .sl i _ _ _=>some i
 | .ptr i _=>some i
 | .yl i=>some i
 | .mp i=>some i
 | .pa i _ _=>some i
 | .ep i _ _ _=>some i
 | .cq=>some (nx+b)
 | .cB _ (.ptr i _)=>some i
 |_=>none
def Ov : List V → Nat → Option V
 |[],_=>none
 |v::_,0=>some v
 |_::r,n+1=>Ov r n
def YD (π : List Nat) (env : Env) (nx : Nat) (bl : aq) (ms : List Nat) (b : Nat) : Lc → Option Nat
 | .slot s=>Lh nx b (get s env)
 | .part s k=>match get s env with
  | .agg cs=>match Ov cs k with
   |some v=>Lh nx b v
   |none=>none
  | .fn _ a c=>match Ov (a++c) k with
   |some v=>Lh nx b v
   |none=>none
  | .cO cs=>match Ov cs k with
   |some v=>Lh nx b v
   |none=>none
  |_=>none
 | .cell b' k=>match vC π b' with
  |some i=>match ax i bl with
   |some (.cells cs _)=>match Ov cs k with
    |some v=>Lh nx b v
    |none=>none
   |some (.nq _ _ _ _ v)=>Lh nx b v
   |_=>none
  |none=>none
 | .old i=>some i
 | .mark j=>vC ms j
def snoc {R : Type} : List Nat → Nat → (List Nat → R) → R
 |[],i,k=>k [i]
 |j::r,i,k=>snoc r i fun r'=>k (j::r')
theorem Cq {R : Type} : ∀ (l : List Nat) (i : Nat) (k : List Nat → R), snoc l i k = k (l ++ [i])
 |[],_,_=>rfl
 |j::r,i,k=>by simp only [snoc,Cq r];rfl
def su {R : Type} (no : R) (env : Env) (nx : Nat) (bl : aq) (ms : List Nat) : List Lc → List Nat → Nat → (List Nat → R) → R
 |[],π,_,k=>k π
 |l::r,π,b,k=>match YD π env nx bl ms b l with
  |some i=>fN i fun i=>snoc π i fun π=>fN (b+1) fun b=>su no env nx bl ms r π b k
  |none=>no
theorem yg {X:Type} {no:Option X} {env:Env} {nx:Nat} {bl:aq} {ms:List Nat}:∀{ls:List Lc} {π:List Nat} {b:Nat} {k:List Nat→Option X} {x:X},su no env nx bl ms ls π b k=some x →
  no=some x∨∃r,r.length=ls.length∧k (π++r)=some x
 |[],π,b,k,x,h=>.inr ⟨[],rfl,by simpa [su] using h⟩
 |l::ls,π,b,k,x,h=>by
  simp only [su] at h
  split at h
  ·rename_i i hi
   rw [gb,Cq,gb] at h
   rcases yg h with h|⟨r,h1,h2⟩
   ·exact .inl h
   ·exact .inr ⟨i::r,by simp [h1],by simpa using h2⟩
  ·exact .inl h
def Ow (π:List Nat) (a b:Nat):Bool:=match vC π a with
 |some i=>match vC π b with
  |some j=>match Nat.beq i j with
   |true=>false
   |false=>true
  |none=>false
 |none=>false
def Cr (π : List Nat) (a : Nat) : List (Nat × BP) → Bool
 |[]=>true
 |(b,_)::r=>match Ow π a b with
  |true=>Cr π a r
  |false=>false
def yh (π : List Nat) : List (Nat × BP) → Bool
 |[]=>true
 |(a,_)::r=>match Cr π a r with
  |true=>yh π r
  |false=>false
theorem Ox {a b:Nat} (h:Ow π a b=true):π[a]?≠π[b]?:=by
 unfold Ow at h
 split at h<;>try (cases h;done)
 rename_i i hi
 split at h<;>try (cases h;done)
 rename_i j hj
 split at h<;>try (cases h;done)
 rename_i hij
 rw [←pV,←pV,hi,hj]
 intro e;cases e
 rw [Nat.beq_refl] at hij;cases hij
theorem ur {a : Nat} : ∀ {r : List (Nat × BP)}, Cr π a r = true → ∀ b ∈ r.map (·.1), π[a]? ≠ π[b]?
 |[],_,b,hb=>by simp at hb
 |(c,_)::r,h,b,hb=>by
  simp only [Cr] at h
  split at h<;>try (cases h;done)
  rename_i hd
  simp only [List.map_cons,List.mem_cons] at hb
  rcases hb with rfl|hb
  ·exact Ox hd
  ·exact ur h b hb
theorem yj : ∀ {r : List (Nat × BP)}, yh π r = true → ∀ a ∈ r.map (·.1), ∀ b ∈ r.map (·.1), π[a]? = π[b]? → a = b
 |[],_,a,ha=>by simp at ha
 |(c,_)::r,h,a,ha=>by
  simp only [yh] at h
  split at h<;>try (cases h;done)
  rename_i hd
  intro b hb e
  simp only [List.map_cons,List.mem_cons] at ha hb
  rcases ha with rfl|ha<;>rcases hb with rfl|hb
  ·rfl
  ·exact absurd e (ur hd b hb)
  ·exact absurd e.symm (ur hd a ha)
  ·exact yj h a ha b hb e
def Li (π : List Nat) : List Nat → List Nat → Bool
 |[],[]=>true
 |a::r,i::s=>match Ab π a i with
  |true=>Li π r s
  |false=>false
 |_,_=>false
theorem Jb : ∀ {ps ms : List Nat}, Li π ps ms = true → ps.map (fun i => π[i]?) = ms.map some
 |[],[],_=>rfl
 |a::r,i::s,h=>by
  simp only [Li] at h
  split at h<;>try (cases h;done)
  rename_i ha
  simp [l7 ha,Jb h]
 |[],_::_,h=>by simp [Li] at h
 |_::_,[],h=>by simp [Li] at h
def az.rd {R:Type} (no:R) (pre:List Nat) (base:Nat) (p:az) (env:Env) (nx:Nat) (bl:aq) (ms:List Nat) (k:p.T→R):R :=
 su no env nx bl ms p.gR pre base fun π=>match an (Li π p.ms ms) (yh π p.bl) with
  |true=>match A3 (A:=SD p.bl Unit) π env p.env with
   |some f=>match Ou (A:=Unit) π nx bl p.bl with
    |some g=>k (f (g ()))
    |none=>no
   |none=>no
  |false=>no
theorem az.Jc {X:Type} {no:Option X} {base:Nat} {p:az} {env:Env} {nx:Nat} {bl:aq} {ms:List Nat} {k:p.T→Option X} {r:X} (h:p.rd no (List.range base) base env nx bl ms k=some r) :
  no=some r∨∃x π,k x=some r∧jE base π ⟨env,⟨nx,bl⟩,ms⟩ (p.st base x):=by
 rcases yg h with h|⟨rr,hlen,h⟩
 ·exact .inl h
 split at h
 ·rename_i hc
  rw [aX] at hc
  split at h
  ·rename_i f hf
   split at h
   ·rename_i g hg
    obtain ⟨h1,h2⟩:=sr hf (g ())
    obtain ⟨h3,h4⟩:=Cp hg ()
    refine .inr ⟨f (g ()),List.range base++rr,h,?_⟩
    constructor
    ·simp
    ·simp [az.st,hlen]
    ·exact Jb hc.1
    ·exact h1
    ·simp only [az.st,az.B,h2];exact h3
    ·simp only [az.st, az.B, h2]
     intro q hq s hs e
     refine yj hc.2 q.1 ?_ s.1 ?_ e
     ·rw [←h4];exact List.mem_map_of_mem hq
     ·rw [←h4];exact List.mem_map_of_mem hs
   ·exact .inl h
  ·exact .inl h
 ·exact .inl h
theorem az.dL {X:Type} {base:Nat} {p:az} {env:Env} {nx:Nat} {bl:aq} {ms:List Nat} {k:p.T→Option X} {r:X} (h:p.rd none (List.range base) base env nx bl ms k=some r) :
  ∃x π,k x=some r∧jE base π ⟨env,⟨nx,bl⟩,ms⟩ (p.st base x):=by
 rcases az.Jc h with h|h
 ·cases h
 ·exact h
end
end Go.AM
end
section
namespace Go.AM
@[reducible] def eV (k:IntKind) (z:Int):Bool:=k.min≤z&&z≤k.max
@[reducible] def ee (i n:Int):Bool:=decide (0≤i∧i<n)
@[reducible] def XE (a b:Int):Int:=if b<a then b else a
@[reducible] def imax (a b:Int):Int:=if b > a then b else a
@[reducible] def seq (a b:ByteArray):Bool:=a.toList==b.toList
@[reducible] def slt (a b:ByteArray):Bool:=Op.bytesLess a.toList b.toList
@[reducible] def Gn (c a b:Bool):Bool:=if c then a else b
def Hi : Ex → Ex → Bool
 | .normal,.normal=>true
 | .exit a,.exit b=>Nat.beq a b
 | .ret,.ret=>true
 |_,_=>false
theorem Jd {a b:Ex} (h:Hi a b=true):a=b:=by
 cases a<;>cases b<;>simp only [Hi,Bool.false_eq_true] at h<;>try rfl
 rw [Nat.eq_of_beq_eq_true h]
abbrev bf:=List (Ex×az)
def bf.T : bf → Type
 |[]=>Empty
 |[(_,p)]=>p.T
 |(_,p)::q::r=>p.T ⊕ bf.T (q::r)
def bf.st (base : Nat) : (xs : bf) → xs.T → Ex × St
 |[],x=>nomatch x
 |[(e,p)],x=>(e,p.st base x)
 |(_,_)::q::r,.inr y=>bf.st base (q::r) y
 |(e,p)::_::_,.inl x=>(e,p.st base x)
section
variable {R:Type}
def SM : List V → (List V → R) → R
 |[],k=>k []
 |v::r,k=>fV v fun v=>SM r fun r=>k (v::r)
theorem nN : ∀ (l : List V) (k : List V → R), SM l k = k l
 |[],k=>rfl
 |v::r,k=>by simp only [SM,oa,nN r]
def Lk : Env → (Env → R) → R
 |[],k=>k []
 |(s,v)::r,k=>fV v fun v=>Lk r fun r=>k ((s,v)::r)
theorem sv : ∀ (l : Env) (k : Env → R), Lk l k = k l
 |[],k=>rfl
 |(s,v)::r,k=>by simp only [Lk,oa,sv r]
def YE (b:lM) (k:lM→R):R:=match b with
 | .cells cs fz=>SM cs fun cs=>k (.cells cs fz)
 | .arr t xs fz=>k (.arr t xs fz)
 | .loop st j d env ps as bd N=>Lk env fun env=>k (.loop st j d env ps as bd N)
 | .iz=>k .iz
 | .map kt kg vt vg es=>k (.map kt kg vt vg es)
 | .nq t xs i p v=>fV v fun v=>k (.nq t xs i p v)
theorem SN (b:lM) (k:lM→R):YE b k=k b:=by cases b<;>simp only [YE,nN,sv,oa]
def fBl : aq → (aq → R) → R
 |[],k=>k []
 |(s,b)::r,k=>YE b fun b=>fBl r fun r=>k ((s,b)::r)
theorem Cs : ∀ (l : aq) (k : aq → R), fBl l k = k l
 |[],k=>rfl
 |(s,b)::r,k=>by simp only [fBl,SN,Cs r]
def az.go (p:az) (nx:Nat) (x:p.T) (k:Env→Nat→aq→List Nat→R):R:=Lk (p.E x) fun env=>fBl (p.B x) fun bl=>k env nx bl p.ms
theorem az.go_eq (p:az) (nx:Nat) (x:p.T) (k:Env→Nat→aq→List Nat→R):p.go nx x k=k (p.E x) nx (p.B x) p.ms:=by
 unfold az.go;rw [sv,Cs]
def bf.go (kz : Kz R) (base : Nat) : (xs : bf) → xs.T → Kc R → R
 |[],x,_=>nomatch x
 |[(e,p)],x,k=>fN (base+p.gR.length) fun nx=>p.go nx x (k e)
 |(e,p)::q::r,x,k=>kz.sm x (fun x=>fN (base+p.gR.length) fun nx=>p.go nx x (k e)) fun y=>bf.go kz base (q::r) y k
end
theorem bf.A4 {X:Type} {base:Nat}:∀{xs:bf} {x:xs.T} {k:Kc (Option X)} {r:X},xs.go (iN X) base x k=some r →
  k (xs.st base x).1 (xs.st base x).2.env (xs.st base x).2.H.next (xs.st base x).2.H.bl (xs.st base x).2.ms=some r
 |[],x,_,_,_=>nomatch x
 |[(e,p)],x,k,r,h=>by
  simp only [bf.go,gb] at h
  exact (az.go_eq p _ (show p.T from x) (k e)).symm.trans h
 |(e,p)::q::s,x,k,r,h=>by
  simp only [bf.go,iN] at h
  cases x with
  |inl x =>
   simp only [gb] at h
   rw [az.go_eq] at h
   exact h
  |inr y=>exact bf.A4 (xs:=q::s) (x:=y) h
def bf.rd {R : Type} (no : R) (pre : List Nat) (base : Nat) : (xs : bf) → Ex → Env → Nat → aq → List Nat → (xs.T → R) → R
 |[],_,_,_,_,_,_=>no
 |[(e',p)],e,env,nx,bl,ms,k=>match Hi e' e with
  |true=>p.rd no pre base env nx bl ms k
  |false=>no
 |(e',p)::q::r,e,env,nx,bl,ms,k=>match Hi e' e with
  |true=>p.rd (bf.rd no pre base (q::r) e env nx bl ms fun x=>k (.inr x)) pre base env nx bl ms fun x=>k (.inl x)
  |false=>bf.rd no pre base (q::r) e env nx bl ms fun x=>k (.inr x)
theorem bf.dL {X:Type} {base:Nat} {env:Env} {nx:Nat} {bl:aq} {ms:List Nat}:∀{xs:bf} {e:Ex} {k:xs.T→Option X} {r:X},xs.rd none (List.range base) base e env nx bl ms k=some r →
  ∃x π,k x=some r∧e=(xs.st base x).1∧jE base π ⟨env,⟨nx,bl⟩,ms⟩ (xs.st base x).2
 |[],_,_,_,h=>by simp [bf.rd] at h
 |[(e',p)],e,k,r,h=>by
  simp only [bf.rd] at h
  split at h<;>try (cases h;done)
  rename_i he
  obtain ⟨x,π,h1,h2⟩:=az.dL h
  exact ⟨x,π,h1,(Jd he).symm,h2⟩
 |(e',p)::q::s,e,k,r,h=>by
  simp only [bf.rd] at h
  split at h
  ·rename_i he
   rcases az.Jc h with h|⟨x,π,h1,h2⟩
   ·obtain ⟨x, π, h1, h2, h3⟩ := bf.dL (xs := q :: s) h
    exact ⟨.inr x,π,h1,h2,h3⟩
   ·exact ⟨.inl x,π,h1,(Jd he).symm,h2⟩
  ·obtain ⟨x, π, h1, h2, h3⟩ := bf.dL (xs := q :: s) h
   exact ⟨.inr x,π,h1,h2,h3⟩
def ij {R:Type} (no:R) (pre:List Nat) (base:Nat) (p:az) (xs:bf) (inl:p.T→R) (inr:xs.T→R):Kc R:=fun e env nx bl ms=>match e with
 | .normal=>p.rd no pre base env nx bl ms inl
 | .exit i=>xs.rd no pre base (.exit i) env nx bl ms inr
 | .ret=>xs.rd no pre base .ret env nx bl ms inr
def qS {P:Program} {N:Nat} {out:Option Nat} {base:Nat} {R:Type} (kz:Kz R) (cx:Cx) (ar:Ar) (pre:List Nat) (p:az) (xs:bf) (body:D P N out base) (inl:p.T→R) (inr:xs.T→R) (x:p.T):R :=
 fN (base+p.gR.length) fun nx=>p.go nx x fun env nx bl ms=>kE kz cx ar body env nx bl ms (ij kz.no pre base p xs inl inr)
section
variable {P:Program} {N:Nat} {out:Option Nat} {base:Nat}
noncomputable def bx (mixed : P.follows .mixedOrders = true) (cx : Cx) (gD : cx.Ok P) (pre : List Nat) (hpre : pre = List.range base) (p : az) (xs : bf) (hxs : xs.all (fun p => !Hi p.1 .normal) = true) (body : D P N out base)
  (step:p.T→Option (p.T ⊕ xs.T)) (hstep:∀x,qS (iN (p.T ⊕ xs.T)) cx dY pre p xs body (fun y=>some (.inl y)) (fun b=>some (.inr b)) x=step x):bQ P N out base where
 c:=body.er
 run kz env nx bl ms K:=p.rd kz.no pre base env nx bl ms fun x=>kz.bd (iter step x) fun b=>xs.go kz base b K
 ok:=by
  intro X env nx bl ms K r h Q hQ
  subst hpre
  obtain ⟨x,π,h1,h2⟩:=az.dL h
  obtain ⟨b,h3,h4⟩:=pU h1
  have h5:=bf.A4 h4
  refine K5 (iK mixed) (I:=p.st base) (X:=xs.st base) (step:=step) (fun x r hx=>?_) h3 h2 (hQ _ _ _ _ _ h5)
  rw [←hstep x] at hx
  unfold qS at hx
  rw [gb,az.go_eq] at hx
  refine l5 gD hx fun e env nx bl ms hk=>?_
  unfold ij at hk
  cases e with
  |normal =>
   obtain ⟨y,π,q1,q2⟩:=az.dL hk
   cases q1
   exact ⟨rfl,π,q2⟩
  |exit i =>
   obtain ⟨y,π,q1,q2,q3⟩:=bf.dL hk
   cases q1
   exact ⟨by simp,q2,π,q3⟩
  |ret =>
   obtain ⟨y,π,q1,q2,q3⟩:=bf.dL hk
   cases q1
   exact ⟨by simp,q2,π,q3⟩
def qT : List SP → Type → Type
 |[],A=>A
 |p::r,A=>p.T (qT r A)
def Em {A : Type} : (ps : List SP) → qT ps A → List V
 |[],_=>[]
 |p::r,x=>p.v x::Em r (p.r x)
def YF {A : Type} : (ps : List SP) → qT ps A → A
 |[],x=>x
 |p::r,x=>YF r (p.r x)
def A5 {A : Type} (π : List Nat) : (ps : List SP) → List V → Option (A → qT ps A)
 |[],[]=>some fun a=>a
 |p::r,v::vs=>match SP.rd (A:=qT r A) π p v with
  |some f=>match A5 π r vs with
   |some g=>some fun a=>f (g a)
   |none=>none
  |none=>none
 |_,_=>none
theorem Eo {π : List Nat} {A : Type} : ∀ {ps : List SP} {vs : List V} {f : A → qT ps A}, A5 π ps vs = some f → ∀ a, Ds π (Em ps (f a)) vs ∧ YF ps (f a) = a
 |[],[],f,h,a=>by cases h;exact ⟨.nil,rfl⟩
 |c::r,v::vs,f,h,a=>by
  simp only [A5] at h
  split at h<;>try (cases h;done)
  rename_i f1 h1
  split at h<;>cases h
  rename_i g h2
  obtain ⟨q1,q2⟩:=SP.sq h1 (g a)
  obtain ⟨q3,q4⟩:=Eo h2 a
  simp only [Em,YF,q2]
  exact ⟨.cons q1 q3,q4⟩
 |[],_::_,f,h,a=>by simp [A5] at h
 |_::_,[],f,h,a=>by simp [A5] at h
structure Ct where
 f:Nat
 ps:List SP
 res:SP
 fn:qT ps Unit→Option (res.T Unit)
def Ct.Ok (P:Program) (ct:Ct):Prop:=∀x y,ct.fn x=some y→gW P ct.f (Em ct.ps x) (ct.res.v y)
theorem Ep {π:List Nat}:Mu.ff (fun _=>none) π=fun _=>none:=by
 funext i;simp only [Mu.ff];cases π[i]?<;>rfl
theorem Cu {f:Nat} {vs vs':List V} {v:V} {nx:Nat} {bl:aq} (h:gW P f vs' v) (hm:dw (fin dY bl 8) vs=some vs') (hs:DB v=true) {Q:V→aI→Prop} (hQ:Q v ⟨nx,bl⟩):gY P f vs ⟨nx,bl⟩ Q:=by
 refine ⟨h.1,fun Y ι μ w as hI hl=>?_⟩
 refine (h.2 (ι.all Y.own w) w as (hI.dF.mono (au.B5 hI.rd)) (fun b o x hx=>?_) (jk (fun v r x h hr=>vU (fun _ _ _=>rfl) hI h hr) hm hl)).mono ?_
 ·exact au.GL hI.rd hx
 ·rintro e w' ⟨x, ι', rfl, _, _, _, jY, GI⟩
  exact ⟨x,ι,μ,v,_,rfl,au.le_refl _,Mu.le_refl _,hI.called (au.le_refl _) (fun _ _ _=>rfl) (dz.kept (fun b o x hx=>hI.rd b o x hx) jY) jY,D6 hs GI,hQ⟩
def Er {R : Type} (kz : Kz R) (f : Nat) (vs : List V) (K : V → R) : List Ct → R
 |[]=>kz.no
 |ct::r=>match Nat.beq ct.f f with
  |true=>match A5 (A:=Unit) [] ct.ps vs with
   |some g=>kz.bd (ct.fn (g ())) fun y=>ct.res.kv kz y K
   |none=>Er kz f vs K r
  |false=>Er kz f vs K r
def Je (P : Program) : List Ct → Prop
 |[]=>True
 |c::r=>c.Ok P∧Je P r
theorem pX {X : Type} {f : Nat} {vs : List V} {K : V → Option X} {r : X} : ∀ {vZ : List Ct}, Je P vZ → Er (iN X) f vs K vZ = some r → ∃ v, gW P f vs v ∧ K v = some r
 |[],_,hk=>by cases hk
 |ct::vZ,h,hk=>by
  simp only [Er] at hk
  split at hk
  ·rename_i hf
   have e:=Nat.eq_of_beq_eq_true hf
   subst e
   split at hk
   ·rename_i g hg
    obtain ⟨y,hy,hk⟩:=qP hk
    rw [SP.ac1] at hk
    obtain ⟨q1,_⟩:=Eo hg ()
    refine ⟨_,?_,hk⟩
    have hp:=h.1 _ _ hy
    exact ⟨hp.1, fun ι w as hgl hrd hl => hp.2 ι w as hgl hrd (by
     have:=aJ.ff (π:=[]) q1.1 (fun i v u hv hu=>fun {x} hr=>(q1.2 i v u hv hu).rel hr) hl
     rwa [Ep] at this)⟩
   ·exact pX h.2 hk
  ·exact pX h.2 hk
theorem Ll {f:Nat} {vs vs':List V} {v:V} {nx:Nat} {bl bT:aq} (h:gW P f vs' v) (hm:dw (fin dY bl 8) vs=some vs') (hb:uY (jN bl vs) bl=some bT) {Q:V→aI→Prop} (hQ:Q v ⟨nx,bT⟩):gY P f vs ⟨nx,bl⟩ Q:=by
 refine ⟨h.1,fun Y ι μ w as hI hl=>?_⟩
 obtain ⟨ι',h1,h2,h3⟩:=vW hI hb
 have hl':aJ ι' (fun _=>none) vs' as.toList:=by
  have key:∀{vs vs':List V} {xs:List Value},dw (fin dY bl 8) vs=some vs'→(∀id∈jN bl vs,zU ι' μ id (ax id bl))→aJ ι μ vs xs→aJ ι' (fun _=>none) vs' xs:=by
   intro vs
   induction vs with
   |nil=>intro vs' xs hm _ hl;cases hm;rw [hl.of_nil];exact .nil
   |cons v r ih =>
    intro vs' xs hm hfz hl
    unfold dw at hm
    split at hm<;>try (cases hm;done)
    rename_i u hu
    split at hm<;>cases hm
    rename_i us IJ
    obtain ⟨x,xs',rfl,r1,r2⟩:=hl.bI
    simp only [jN,List.flatMap_cons,List.mem_append] at hfz
    exact .cons (B8 hu (fun id hid=>hfz id (.inl hid)) (r1.mono h1 (Mu.le_refl _))) (ih IJ (fun id hid=>hfz id (.inr hid)) r2)
  exact key hm h3 hl
 refine (h.2 ι' w as h2.dF (fun b o x hx=>h2.rd b o x hx) hl').mono ?_
 rintro e w' ⟨x,ι2,rfl,hi,hib,hrd,jY,GI⟩
 exact ⟨x,ι2,μ,v,_,rfl,au.le_trans h1 hi,Mu.le_refl _,h2.called hi hib hrd jY,GI.mono (au.le_refl _) (fun _ _ h=>by cases h),hQ⟩
def YG {R:Type} (vZ:List Ct) (kz:Kz R) (f:Nat) (vs:List V) (nx:Nat) (bl:aq) (K:V→Nat→aq→R):R:=match vs.all (dQ 8) with
 |true=>Er kz f vs (fun v=>K v nx bl) vZ
 |false=>match dw (fin dY bl 8) vs with
  |some vs'=>Er kz f vs' (fun v=>match DB v with
   |true=>K v nx bl
   |false=>match uY (jN bl vs) bl with
    |some bT=>fBl bT fun bT=>K v nx bT
    |none=>kz.no) vZ
  |none=>kz.no
def mkCx (vZ:List Ct):Cx where
 pc kz f vs K:=Er kz f vs K vZ
 ca kz f vs nx bl K:=YG vZ kz f vs nx bl K
 rd kz _ _ _ _ _:=kz.no
theorem SO {vZ:List Ct} (h:Je P vZ):(mkCx vZ).Ok P where
 Wg hk:=pX h hk
 SC:=by
  intro X f vs nx bl K r hk Q hQ
  simp only [mkCx,YG] at hk
  split at hk
  ·rename_i hd
   obtain ⟨v,hp,hk⟩:=pX h hk
   exact GQ hp hd (hQ _ _ _ hk)
  ·split at hk <;> try (cases hk; done)
   rename_i vs' hm
   obtain ⟨v,hp,hk⟩:=pX h hk
   split at hk
   ·rename_i hs
    exact Cu hp hm hs (hQ _ _ _ hk)
   ·split at hk <;> try (cases hk; done)
    rename_i bT hb
    rw [Cs] at hk
    exact Ll hp hm hb (hQ _ _ _ hk)
 Yx hk:=by cases hk
def YH {R:Type} (kz:Kz R) (ar:Ar) (rs:List RV) (tys:List (Option Ty)) (res:SP) (k:res.T Unit→R):Kc R:=fun e env nx bl ms=>match e with
 | .exit _=>kz.no
 | .normal=>go env nx bl ms
 | .ret=>go env nx bl ms
where go (env:Env) (nx:Nat) (bl:aq) (ms:List Nat):R:=match eS ms bl with
 |some bl=>match vz ar ⟨env,⟨nx,bl⟩,[]⟩ rs with
  |some vs=>match fin ar bl 8 (uT (cT tys vs)) with
   |some v=>match SP.rd (A:=Unit) [] res v with
    |some f=>k (f ())
    |none=>kz.no
   |none=>kz.no
  |none=>kz.no
 |none=>kz.no
def fnE {R:Type} (kz:Kz R) (cx:Cx) (ar:Ar) (rs:List RV) (tys:List (Option Ty)) (ps:List SP) (res:SP) (body:D P N none 0) (k:res.T Unit→R) (x:qT ps Unit):R :=
 SM (Em ps x) fun vs=>kE kz cx ar body (args 0 vs) 0 [] [] (YH kz ar rs tys res k)
theorem Lm {f : Nat} {func : Func} {fn : Fn} (hf : P.funcs[f]? = some func) (htr : cM P func = some fn) (cI : Enters P f) (ic : nG P fn.N none 0) {vs : List V} {r : V} (hlen : vs.length ≤ fn.np)
  (h:rP (gx P fn.N none 0) fn.body ⟨args 0 vs,⟨0,[]⟩,[]⟩ (KR (gx P fn.N none 0) fn.res fn.tys (fun r'=>EV [] r r'))):gW P f vs r:=by
 refine ⟨cI,fun ι w as hgl hrd hr=>?_⟩
 let Y:Ctx:=⟨w,ι,fun _=>none,none,fun _=>False,[]⟩
 have hI:Inv P Y ι (fun _=>none) ⟨0,[]⟩ w:=⟨IC.refl _ _,au.le_refl _,fun _ _ _ _=>rfl,hrd,fun id L h=>h,fun _ _=>rfl,fun id B h=>by simp [ax] at h,fun id id' B B' L L' h=>by simp [ax] at h,fun id B h=>by simp [ax] at h,hgl⟩
 have hres:M7 P func.results.toList=some fn.res:=by
  unfold cM at htr
  split at htr<;>try (cases htr;done)
  split at htr<;>try (cases htr;done)
  rename_i Rq
  split at htr<;>try (cases htr;done)
  cases htr;exact Rq
 refine IQ (Y:=Y) hf htr ic hlen h rfl rfl (fun _ _=>rfl) hI hr fun Y1 ι' μ' S' a' w' e' hY hR hq=>?_
 have key:KR.qG (gx P fn.N none 0) fn.res fn.tys (fun r'=>EV [] r r') S'→LeavesInM Fence.wide 0 P func a'.tmps (fun e w'=>∃v ι',e = .returned v∧ι.le ι'∧(∀b o,b<w.heap.size→ι' b o=ι b o)∧dz ι' w' ∧
   Dw w w'∧Rel ι' (fun _=>none) r v) a'.defers .returning w':=by
  intro hs
  unfold KR.qG at hs
  split at hs<;>try (exact hs.elim)
  rename_i bl rE
  split at hs<;>try (exact hs.elim)
  rename_i vs' hvs
  split at hs<;>try (exact hs.elim)
  rename_i r' Oy
  refine uc hres (n:=S'.H.next) (bl:=S'.H.bl) hY rfl hR.inv hR.env hR.ms rE hvs fun x w2 oD hx=>?_
  refine ⟨x,ι'.all Y.own w2,rfl,au.le_trans oD.i0 (au.B5 oD.rd),fun b o hb=>?_,fun b o y hy=>?_,oD.below.to (fun _ h=>h),?_⟩
  ·rw [au.R9 (fun h=>by rcases h with h|h;exact absurd hb (Nat.not_lt.2 h);exact h)];exact oD.iB b o hb (fun h=>h)
  ·exact au.GL oD.rd hy
  ·have := hs.rel (vU (Y := Y) (ar := gx P fn.N none 0) (fun _ _ _ => rfl) oD Oy (hx fn.tys))
   rwa [Ep] at this
 cases e' with
 |exit id=>exact hq.elim
 |normal=>exact ⟨.inl rfl,key hq⟩
 |ret=>exact ⟨.inr rfl,key hq⟩
theorem cF (mixed : P.follows .mixedOrders = true) {cx : Cx} (gD : cx.Ok P) {func : Func} {fn : Fn} {ct : Ct} (hf : P.funcs[ct.f]? = some func) (htr : cM P func = some fn) (cI : Enters P ct.f)
  (body:D P fn.N none 0) (hbody:body.er=fn.body) (hnp:Nat.ble ct.ps.length fn.np=true) (hfn:∀x,fnE (iN (ct.res.T Unit)) cx dY fn.res fn.tys ct.ps ct.res body some x=ct.fn x):ct.Ok P:=by
 intro x y hxy
 rw [←hfn x] at hxy
 unfold fnE at hxy
 rw [nN] at hxy
 have hlen:∀(ps:List SP) (x:qT ps Unit),(Em ps x).length=ps.length:=by
  intro ps
  induction ps with
  |nil=>intro x;rfl
  |cons p r ih=>intro x;simp [Em,ih]
 have hwp:=l5 (Q:=KR (gx P fn.N none 0) fn.res fn.tys (fun r=>EV [] (ct.res.v y) r)) gD hxy (fun e env nx bl ms hk=>by
  have key:YH.go (iN (ct.res.T Unit)) dY fn.res fn.tys ct.res some env nx bl ms=some y→KR.qG (gx P fn.N none 0) fn.res fn.tys (fun r=>EV [] (ct.res.v y) r) ⟨env,⟨nx,bl⟩,ms⟩:=by
   intro hg
   unfold YH.go at hg
   unfold KR.qG
   split at hg<;>try (cases hg;done)
   rename_i bT h1
   rw [h1]
   simp only
   split at hg<;>try (cases hg;done)
   rename_i vs h2
   rw [h2]
   simp only
   have e:fin (gx P fn.N none 0) bT 8 (uT (cT fn.tys vs))=fin dY bT 8 (uT (cT fn.tys vs)):=by unfold gx;exact xQ
   rw [e]
   split at hg<;>try (cases hg;done)
   rename_i v h3
   rw [h3]
   simp only
   split at hg<;>try (cases hg;done)
   rename_i f h4
   cases hg
   exact (SP.sq h4 ()).1
  cases e with
  |exit i=>cases hk
  |normal=>exact key hk
  |ret=>exact key hk)
 rw [hbody] at hwp
 exact Lm hf htr cI (iK mixed) (by rw [hlen];exact Nat.le_of_ble_eq_true hnp) hwp
end
end Go.AM
end
