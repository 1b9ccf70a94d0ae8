/- A region whose order is drawn: whatever the order, it ends as the canonical one. Calls in the caller's heap, loops unrolled, loops over functions. A call of yield: a round of the loop. The small machine, run. The way in: what an argument reads as is data of the machine. States that stand for as much, in general: names may change, nil slices may stand for empty lists, blocks that nobody reads are forgotten. The small machine's code as a function: tests, needs and calls stay open, all else is reckoned. Patterns: what stands in slots and blocks, with places for data; read out of a state, and laid again. Code that is the same, as a test. What is read by a pattern stands for what was there. Loops and functions, as functions of their data. -/
import Derived.Test.YthemjfloiapaaaaGreatAMb
import Derived.OrdersIn
import Derived.ProofKit
import Derived.OpenShut
import Derived.Maps.RangeRun
set_option linter.unusedSectionVars false
set_option linter.unusedVariables false
set_option linter.unusedSimpArgs false
section
namespace Go.AM
section
variable {P:Program} {N:Nat} {Y:Ctx} {ι ι':au} {μ μ':Mu} {H:aH} {w w':World} {out:Option Nat} {base:Nat} {ops:Array Oper}
def lJ (acc:Array Nat) (o:Oper):Array Nat:=acc.push (o.after.foldl (fun s e=>if Region.binds .any e then s ||| 2 ^ e.on ||| acc.getD e.on 0 else s) 0)
theorem Ag:Region.before ops=ops.toList.foldl lJ #[]:=by
 unfold Region.before
 rw [←Array.foldl_toList];rfl
theorem wN {acc:Array Nat} {j:Nat}:∀{l:List Edge} {s:Nat},(l.foldl (fun s e=>if Region.binds .any e then s ||| 2 ^ e.on ||| acc.getD e.on 0 else s) s).testBit j=true →
  s.testBit j=true∨∃e∈l,Region.binds .any e=true∧(j=e.on∨(acc.getD e.on 0).testBit j=true)
 |[],s,h=>.inl h
 |e::r,s,h=>by
  simp only [List.foldl_cons] at h
  rcases wN h with h1|⟨e',he',h2⟩
  ·split at h1
   ·rename_i hb
    simp only [Nat.testBit_or,Bool.or_eq_true,Nat.testBit_two_pow,decide_eq_true_eq] at h1
    rcases h1 with (h1|h1)|h1
    ·exact .inl h1
    ·exact .inr ⟨e,List.mem_cons_self ..,hb,.inl h1.symm⟩
    ·exact .inr ⟨e,List.mem_cons_self ..,hb,.inr h1⟩
   ·exact .inl h1
  ·exact .inr ⟨e',List.mem_cons_of_mem _ he',h2⟩
theorem wO : ∀ (l : List Oper) (acc : Array Nat), (l.foldl lJ acc).size = acc.size + l.length
 |[],acc=>by simp
 |o::r,acc=>by simp only [List.foldl_cons,wO r,lJ,Array.size_push,List.length_cons];omega
theorem wP {j:Nat}:∀(l:List Oper) (acc:Array Nat) (pre:List Oper),acc.size=pre.length →
  (∀i,(acc.getD i 0).testBit j=true→∃o,pre[i]?=some o∧∃e∈o.after,Region.binds .any e=true∧(j=e.on∨(acc.getD e.on 0).testBit j=true)) →
  ∀i,((l.foldl lJ acc).getD i 0).testBit j=true→∃o,(pre++l)[i]?=some o∧∃e∈o.after,Region.binds .any e=true∧(j=e.on∨((l.foldl lJ acc).getD e.on 0).testBit j=true)
 |[],acc,pre,hs,h,i,hi=>by simpa using h i hi
 |o::r,acc,pre,hs,h,i,hi=>by
  have:=wP r (lJ acc o) (pre++[o]) (by simp [lJ,hs]) (fun i hi=>?_) i hi
  ·simpa using this
  ·have keep:∀k,(acc.getD k 0).testBit j=true→((lJ acc o).getD k 0).testBit j=true:=fun k hk=>by
    have hlt:k<acc.size:=by
     rcases Nat.lt_or_ge k acc.size with h|h
     ·exact h
     ·simp [Array.getD,Nat.not_lt.2 h] at hk
    simpa [lJ,Array.getD,hlt,Array.getElem_push,Nat.lt_succ_of_lt hlt] using (by simpa [Array.getD,hlt] using hk:acc[k].testBit j=true)
   by_cases hlt:i<acc.size
   ·have hi':(acc.getD i 0).testBit j=true:=by
     simpa [lJ,Array.getD,hlt,Array.getElem_push,Nat.lt_succ_of_lt hlt] using hi
    obtain ⟨o',ho',e,he,hb,hj⟩:=h i hi'
    exact ⟨o',by rw [List.getElem?_append_left (List.getElem?_eq_some_iff.1 ho').1];exact ho',e,he,hb,hj.imp id (keep _)⟩
   ·by_cases heq : i = acc.size
    ·subst heq
     have hi':(o.after.foldl (fun s e=>if Region.binds .any e then s ||| 2 ^ e.on ||| acc.getD e.on 0 else s) 0).testBit j=true:=by
      simpa [lJ,Array.getD,Array.getElem_push] using hi
     rw [←Array.foldl_toList] at hi'
     rcases wN hi' with h1|⟨e,he,hb,hj⟩
     ·simp at h1
     ·exact ⟨o,by rw [hs];simp,e,by simpa using he,hb,hj.imp id (keep _)⟩
    ·have : ¬ i < (lJ acc o).size := by simp [lJ]; omega
     simp [Array.getD,this] at hi
theorem nM {i j:Nat} (h:((Region.before ops).getD i 0).testBit j=true) :
  ∃o,ops[i]?=some o∧∃e∈o.after,Region.binds .any e=true∧(j=e.on∨((Region.before ops).getD e.on 0).testBit j=true):=by
 rw [Ag] at h ⊢
 obtain ⟨o,ho,h⟩:=wP (j:=j) ops.toList #[] [] rfl (fun i hi=>by simp at hi) i h
 exact ⟨o,by simpa using ho,h⟩
theorem nN:(Region.before ops).size=ops.size:=by rw [Ag,wO];simp
theorem jA {i j:Nat}:j∈(bJ ops).getD i []↔j<ops.size∧((Region.before ops).getD i 0).testBit j=true:=by
 unfold bJ
 simp only [List.getD,List.getElem?_map]
 by_cases hi:i<ops.size
 ·have h:(Region.before ops).toList[i]?=some ((Region.before ops).getD i 0):=by
   have:i<(Region.before ops).size:=by rw [nN];exact hi
   simp [Array.getD,this]
  simp [h,List.mem_filter,List.mem_range]
 ·have h1 : (Region.before ops).toList[i]? = none := List.getElem?_eq_none (by simp [nN]; omega)
  have h2:(Region.before ops).getD i 0=0:=by simp [Array.getD,nN,hi]
  simp [h1,h2]
theorem fP : ∀ {os : List Oper} {is : List eC}, dK P N ops os = some is → is.length = os.length ∧ ∀ (k : Nat) o it, os[k]? = some o → is[k]? = some it → pF P N ops o = some it
 |[],is,h=>by cases h;exact ⟨rfl,fun k o it h=>by simp at h⟩
 |o::os,is,h=>by
  unfold dK at h
  split at h<;>try (cases h;done)
  rename_i it its hit Qz
  cases h
  obtain ⟨h1,h2⟩:=fP Qz
  refine ⟨by simp [h1],fun k o' it' ho hi=>?_⟩
  cases k with
  |zero=>simp at ho hi;subst ho;subst hi;exact hit
  |succ k=>exact h2 k o' it' (by simpa using ho) (by simpa using hi)
theorem Inv.sW (h:Inv P Y ι μ H w) {n:Nat} (hn:H.next≤n):Inv P Y ι μ ⟨n,H.bl⟩ w :=
 ⟨h.below,h.i0,h.iB,h.rd,h.m0,fun id hid=>h.nx id (Nat.le_trans hn hid),h.live,h.inj,fun id B hB=>Nat.lt_of_lt_of_le (h.lt id B hB) hn,h.gl⟩
theorem Inv.eqB (h:Inv P Y ι μ H w) {bl:aq} (he:EqB bl H.bl):Inv P Y ι μ ⟨H.next,bl⟩ w :=
 ⟨h.below,h.i0,h.iB,h.rd,h.m0,h.nx,fun id B hB=>h.live id B (by rw [←he id];exact hB),fun id id' B B' L L' hb hb'=>h.inj id id' B B' L L' (by rw [←he id];exact hb) (by rw [←he id'];exact hb'),
  fun id B hB=>h.lt id B (by rw [←he id];exact hB),h.gl⟩
theorem dz.QE {B:Nat→Prop} {id:Nat} {b:kA} (h:dz P B ι μ id w b) (hw:w'.heap=w.heap):dz P B ι μ id w' b:=by
 cases b with
 |cells cs fz=>obtain ⟨L,vs,hM,h⟩:=h;exact ⟨L,vs,⟨hM.mu,hM.old,by rw [hw];exact hM.row,hM.fits,hM.one,hM.DB,hM.pG⟩,h⟩
 |arr t xs fz =>
  rcases h with h|⟨L,vs,hM,h⟩
  ·exact .inl h
  ·exact .inr ⟨L,vs,⟨hM.mu,hM.old,by rw [hw];exact hM.row,hM.fits,hM.one,hM.DB,hM.pG⟩,h⟩
 |loop st j d env ps as bd N=>unfold dz at h ⊢;rw [hw];exact h
 |ff=>unfold dz at h ⊢;rw [hw];exact h
 |map kt kg vt vg es=>unfold dz at h ⊢;rw [hw];exact h
 |l6 t xs i p v =>
  obtain ⟨L,us,vs,c,hM,h⟩:=h
  exact ⟨L,us,vs,c,⟨hM.mu,hM.old,by rw [hw];exact hM.row,hM.fits,hM.one,hM.DB,hM.pG⟩,h⟩
theorem Inv.drawn (h:Inv P Y ι μ H w):Inv P Y ι μ H { w with drawn:=w.drawn+1 } :=
 ⟨⟨h.below.os,h.below.tape,h.below.output,h.below.size,h.below.block,Nat.le_succ_of_le h.below.dr,h.below.maps⟩,h.i0,h.iB,h.rd,h.m0,h.nx,fun id B hB=>(h.live id B hB).QE rfl,h.inj,h.lt,h.gl⟩
theorem Inv.called (hI:Inv P Y ι μ H w) (hi:ι.le ι') (hib:∀b o,b<w.heap.size→ι' b o=ι b o) (hrd:c7 ι' w') (jm:Dw w w'):Inv P Y ι' μ H w':=by
 have hsz:=hI.below.size
 refine ⟨hI.below.then jm,au.le_trans hI.i0 hi,fun b o hb hx=>by rw [hib b o (by omega)];exact hI.iB b o hb hx,hrd,hI.m0,hI.nx,fun id B hB=>?_,hI.inj,hI.lt,hI.gl⟩
 have kJ:=hI.live id B hB
 refine kJ.mono hi (Mu.le_refl _) (fun h=>h) (fun L hL=>jm.b.block _ (kJ.loc hL).2) (fun L hL ho o=>?_)
 rw [hib _ _ (kJ.loc hL).2];exact ho o
theorem c7.kept (h:c7 ι w) (jm:Dw w w'):c7 ι w':=fun b o x hx=>by
 have h1:=h b o x hx
 have hlt:b<w.heap.size:=by
  rcases Nat.lt_or_ge b w.heap.size with h'|h'
  ·exact h'
  ·simp [World.cell?,Array.getElem?_eq_none h'] at h1
 unfold World.cell? at h1 ⊢
 simp only at h1 ⊢
 rw [jm.b.block b hlt];exact h1
theorem Ah {v:V} {x:Value} (h:KJ v=true) (hr:Rel ι μ v x):Rel ι' μ' v x:=by
 cases hr<;>simp only [KJ] at h<;>try (cases h;done)
 case tf=>exact .tf _
 case bool=>exact .bool _
 case int=>exact .int _ _
 case str=>exact .str _
theorem Nl {v:V} {x:Value} (h:Qg v=true) (hr:Rel ι μ v x):Rel ι' μ' v x:=by
 cases hr<;>simp only [Qg] at h<;>try (cases h;done)
 case tf=>exact .tf _
 case bool=>exact .bool _
 case int=>exact .int _ _
 case str=>exact .str _
 case agg cs xs h1 h2 h3=>exact .agg cs xs h1 (fun i v x hv hx=>Ah (List.all_eq_true.1 h _ (List.mem_of_getElem? hv)) (h2 i v x hv hx)) h3
theorem D5 {v:V} {x:Value} (h:Dz v=true) (hr:Rel ι μ v x):Rel ι' μ' v x:=by
 cases hr<;>simp only [Dz] at h<;>try (cases h;done)
 case tf=>exact .tf _
 case bool=>exact .bool _
 case int=>exact .int _ _
 case str=>exact .str _
 case agg cs xs h1 h2 h3=>exact .agg cs xs h1 (fun i v x hv hx=>Ah (List.all_eq_true.1 h _ (List.mem_of_getElem? hv)) (h2 i v x hv hx)) h3
 case bX cs xs h1 h2=>exact .bX cs xs h1 fun i v x hv hx=>Nl (List.all_eq_true.1 h _ (List.mem_of_getElem? hv)) (h2 i v x hv hx)
theorem Bx {g : V → Option V} : ∀ {vs : List V}, (∀ v ∈ vs, g v = some v) → cV g vs = some vs
 |[],_=>rfl
 |v::r,h=>by simp only [cV,h v (List.mem_cons_self ..),Bx (vs:=r) (fun v hv=>h v (List.mem_cons_of_mem _ hv))]
theorem wQ {ar : Ar} {bl : aq} : ∀ {n : Nat} {v : V}, dy n v = true → fin ar bl n v = some v
 |0,v,h=>by cases h
 |n+1,v,h=>by
  have all:∀{cs:List V},cs.all (dy n)=true→cV (fin ar bl n) cs=some cs:=fun h=>Bx fun v hv=>wQ (List.all_eq_true.1 h v hv)
  cases v<;>simp only [dy] at h<;>try (cases h;done)
  case eS cs=>simp only [fin,h,if_true]
  case fn f a b=>simp only [Bool.and_eq_true] at h;simp only [fin,all h.1,all h.2]
  case agg cs=>simp only [fin,all h]
  case bX cs=>simp only [fin,all h]
  case bZ t v=>simp only [fin,wQ h]
  all_goals rfl
theorem u9 {v0 v:V} {x:Value} (h:vOk v0 v) (hr:Rel ι μ v0 x):Rel ι μ v x:=by
 rcases h with rfl|⟨c,rfl,rfl⟩
 ·exact hr
 ·cases hr;exact .tf _
theorem sX {S:List (Nat×V)} {a:Act} (he:dV ι μ S a.tmps) {o:Oper} {g:Option (Nat×Bool)} (hg:trG ops o.guard=some g) {c:Bool} (h:KK g S=some c):Region.wanted o (yielded ops a.tmps)=c:=by
 cases Qy:o.guard with
 |none=>rw [Qy] at hg;cases hg;cases h;simp [Region.wanted,Qy]
 |some jb =>
  obtain ⟨j,b⟩:=jb
  rw [Qy] at hg
  simp only [trG] at hg
  split at hg<;>try (cases hg;done)
  rename_i oj hoj
  split at hg<;>try (cases hg;done)
  rename_i d hdj
  cases hg
  simp only [KK] at h
  split at h<;>try (cases h;done)
  rotate_left
  ·rename_i vs hc
   cases h
   simp only [Region.wanted,Qy,tT he hoj hdj hc]
   rfl
  rename_i c' hc
  simp only [Region.wanted,Qy,wo he hoj hdj (.inl hc)]
  revert h
  cases c'<;>cases b<;>intro h<;>cases h<;>rfl
theorem K2 {b n : Nat} {t : TR} {env : List (Nat × V)} {bl : aq} {ms : List Nat} {a : Act} (hn : t.k < n) {o : Oper} (ho : ops[t.k]? = some o) (hit : pF P N ops o = some t.it)
  (QF:En (fF P N out base) b t env bl) (hR:ek P N Y ι μ ⟨env,⟨b+n,bl⟩,ms⟩ a w) (hfree:μ (b+t.k)=none) {Q:Exit→Act→World→Prop} {K:Act→World→Prop}
  (hK:∀ι' μ' a' w',ek P N Y ι' μ' ⟨t.QC env,⟨b+n,t.Nj bl⟩,ms⟩ a' w'→(∀id,id≠b+t.k→μ' id=μ id)→K a' w'):wpOpIn Y.F 0 P ops Q t.k K a w:=by
 obtain ⟨k,it,ac,rd⟩:=t
 simp only at hn ho hit hfree hK
 unfold pF at hit
 split at hit<;>try (cases hit;done)
 rename_i hd
 split at hit<;>try (cases hit;done)
 rename_i g hg
 have hgrd:it.grd=g∧it.dst=o.dst:=by
  split at hit<;>(split at hit<;>try (cases hit;done))<;>(cases hit;exact ⟨rfl,rfl⟩)
 unfold wpOpIn
 simp only [ho]
 unfold En at QF
 cases ac with
 |skip =>
  simp only at QF
  rw [hgrd.1] at QF
  rw [if_neg (by rw [sX hR.env hg QF.1];simp)]
  refine ⟨fun _ _=>trivial,hK ι μ _ _ ?_ fun _ _=>rfl⟩
  have:=hR.put hd (au.le_refl _) (Mu.le_refl _) hR.inv Rel.und
  simpa [TR.QC,TR.Nj,hgrd.2,Ac.val,Ac.UN,bn] using this
 |op v u =>
  split at hit
  ·split at hit <;> try (cases hit; done)
   cases hit;exact QF.elim
  ·split at hit <;> try (cases hit; done)
   cases hit;exact QF.elim
  ·rename_i op _ _
   split at hit<;>try (cases hit;done)
   rename_i i hi
   cases hit
   obtain ⟨KQ,ob,v0,aj,cL,hv,_⟩:=QF
   have hw:=sX hR.env hg KQ
   rw [if_pos hw]
   have hop:Qk P Y ι μ ⟨b+n,bl⟩ w (b+k) (execOp a.eval o) v0 u i.lays:=by
    rcases aj with aj|aj
    ·exact Ab hR.inv hfree hR.env hi aj cL
    ·exact Ad hR.inv hfree hR.env hi aj cL
   obtain ⟨ι',μ',x,w',hx,hi',hm,hne,hinv,H7⟩:=hop
   refine ⟨fun _ _=>trivial,?_⟩
   rw [Oper.semAt_eq _ _ _ (lI hi)]
   have K3:eZ i.lays (b+n) (b+k)=b+n:=by unfold eZ;cases i.lays<;>simp<;>omega
   have nt:ek P N Y ι' μ' ⟨AM.put o.dst v env,⟨b+n,bn u bl⟩,ms⟩ (a.put o.dst x) w':=by
    refine hR.put hd hi' hm ?_ (u9 hv H7)
    have:=hinv;simp only [K3] at this;exact this
   rcases hx with h|⟨h,rfl⟩<;>rw [h]<;>exact hK _ _ _ _ nt hne
 |call v u =>
  obtain ⟨c,args,tys,fo,as,hop,hf,ha,rfl⟩:∃(c:Callee) (args:Array Operand) (tys:Array TypeId) (fo:O) (as:List O),o.op = .call { callee:=c,args:=args,argTypes:=tys }∧l9 P c=some fo∧vL args.toList=some as∧it = .call o.dst g fo as (ig P fo tys):=by
   split at hit
   ·rename_i f args tys hop
    split at hit<;>try (cases hit;done)
    rename_i fo as hf ha
    cases hit
    exact ⟨.value f,args,tys,fo,as,hop,hf,ha,rfl⟩
   ·rename_i r name args tys hop
    split at hit<;>try (cases hit;done)
    rename_i fo as hf ha
    cases hit
    exact ⟨.invoke r name,args,tys,fo,as,hop,hf,ha,rfl⟩
   ·split at hit <;> try (cases hit; done)
    cases hit;exact QF.elim
  obtain ⟨KQ,fid,fs,cs,vs',v0,oN,hmo,hp,hs,hv,_⟩:=QF
  have hw:=sX hR.env hg KQ
  rw [if_pos hw]
  refine ⟨fun _ _=>trivial,?_⟩
  rw [Oper.semAt_eq _ _ _ (by rw [hop];simp)]
  have ra:=jI hR.env ha
  obtain ⟨cu,gB⟩:=hp
  obtain ⟨xs,ys,r1,r2,hrun⟩:=DZ hop hf hR.env oN cu
  rw [hrun]
  have rl:aI ι μ (fs++cG (ig P fo tys) (as.map (·.ev env))++cs) (xs++args.map a.eval++ys).toList:=by
   have:=(r1.append (lE (ts:=ig P fo tys) ra)).append r2
   simpa using this
  refine ⟨fun h=>by simp [Ctx.F,Fence.wide] at h,?_⟩
  rcases Bool.eq_false_or_eq_true (Dz v0||(fs++cG (ig P fo tys) (as.map (·.ev env))++cs).all (dy 8)) with hb|hb
  rotate_left
  ·rw [hb] at hs
   obtain ⟨ι2,i1,i2,i3⟩:=u7 hR.inv (Bw hs)
   have hmo':cV (fin dN bl 8) (fs++cG (ig P fo tys) (as.map (·.ev env))++cs)=some vs':=(mB (fun v=>by unfold fF;exact wM.symm) _).trans hmo
   refine CallsIn.mono (F:=Y.F) (gB ι2 w _ i2.de (fun b o x hx=>i2.rd b o x hx) (Vs i1 hmo' i3 rl)) ?_
   rintro e w' ⟨v',ι',rfl,hi,hib,hrd,jm,H7⟩
   have hinv':Inv P Y ι' μ ⟨b+n,bn u bl⟩ w':=i2.called hi hib hrd jm
   exact hK _ _ _ _ (hR.put hd (au.le_trans i1 hi) (Mu.le_refl _) hinv' (u9 hv (H7.mono (au.le_refl _) (fun _ _ h=>by cases h)))) fun _ _=>rfl
  rw [hb] at hs
  cases hs
  replace hs:=hb
  rw [Bool.or_eq_true] at hs
  rcases hs with hs|hs
  ·refine CallsIn.mono (F := Y.F) (gB (ι.all Y.own w) w _ (hR.inv.de.mono (au.Bs hR.inv.rd)) (fun b o x hx => ?_) (iD (fun v r x h hr => uZ (fun _ _ _ => rfl) hR.inv h hr) hmo rl)) ?_
   ·exact au.Ia hR.inv.rd hx
   ·rintro e w' ⟨v', ι', rfl, _, _, _, jm, H7⟩
    have hinv':Inv P Y ι μ ⟨b+n,bl⟩ w':=hR.inv.called (au.le_refl _) (fun _ _ _=>rfl) (c7.kept (fun b o x hx=>hR.inv.rd b o x hx) jm) jm
    exact hK _ _ _ _ (hR.put hd (au.le_refl _) (Mu.le_refl _) hinv' (u9 hv (D5 hs H7))) fun _ _=>rfl
  ·have hid:cV (fin (fF P N out base) bl 8) (fs++cG (ig P fo tys) (as.map (·.ev env))++cs)=some (fs++cG (ig P fo tys) (as.map (·.ev env))++cs) :=
    Bx fun v hv=>wQ (List.all_eq_true.1 hs v hv)
   rw [hid] at hmo;cases hmo
   have rl':aI ι (fun _=>none) (fs++cG (ig P fo tys) (as.map (·.ev env))++cs) (xs++args.map a.eval++ys).toList :=
    ⟨rl.1,fun i v x hv hx=>dm (List.all_eq_true.1 hs _ (List.mem_of_getElem? hv)) (rl.2 i v x hv hx)⟩
   refine CallsIn.mono (F:=Y.F) (gB ι w _ hR.inv.de (fun b o x hx=>hR.inv.rd b o x hx) rl') ?_
   rintro e w' ⟨v',ι',rfl,hi,hib,hrd,jm,H7⟩
   have hinv':Inv P Y ι' μ ⟨b+n,bl⟩ w':=hR.inv.called hi hib hrd jm
   exact hK _ _ _ _ (hR.put hd hi (Mu.le_refl _) hinv' (u9 hv (H7.mono (au.le_refl _) (fun _ _ h=>by cases h)))) fun _ _=>rfl
structure Good (ops:Array Oper) (m:Nat) (is:List eC) (R:List TR) (listed:Array Bool):Prop where
 sz:listed.size=ops.size
 mem:∀t∈R,t.k<m∧is[t.k]?=some t.it∧listed.getD t.k true=false
 cov:∀i,i<m→listed.getD i true=false→∃t∈R,t.k=i
 srt:R.Pairwise (fun a b=>a.k<b.k)
 dr:R.Pairwise (DrP (bJ ops))
 clo:∀i,listed.getD i false=true→∀j∈(bJ ops).getD i [],listed.getD j false=true
 le:m≤ops.size
 tl:∀i,m≤i→i<ops.size→listed.getD i true=false
theorem Bz {l:Array Bool} {i:Nat} (h:l.getD i true=false):l.getD i false=false∧i<l.size:=by
 rcases Nat.lt_or_ge i l.size with h'|h'
 ·simp [h'] at h ⊢;exact h
 ·simp [Array.getElem?_eq_none h'] at h
theorem mD {l:Array Bool} {i:Nat} (h:i<l.size) (d d':Bool):l.getD i d=l.getD i d':=by simp [h]
theorem BA {cI:List (List Nat)} {is:List eC} (h:qL cI is=true) {i j:Nat} (hij:i<j) {a b:eC} (ha:is[i]?=some a) (hb:is[j]?=some b):i∈cI.getD j []∨mb a b=true:=by
 unfold qL at h
 have hj:j<is.length:=(List.getElem?_eq_some_iff.1 hb).1
 have:=List.all_eq_true.1 (List.all_eq_true.1 h j (List.mem_range.2 hj)) i (List.mem_range.2 hij)
 simp only [ha,hb,Bool.or_eq_true] at this
 rcases this with h|h
 ·exact .inl (by simpa using h)
 ·exact .inr h
theorem nO {m:Nat} {is:List eC} {R:List TR} {listed:Array Bool} (hG:Good ops m is R listed) {i:Nat} (hi:i∈Region.ready .any ops listed):∀j∈(bJ ops).getD i [],listed.getD j false=true:=by
 intro j hj
 obtain ⟨_,o,ho,hall⟩:=mem_ready.1 hi
 obtain ⟨hjs,ht⟩:=jA.1 hj
 obtain ⟨o',ho',e,he,hb,h⟩:=nM ht
 rw [ho] at ho';cases ho'
 have hl:=hall e he hb
 rcases h with rfl|h
 ·exact hl
 ·exact hG.clo _ hl j (jA.2 ⟨hjs,h⟩)
theorem QG {m:Nat} {is:List eC} {R:List TR} {listed:Array Bool} (hG:Good ops m is R listed) (dP:gz ops=true) {k:Nat} (h1:k<ops.size) (h3:listed.getD k true=false) (nP:∀i,i<k→listed.getD i true=true):k∈Region.ready .any ops listed:=by
 refine mem_ready.2 ⟨h3,ops[k],by simp [h1],fun e he hb=>?_⟩
 have hlt:e.on<k:=by
  unfold gz at dP
  have hmem:(ops[k],k)∈ops.toList.zipIdx:=by
   rw [List.mem_zipIdx_iff_getElem?];simp [h1]
  have:=List.all_eq_true.1 dP _ hmem
  simp only at this
  have:=Array.all_eq_true_iff_forall_mem.1 this e he
  simpa [hb] using this
 have hlt':e.on<listed.size:=by rw [hG.sz];omega
 rw [mD hlt' false true];exact nP _ hlt
theorem Ij {m:Nat} {is:List eC} {t:TR} {R:List TR} {listed:Array Bool} (hG:Good ops m is (t::R) listed) (dP:gz ops=true):t.k∈Region.ready .any ops listed:=by
 obtain ⟨h1,_,h3⟩:=hG.mem t (List.mem_cons_self ..)
 refine QG hG dP (by have:=hG.le;omega) h3 fun i hi=>?_
 rcases Bool.eq_false_or_eq_true (listed.getD i true) with h|h
 ·exact h
 ·obtain ⟨t', ht', hk⟩ := hG.cov i (by omega) h
  rcases List.mem_cons.1 ht' with rfl|ht'
  ·omega
  ·have := (List.pairwise_cons.1 hG.srt).1 t' ht'
   omega
theorem Good.step {m:Nat} {is:List eC} {L1 L2:List TR} {t:TR} {listed:Array Bool} (hG:Good ops m is (L1++t::L2) listed) (hr:t.k∈Region.ready .any ops listed):Good ops m is (L1++L2) (listed.setIfInBounds t.k true):=by
 have hsub:(L1++L2).Sublist (L1++t::L2):=(List.Sublist.refl L1).append (List.sublist_cons_self t L2)
 have hne:∀x∈L1++L2,x.k≠t.k:=fun x hx=>by
  have:=List.pairwise_append.1 hG.srt
  rcases List.mem_append.1 hx with h|h
  ·exact Nat.ne_of_lt (this.2.2 x h t (List.mem_cons_self ..))
  ·exact Nat.ne_of_gt ((List.pairwise_cons.1 this.2.1).1 x h)
 refine ⟨by simp [hG.sz],fun x hx=>?_,fun i hi Vt=>?_,hG.srt.sublist hsub,hG.dr.sublist hsub,fun i hi j hj=>?_,hG.le,fun i hi hi2=>?_⟩
 ·obtain ⟨h1, h2, h3⟩ := hG.mem x (hsub.subset hx)
  exact ⟨h1,h2,by rw [getD_set_ne true (Ne.symm (hne x hx))];exact h3⟩
 ·have hki:t.k≠i:=fun e=>by
   subst e
   have:t.k<listed.size:=by rw [hG.sz];exact Nat.lt_of_lt_of_le hi hG.le
   simp [this] at Vt
  rw [getD_set_ne true hki] at Vt
  obtain ⟨x,hx,hk⟩:=hG.cov i hi Vt
  refine ⟨x,?_,hk⟩
  rcases List.mem_append.1 hx with h|h
  ·exact List.mem_append_left _ h
  ·rcases List.mem_cons.1 h with rfl | h
   ·exact absurd hk hki
   ·exact List.mem_append_right _ h
 ·refine getD_set_true ?_
  by_cases hki:t.k=i
  ·subst hki;exact nO hG hr j hj
  ·rw [getD_set_ne false hki] at hi
   exact hG.clo i hi j hj
 ·have hk := (hG.mem t (List.mem_append_right _ (List.mem_cons_self ..))).1
  rw [getD_set_ne true (by omega)]
  exact hG.tl i hi hi2
theorem D6 {os:List Oper} {is:List eC} {k:Nat} (h:dK P N ops os=some is):dK P N ops (os.drop k)=some (is.drop k):=by
 induction k generalizing os is with
 |zero=>simpa using h
 |succ k ih =>
  cases os with
  |nil=>cases h;rfl
  |cons o os =>
   unfold dK at h
   split at h<;>try (cases h;done)
   rename_i it its hit Qz
   cases h
   simpa using ih Qz
theorem D7 {m:Nat} (dP:gz ops=true) (Ai:∀i,m≤i→i<ops.size→∀j,j<i→j∈(bJ ops).getD i []) {Q:Exit→Act→World→Prop}:∀(n k:Nat) {listed:Array Bool} {a:Act} {w:World},
  m≤k→k+n=ops.size→listed.size=ops.size→(∀i,i<k→listed.getD i true=true)→(∀i,k≤i→i<ops.size→listed.getD i true=false) →
  (∀i,listed.getD i false=true→∀j∈(bJ ops).getD i [],listed.getD j false=true)→wpOpsIn Y.F 0 P ops Q (List.range' k n) a w→wpAnyIn Y.F 0 P .any ops Q n listed a w
 |0,k,listed,a,w,hm,hk,hsz,nP,K4,sY,h=>by
  refine ⟨?_,h⟩
  cases hr:Region.ready .any ops listed with
  |nil=>rfl
  |cons i r =>
   have hi:i∈Region.ready .any ops listed:=by rw [hr];exact List.mem_cons_self ..
   obtain ⟨h0,o,ho,_⟩:=mem_ready.1 hi
   have:=(Array.getElem?_eq_some_iff.1 ho).1
   rw [nP i (by omega)] at h0;cases h0
 |n+1,k,listed,a,w,hm,hk,hsz,nP,K4,sY,h=>by
  have hks:k<ops.size:=by omega
  have hrk:k∈Region.ready .any ops listed:=by
   refine mem_ready.2 ⟨K4 k (Nat.le_refl _) hks,ops[k],by simp [hks],fun e he hb=>?_⟩
   have hlt:e.on<k:=by
    unfold gz at dP
    have hmem:(ops[k],k)∈ops.toList.zipIdx:=by
     rw [List.mem_zipIdx_iff_getElem?];simp [hks]
    have:=List.all_eq_true.1 dP _ hmem
    simp only at this
    have:=Array.all_eq_true_iff_forall_mem.1 this e he
    simpa [hb] using this
   have hlt':e.on<listed.size:=by rw [hsz];omega
   rw [mD hlt' false true];exact nP _ hlt
  have hrp:∀i,i∈Region.ready .any ops listed→∀j∈(bJ ops).getD i [],listed.getD j false=true:=by
   intro i hi j hj
   obtain ⟨_,o,ho,hall⟩:=mem_ready.1 hi
   obtain ⟨hjs,ht⟩:=jA.1 hj
   obtain ⟨o',ho',e,he,hb,h⟩:=nM ht
   rw [ho] at ho';cases ho'
   have hl:=hall e he hb
   rcases h with rfl|h
   ·exact hl
   ·exact sY _ hl j (jA.2 ⟨hjs,h⟩)
  refine ⟨fun h0=>(by rw [h0] at hrk;cases hrk),fun i hi=>?_⟩
  obtain ⟨h0,o,ho,_⟩:=mem_ready.1 hi
  have mz:=(Array.getElem?_eq_some_iff.1 ho).1
  have hik:i=k:=by
   rcases Nat.lt_trichotomy i k with h1|h1|h1
   ·rw [nP i h1] at h0;cases h0
   ·exact h1
   ·have := hrp i hi k (Ai i (by omega) mz k h1)
    rw [(Bz (K4 k (Nat.le_refl _) hks)).1] at this;cases this
  subst hik
  rw [List.range'_succ,wpOpsIn_cons] at h
  refine wpOpIn_mono (fun a' w' h'=>D7 dP Ai n (i+1) (by omega) (by omega) (by simpa using hsz) (fun j hj=>?_) (fun j hj hj2=>?_) (fun x hx j hj=>?_) h') h
  ·by_cases e : i = j
   ·subst e;simp [hsz,hks]
   ·rw [getD_set_ne true e];exact nP j (by omega)
  ·rw [getD_set_ne true (by omega)];exact K4 j (by omega) hj2
  ·refine getD_set_true ?_
   by_cases e:i=x
   ·subst e;exact hrp i hi j hj
   ·rw [getD_set_ne false e] at hx
    exact sY x hx j hj
theorem QH {is : List eC} {m : Nat} (Ai : ∀ i, m ≤ i → i < ops.size → ∀ j, j < i → j ∈ (bJ ops).getD i []) (mz : dK P N ops ops.toList = some is) (qa : qL (bJ ops) is = true) (dP : gz ops = true) {b : Nat} {ms : List Nat} {F : List (Nat × V) → aq → Prop} (hF : Bu F)
  {Q:Exit→Act→World→Prop} (hend:∀ι μ env bl a w,ek P N Y ι μ ⟨env,⟨b+m,bl⟩,ms⟩ a w→F env bl→wpOpsIn Y.F 0 P ops Q (List.range' m (ops.size - m)) a w) :
  ∀(fuel:Nat) {R:List TR} {listed:Array Bool} {a:Act} {w:World} {ι:au} {μ:Mu} {env:List (Nat×V)} {bl:aq},fuel=R.length+(ops.size - m)→Good ops m is R listed→uF (fF P N out base) b R env bl F →
   ek P N Y ι μ ⟨env,⟨b+m,bl⟩,ms⟩ a w→(∀t∈R,μ (b+t.k)=none)→wpAnyIn Y.F 0 P .any ops Q fuel listed a w
 |fuel,R,listed,a,w,ι,μ,env,bl,hl,hG,hrun,hR,hfr=>by
  rcases Decidable.em (R=[]) with sZ|sZ
  ·subst sZ
   have hle:=hG.le
   have hf:fuel=ops.size - m:=by simpa using hl
   rw [hf]
   refine D7 dP Ai (ops.size - m) m (Nat.le_refl _) (by omega) hG.sz (fun i hi=>?_) hG.tl hG.clo (hend _ _ _ _ _ _ hR hrun)
   rcases Bool.eq_false_or_eq_true (listed.getD i true) with h|h
   ·exact h
   ·obtain ⟨t,ht,_⟩:=hG.cov i hi h;simp at ht
  obtain ⟨fuel,rfl⟩:∃f,fuel=f+1:=⟨fuel - 1,by have:=List.length_pos_iff.2 sZ;omega⟩
  ·refine ⟨fun h0 => ?_, fun i hi => ?_⟩
   ·cases R with
    |nil=>exact absurd rfl sZ
    |cons t R=>have:=Ij hG dP;rw [h0] at this;simp at this
   ·obtain ⟨h0, o, ho, _⟩ := mem_ready.1 hi
    have him:i<m:=by
     rcases Nat.lt_or_ge i m with h|h
     ·exact h
     ·exfalso
      have vU:=(Array.getElem?_eq_some_iff.1 ho).1
      cases R with
      |nil=>exact sZ rfl
      |cons t R =>
       have UO:=hG.mem t (List.mem_cons_self ..)
       have:=nO hG hi _ (Ai i h vU t.k (by omega))
       rw [(Bz UO.2.2).1] at this;cases this
    obtain ⟨t,ht,hk⟩:=hG.cov i him h0
    subst hk
    obtain ⟨L1,L2,rfl⟩:=List.append_of_mem ht
    have hAp:∀x∈L1,aag x t:=fun x hx=>by
     have hp:=(List.pairwise_append.1 hG.srt).2.2 x hx t (List.mem_cons_self ..)
     have hd:=(List.pairwise_append.1 hG.dr).2.2 x hx t (List.mem_cons_self ..)
     have hmx:=hG.mem x (List.mem_append_left _ hx)
     have UO:=hG.mem t ht
     have hnot:x.k∉(bJ ops).getD t.k []:=fun h=>by
      have:=nO hG hi _ h
      rw [(Bz hmx.2.2).1] at this;cases this
     rcases BA qa hp hmx.2.1 UO.2.1 with h|h
     ·exact absurd h hnot
     ·rcases hd with h' | h'
      ·exact absurd h' hnot
      ·exact ⟨h,h'.1,h'.2⟩
    obtain ⟨QF,afW⟩:=pull hF hAp hrun
    have UO:=hG.mem t ht
    have hit:=(fP mz).2 t.k o t.it (by simpa using ho) UO.2.1
    refine K2 UO.1 ho hit QF hR (hfr t ht) fun ι' μ' a' w' gv hne=>?_
    have hG':=hG.step hi
    refine QH Ai mz qa dP hF hend fuel (R:=L1++L2) (by simp at hl ⊢;omega) hG' afW gv fun x hx=>?_
    have hx':x∈L1++t::L2:=((List.Sublist.refl L1).append (List.sublist_cons_self t L2)).subset hx
    have h1:=(hG'.mem x hx).2.2
    have hnk:x.k≠t.k:=fun e=>by
     rw [e] at h1
     have:t.k<listed.size:=by rw [hG.sz];have:=hG.le;omega
     simp [this] at h1
    rw [hne _ (by omega)];exact hfr x hx'
theorem Aj {ar : Ar} {b : Nat} {F G : List (Nat × V) → aq → Prop} (h : ∀ e bl, F e bl → G e bl) : ∀ {ts : List TR} {env : List (Nat × V)} {bl : aq}, uF ar b ts env bl F → uF ar b ts env bl G
 |[],_,_,hr=>h _ _ hr
 |_::_,_,_,hr=>⟨hr.1,Aj h hr.2⟩
theorem D8 {ar : Ar} {b : Nat} {p : Prop} {F : List (Nat × V) → aq → Prop} : ∀ {ts : List TR} {env : List (Nat × V)} {bl : aq}, uF ar b ts env bl (fun e bl => p ∧ F e bl) → p ∧ uF ar b ts env bl F
 |[],_,_,hr=>hr
 |_::_,_,_,hr=>let ⟨h1,h2⟩:=D8 hr.2;⟨h1,hr.1,h2⟩
theorem gP (hm:P.follows .mixedOrders=true):mw P N out base:=by
 intro id ops Dp Vm mz qa dP hl S K hK Y ι μ a w ho hb hR
 refine wpIn_region_any hm ?_
 obtain ⟨ts,h1,h2,h3⟩:=nL hK
 simp only [List.nil_append] at h3
 obtain ⟨hdr,hrun⟩:=D8 h3
 have hlen:Dp.length+Vm.length=ops.size:=by simpa using (fP mz).1
 have htl:ts.length=Dp.length:=by rw [←h1];simp
 have hk:∀(j:Nat) t,ts[j]?=some t→t.k=j∧(Dp++Vm)[j]?=some t.it∧j<Dp.length:=fun j t ht=>by
  have hj:=(List.getElem?_eq_some_iff.1 ht).1
  refine ⟨?_,?_,by omega⟩
  ·have : (ts.map (·.k))[j]? = some t.k := by simp [ht]
   rw [h2,List.getElem?_range' (by omega)] at this
   simpa using this.symm
  ·rw [List.getElem?_append_left (by omega),←h1];simp [ht]
 let F:List (Nat×V)→aq→Prop:=fun env bl=>∃jo K5,Ii jo env∧EqB K5 bl∧eW (fF P N out base) Vm ⟨jo,⟨S.H.next+Dp.length,K5⟩,S.ms⟩ K
 have hF:Bu F:=fun env env' bl bE he qD ⟨e0,b0,q1,q2,q3⟩=>⟨e0,b0,q1.trans he,fun i=>(q2 i).trans (qD i),q3⟩
 have nt:∀{ι' μ' env bl jo K5 a' w'},ek P N Y ι' μ' ⟨env,⟨S.H.next+Dp.length,bl⟩,S.ms⟩ a' w'→Ii jo env→EqB K5 bl→ek P N Y ι' μ' ⟨jo,⟨S.H.next+Dp.length,K5⟩,S.ms⟩ a' w':=fun gv q1 q2 =>
  ⟨fun t=>by rw [q1 t];exact gv.env t,gv.sz,gv.inv.eqB q2,gv.ms⟩
 have hfl:ops.size=ts.length+(ops.size - Dp.length):=by omega
 have htr2:dK P N ops (ops.toList.drop Dp.length)=some Vm:=by
  have:=D6 (k:=Dp.length) mz
  rwa [List.drop_left' rfl] at this
 refine QH (out:=out) (base:=base) (b:=S.H.next) (ms:=S.ms) (F:=F) (fun i hi hi2=>hl i hi (by omega)) mz qa dP hF (fun ι' μ' env bl a' w' gv hf=>?_) ops.size (R:=ts) (ι:=ι) (μ:=μ) (env:=S.env) (bl:=S.H.bl) hfl ?_ ?_ ?_ ?_
 ·obtain ⟨e0, b0, q1, q2, q3⟩ := hf
  have h:=wB (Y:=Y) (os:=ops.toList.drop Dp.length) (Q:=Post P N Y fun e S=>match e with | .normal=>K S|_=>False) (K:=K) (out:=out) (base:=base) (fun ι μ S a w hR hK=>Post.of (e':=.normal) hR rfl hK) (k:=Dp.length) htr2 (fun j=>by
   rw [List.getElem?_drop];simp) (nt gv q1 q2) q3
  rwa [List.length_drop,Array.length_toList] at h
 ·refine ⟨by simp, fun t ht => ?_, fun i hi Vt => ?_, ?_, p0 hdr, fun i hi => ?_, by omega, fun i hi hi2 => by simp [hi2]⟩
  ·obtain ⟨j, hj⟩ := List.getElem?_of_mem ht
   obtain ⟨e1,e2,e3⟩:=hk j t hj
   subst e1
   exact ⟨e3,e2,by simp [show t.k<ops.size by omega]⟩
  ·have : i < ts.length := by omega
   refine ⟨ts[i],List.getElem_mem this,(hk i _ (by simp)).1⟩
  ·have h4 : (ts.map (·.k)).Pairwise (· < ·) := by rw [h2]; exact List.pairwise_lt_range'
   exact List.pairwise_map.1 h4
  ·exfalso
   rcases Nat.lt_or_ge i ops.size with h|h<;>simp [h] at hi
 ·refine Aj (fun e bl h => ?_) hrun
  exact ⟨e,bl,fun _=>rfl,fun _=>rfl,h⟩
 ·exact ⟨hR.env,hR.sz,(hR.inv.sW (by omega)).drawn,hR.ms⟩
 ·intro t ht
  exact hR.inv.nx _ (by omega)
end
end Go.AM
end
section
namespace Go.AM
section
variable {P:Program} {N:Nat} {Y:Ctx} {ι ι':au} {μ μ':Mu} {H:aH} {w w':World} {out:Option Nat} {base:Nat}
theorem Vu {func:Func} {fn:Fn} (htr:bK P func=some fn):Qe P func.results.toList=some fn.res:=by
 unfold bK at htr
 split at htr<;>try (cases htr;done)
 split at htr<;>try (cases htr;done)
 rename_i UM
 split at htr<;>try (cases htr;done)
 cases htr;exact UM
theorem Inv.down (h:Inv P Y ι μ H w) (ro:Option Nat):Inv P ⟨Y.w0,ι,μ,ro,Y.x,[]⟩ ι μ H w :=
 ⟨h.below,au.le_refl _,fun _ _ _ _=>rfl,h.rd,Mu.le_refl _,h.nx,h.live,h.inj,h.lt,h.de⟩
theorem Inv.up {ro:Option Nat} {H':aH} (h0:Inv P Y ι μ H w) (h:Inv P ⟨Y.w0,ι,μ,ro,Y.x,[]⟩ ι' μ' H' w'):Inv P Y ι' μ' H' w'∧ι.le ι'∧μ.le μ' :=
 ⟨⟨h.below,au.le_trans h0.i0 h.i0,fun b o hb hx=>(h.iB b o hb hx).trans (h0.iB b o hb hx),h.rd,Mu.le_trans h0.m0 h.m0,h.nx,h.live,h.inj,h.lt,h0.gl⟩,h.i0,h.m0⟩
theorem jP {f : Nat} {func : Func} {fn : Fn} (hf : P.funcs[f]? = some func) (htr : bK P func = some fn) (cu : Enters P f) (gD : mw P fn.N none H.next) {vs : List V} {Q : V → aH → Prop} (hlen : vs.length ≤ fn.np)
  (h:qO (fF P fn.N none H.next) fn.body ⟨args 0 vs,H,[]⟩ (Bq fn.res fn.tys Q)):gA P f vs H Q:=by
 refine ⟨cu,fun Y ι μ w as hI hr=>?_⟩
 refine KZ (Y:=⟨Y.w0,ι,μ,none,Y.x,[]⟩) hf htr gD hlen h rfl rfl (fun id hid=>hI.nx id hid) (hI.down none) hr fun Y1 ι' μ' S' a' w' e' hY hR hq=>?_
 have key:Bq.pX fn.res fn.tys Q S'→LeavesInM Fence.wide 0 P func a'.tmps (Qw P Y ι μ Q) a'.defers .returning w':=by
  intro hs
  unfold Bq.pX at hs
  split at hs<;>try (exact hs.elim)
  rename_i bl qD
  split at hs<;>try (exact hs.elim)
  rename_i vs' hvs
  refine sS (Vu htr) (n:=S'.H.next) (bl:=S'.H.bl) hY rfl hR.inv hR.env hR.ms qD hvs fun x w2 nA hx=>?_
  obtain ⟨h1,h2,h3⟩:=hI.up nA
  exact ⟨x,ι',μ',_,_,rfl,h2,h3,h1,hx (hTs fn.tys),hs⟩
 cases e' with
 |exit id=>exact hq.elim
 |normal=>exact ⟨.inl rfl,key hq⟩
 |ret=>exact ⟨.inr rfl,key hq⟩
def unr (ar : Ar) (c : C) : Nat → St → (Ex → St → Prop) → Prop
 |0,_,_=>False
 |n+1,S,K=>qO ar c S fun e S'=>match e with
  | .normal=>unr ar c n S' K
  | .exit id=>K (.exit id) S'
  | .ret=>K .ret S'
theorem Inv.Nn {bl:aq} {n id:Nat} {L:Loc} {B:kA} (h:Inv P Y ι μ ⟨n,bl⟩ w) (hb:av id bl=some B) (hL:μ id=some L) {o o':Obj} (ho:w.heap[L.b]?=some o) (hnc:∀c e f,o ≠ .cells c e f) (hnm:∀ms c,o ≠ .map ms c) :
  Inv P Y ι μ ⟨n,aZ id bl⟩ (w.putObj L.b o'):=by
 have hold:Y.own L.b:=((h.live id _ hb).loc hL).1
 have bP:∀k,k≠L.b→(w.putObj L.b o').heap[k]?=w.heap[k]?:=fun k hk=>World.putObj_heap_other hk
 have hsub:=h.del id
 refine ⟨⟨h.below.os, h.below.tape, h.below.output, by rw [World.putObj_size]; exact h.below.size, fun k hk hx => ?_, h.below.dr, fun k hk => (h.below.maps k hk).trans (by
   by_cases e:k=L.b
   ·subst e;exact .no (fun ms c e=>by rw [ho] at e;cases e;exact hnm _ _ rfl)
   ·exact .eq (bP k e))⟩,h.i0,h.iB,fun b o2 x hx=>?_,h.m0,h.nx,fun i B2 hB=>?_,hsub.inj,hsub.lt,h.gl⟩
 ·rw [bP k (Ctx.lg hold hk hx)];exact h.below.block k hk hx
 ·have := h.rd b o2 x hx
  have hne:b≠L.b:=fun e=>by
   subst e
   cases o<;>simp [World.cell?,ho] at this
   exact hnc _ _ _ rfl
  unfold World.cell? at this ⊢
  simp only at this ⊢
  rw [bP b hne];exact this
 ·simp only at hB
  rw [aU] at hB
  split at hB
  ·cases hB
  ·rename_i e
   refine (h.live i B2 hB).mono (au.le_refl _) (Mu.le_refl _) (fun h=>h) (fun L' hL'=>bP _ (fun e'=>e (h.inj i id B2 _ L' L hB hb hL' hL e'))) (fun _ _ h=>h)
def K6 (j:Option Ex) (S:St) (K:Ex→St→Prop):Prop:=match j with
 |none=>K .normal S
 |some e=>match e with
  | .normal=>False
  | .exit i=>K (.exit i) S
  | .ret=>K .ret S
def jB (id:Nat) (sh:List Nat) (S:St) (K:Ex→St→Prop) (H:aH):Prop:=match av id H.bl with
 |some (.loop st j _ _ _ _ _ _)=>match st with
  | .busy=>False
  |_=>match eo sh (aZ id H.bl) with
   |some bl=>K6 j ⟨S.env,⟨H.next,bl⟩,S.ms⟩ K
   |none=>False
 |_=>False
def ace (ar:Ar) (N:Nat) (out:Option Nat) (f:O) (ps:List Nat) (as bd:C) (S:St) (K:Ex→St→Prop):Prop :=
 ps.all (Nat.blt · N)=true ∧
 match f.ev S.env with
 | .fn fid first cap=>match out with
  | none => S.ms = [] ∧ ar.call fid (first ++ [.yl (S.H.next + 1)] ++ cap) ⟨S.H.next + 2, (S.H.next + 1, .loop .ready none S.H.next S.env ps as bd N) :: (S.H.next, .ff) :: S.H.bl⟩
    fun _ H=>jB (S.H.next+1) [S.H.next] S K H
  |some id0=>match av id0 S.H.bl with
   | some (.loop _ _ d _ _ _ _ _) => ar.call fid (first ++ [.yl S.H.next] ++ cap) ⟨S.H.next + 1, (S.H.next, .loop .ready none d S.env ps as bd N) :: S.H.bl⟩
     fun _ H=>jB S.H.next [] S K H
   |_=>False
 |_=>False
theorem uc {f:O} {ps:List Nat} {as bd:C} {S:St} {K:Ex→St→Prop} (h:ace (fF P N out base) N out f ps as bd S K):(fF P N out base).bA f ps as bd S K:=by
 intro fo Dm ao bo hfo hps hao hbo Y ι μ a w ho hb hR
 obtain ⟨hpN,h⟩:=h
 have rf:=aB hR.env hfo
 have hnc:∀(r:Loop) c e f,Obj.loop r ≠ .cells c e f:=fun r c e f=>by intro h;cases h
 split at h
 ·rename_i fid fs cs oN
  rw [oN] at rf
  generalize hg:a.eval fo=fv at rf
  cases rf with
  |fn _ _ _ xs ys h1 h2 h3 h4 =>
   have r1:aI ι μ fs xs.toList:=⟨by simpa using h1,fun i v x hv hx=>h2 i v x hv (by simpa using hx)⟩
   have r2:aI ι μ cs ys.toList:=⟨by simpa using h3,fun i v x hv hx=>h4 i v x hv (by simpa using hx)⟩
   -- behind the call
   have fin:∀{aC:Nat} {L:Loc} {sh ms':List Nat} {ds':List Deferred} {μ1:Mu},μ.le μ1→μ1 aC=some L→iR Y.hid μ1 ms' ds'→((sh=[]∧ms'=S.ms)∨∃i,sh=[i]∧ms'=[i]∧S.ms=[]∧Y.ro=none) →
     ∀e w',Qw P Y ι μ1 (fun _ H=>jB aC sh S K H) e w' →
     rangePost Y.F 0 P L.b (Post P N Y K) { a with defers:=ds' } e w':=fun {aC L sh ms' ds' μ1} fL hL hmk hsh e w' he=>by
    obtain ⟨v,ι',μ',r,H',rfl,hi,hm,hinv,hv,hq⟩:=he
    unfold jB at hq
    split at hq<;>try (exact hq.elim)
    rename_i st j d env' ps' as' Vv N' qD
    obtain ⟨L',r',Ld,q1,q2,q3,q4,q5,q6,q7,q8,q9,q10,q11,q12,q13⟩:=hinv.live _ _ qD
    rw [hm _ _ hL] at q1;cases q1
    have hst:r'.state ≠ .busy:=by rw [q4];cases st<;>simp [stR] at hq ⊢
    have hinv':=hinv.Nn (o':=.loop { r' with state:=.exhausted }) qD (hm _ _ hL) q3 (hnc r') (fun _ _ e=>by cases e)
    have aai:ek P N Y ι' μ' ⟨S.env,⟨H'.next,aZ aC H'.bl⟩,ms'⟩ { a with defers:=ds' } (w'.putObj L.b (.loop { r' with state:=.exhausted })) :=
     ⟨hR.env.mono hi (Mu.le_trans fL hm),hR.sz,hinv',hmk.mono hm⟩
    have hq1:∃bl,eo sh (aZ aC H'.bl)=some bl∧K6 j ⟨S.env,⟨H'.next,bl⟩,S.ms⟩ K:=by
     cases hsh2:eo sh (aZ aC H'.bl) with
     |none=>rw [hsh2] at hq;cases st<;>exact hq.elim
     |some bl=>rw [hsh2] at hq;exact ⟨bl,rfl,by cases st<;>first|exact hq.elim|exact hq⟩
    obtain ⟨bl,QI,hq'⟩:=hq1
    obtain ⟨Y1,QJ,nt⟩:∃Y1,Ext P Y Y1∧ek P N Y1 ι' μ' ⟨S.env,⟨H'.next,bl⟩,S.ms⟩ { a with defers:=ds' } (w'.putObj L.b (.loop { r' with state:=.exhausted })):=by
     rcases hsh with ⟨rfl,rfl⟩|⟨i,rfl,rfl,hS,hro⟩
     ·cases QI;exact ⟨Y,.refl Y,aai⟩
     ·simp only [eo] at QI
      split at QI<;>try (cases QI;done)
      rename_i hb
      cases QI
      rw [hS]
      exact aai.uD rfl hb hro
    have hend:=run_endLoop (P:=P) q3 hst
    generalize w'.putObj L.b (.loop { r' with state:=.exhausted })=w4 at nt hend
    refine ⟨r'.pending,w4,hend,?_⟩
    unfold K6 at hq'
    cases j with
    |none=>simp only [DC] at q5;rw [q5];exact .of1 (e':=.normal) QJ nt rfl hq'
    |some e =>
     cases e with
     |normal=>exact hq'.elim
     |exit i=>simp only [DC] at q5;rw [q5];exact wpIn_exit (.of1 (e':=.exit i) QJ nt rfl hq')
     |ret=>simp only [DC] at q5;rw [q5];exact wpIn_ret (.of1 (e':=.ret) QJ nt rfl hq')
   have hpN':∀p∈ps,p<N:=fun p hp=>by have:=List.all_eq_true.1 hpN p hp;simpa using this
   cases out with
   |none =>
    simp only at h
    have hro:Y.ro=none:=ho
    obtain ⟨hms0,cu,gB⟩:=h
    let Ld:Loc:=⟨w.heap.size,0,0,0⟩
    let L:Loc:=⟨w.heap.size+1,0,0,0⟩
    have hn0:=hR.inv.nx S.H.next (Nat.le_refl _)
    have zj:=Mu.eY (L:=Ld) hn0
    have Hx:=hR.inv.lay hn0 (L:=Ld) (o:=.deferred (some [])) (b:=.ff) rfl ⟨Ld,by simp [Mu.set],.inl hR.inv.below.size,by show (w.heap.push _)[w.heap.size]?=_;simp⟩
    have Np:(w.alloc (.deferred (some []))).heap.size=w.heap.size+1:=World.size_alloc _ _
    have hn1:(μ.set S.H.next Ld) (S.H.next+1)=none:=by simp only [Mu.set];rw [if_neg (by omega)];exact hR.inv.nx _ (by omega)
    have hle1:=Mu.eY (L:=L) hn1
    have Ik : ∀ fn : Nat, Inv P Y ι ((μ.set S.H.next Ld).set (S.H.next + 1) L) ⟨S.H.next + 2, (S.H.next + 1, .loop .ready none S.H.next S.env ps as bd N) :: (S.H.next, .ff) :: S.H.bl⟩
      ((w.alloc (.deferred (some []))).alloc (.loop { state:=.ready,pending:=none,fn:=fn,tmps:=a.tmps,params:=Dm,assign:=ao,body:=bo,defers:=w.heap.size })):=fun fn=>by
     have nA := Hx.lay hn1 (L := L) (o := .loop { state := .ready, pending := none, fn := fn, tmps := a.tmps, params := Dm, assign := ao, body := bo, defers := w.heap.size })
      (b:=.loop .ready none S.H.next S.env ps as bd N) (by simp [L,Np]) ⟨L,{ state:=.ready,pending:=none,fn:=fn,tmps:=a.tmps,params:=Dm,assign:=ao,body:=bo,defers:=w.heap.size },Ld,by simp [Mu.set],.inl (by have:=hR.inv.below.size;simp only [L];omega),by
       have:=World.alloc_heap_new (w.alloc (.deferred (some []))) (.loop { state:=.ready,pending:=none,fn:=fn,tmps:=a.tmps,params:=Dm,assign:=ao,body:=bo,defers:=w.heap.size })
       rw [Np] at this;exact this,rfl,rfl,hR.env.mono (au.le_refl _) (Mu.le_trans zj hle1),hps,hR.sz,hpN',hao,hbo,by simp [Mu.set],rfl⟩
     refine nA.congr (fun id=>?_) (by simp only;omega)
     rw [aG,aW]
     by_cases e:S.H.next+1=id
     ·subst e;simp
     ·rw [if_neg e, if_neg (fun e' => e e'.symm), aG, aW]
      by_cases e2:S.H.next=id
      ·subst e2;simp
      ·rw [if_neg e2,if_neg (fun e'=>e2 e'.symm)]
    have zk:=Mu.le_trans zj hle1
    have hLd:((μ.set S.H.next Ld).set (S.H.next+1) L) S.H.next=some Ld:=by simp [Mu.set]
    have hL:((μ.set S.H.next Ld).set (S.H.next+1) L) (S.H.next+1)=some L:=by simp [Mu.set]
    refine wpIn_rangeFunc fun fn _=>?_
    have D9:=Ik fn
    obtain ⟨W,hW⟩:∃W,W=(w.alloc (.deferred (some []))).alloc (.loop { state:=.ready,pending:=none,fn:=fn,tmps:=a.tmps,params:=Dm,assign:=ao,body:=bo,defers:=w.heap.size }):=⟨_,rfl⟩
    rw [←hW] at D9
    refine ⟨w.heap.size+1,[{ target:=.collected w.heap.size,args:=#[] }],W,{ target:=.fn (.func fid) ys,args:=xs++#[.func (.yield (w.heap.size+1)) #[] #[]] },W,fid,
     (xs++#[.func (.yield (w.heap.size+1)) #[] #[]])++ys,W,?_,?_,fun _ _=>trivial,?_,fun h=>by simp [Ctx.F,Fence.wide] at h,?_⟩
    ·show (Instr.enterLoop fn a.tmps Dm ao bo Y.ro).run P w = _
     rw [hro,hW];exact run_enterLoop_outer _ _ _ _ _
    ·have e1 : ∀ v, a.eval (.const v) = v := fun _ => rfl
     simp [resolve,hg,Deferred.ofValue,e1]
    ·have := cu ((xs ++ #[Value.func (Fn.yield (w.heap.size + 1)) #[] #[]]) ++ ys) W
     simpa [invoke] using this
    ·have rl:aI ι ((μ.set S.H.next Ld).set (S.H.next+1) L) (fs++[.yl (S.H.next+1)]++cs) ((xs++#[Value.func (Fn.yield (w.heap.size+1)) #[] #[]])++ys).toList:=by
      have q1:=r1.mono (au.le_refl _) zk
      have q2:=r2.mono (au.le_refl _) zk
      have:=(q1.append (.cons (.yl _ L hL) .nil)).append q2
      simpa using this
     refine CallsIn.mono (F:=Y.F) (gB Y ι _ _ _ D9 rl) fun e w' he=>?_
     exact fin (L:=L) (aC:=S.H.next+1) (sh:=[S.H.next]) (ms':=[S.H.next]) (ds':={ target:=.collected w.heap.size,args:=#[] }::a.defers) zk hL ⟨Ld,_,a.defers,rfl,hLd,rfl,by have:=hR.ms;rw [hms0] at this;exact this⟩ (.inr ⟨_,rfl,rfl,hms0,hro⟩) e w' he
   |some id0 =>
    simp only at h
    obtain ⟨L0,hm0,hro⟩:=ho
    split at h<;>try (exact h.elim)
    rename_i st0 j0 d0 jo ps0 as0 bd0 N0 hb0
    obtain ⟨cu,gB⟩:=h
    obtain ⟨L0',r0,Ld,q1,q2,q3,q4,q5,q6,q7,q8,q9,q10,q11,q12,q13⟩:=hR.inv.live _ _ hb0
    rw [hR.inv.m0 _ _ hm0] at q1;cases q1
    let L:Loc:=⟨w.heap.size,0,0,0⟩
    have hn0:=hR.inv.nx S.H.next (Nat.le_refl _)
    have zk:=Mu.eY (L:=L) hn0
    have Ik : ∀ fn : Nat, Inv P Y ι (μ.set S.H.next L) ⟨S.H.next + 1, (S.H.next, .loop .ready none d0 S.env ps as bd N) :: S.H.bl⟩
      (w.alloc (.loop { state:=.ready,pending:=none,fn:=fn,tmps:=a.tmps,params:=Dm,assign:=ao,body:=bo,defers:=r0.defers })):=fun fn=>by
     have nA := hR.inv.lay hn0 (L := L) (o := .loop { state := .ready, pending := none, fn := fn, tmps := a.tmps, params := Dm, assign := ao, body := bo, defers := r0.defers })
      (b:=.loop .ready none d0 S.env ps as bd N) rfl ⟨L,{ state:=.ready,pending:=none,fn:=fn,tmps:=a.tmps,params:=Dm,assign:=ao,body:=bo,defers:=r0.defers },Ld,by simp [Mu.set],.inl hR.inv.below.size,by
       show (w.heap.push _)[w.heap.size]?=_
       simp,rfl,rfl,hR.env.mono (au.le_refl _) zk,hps,hR.sz,hpN',hao,hbo,zk _ _ q12,q13⟩
     refine nA.congr (fun id=>?_) (by simp only;omega)
     rw [aG,aW]
     by_cases e:S.H.next=id
     ·subst e;simp
     ·rw [if_neg e,if_neg (fun e'=>e e'.symm)]
    have hL:(μ.set S.H.next L) S.H.next=some L:=by simp [Mu.set]
    refine wpIn_rangeFunc fun fn _=>?_
    have D9:=Ik fn
    obtain ⟨W,hW⟩:∃W,W=w.alloc (.loop { state:=.ready,pending:=none,fn:=fn,tmps:=a.tmps,params:=Dm,assign:=ao,body:=bo,defers:=r0.defers }):=⟨_,rfl⟩
    rw [←hW] at D9
    refine ⟨w.heap.size,[],W,{ target:=.fn (.func fid) ys,args:=xs++#[.func (.yield w.heap.size) #[] #[]] },W,fid,
     (xs++#[.func (.yield w.heap.size) #[] #[]])++ys,W,?_,?_,fun _ _=>trivial,?_,fun h=>by simp [Ctx.F,Fence.wide] at h,?_⟩
    ·show (Instr.enterLoop fn a.tmps Dm ao bo Y.ro).run P w = _
     rw [hro,hW];exact run_enterLoop_inner q3 _ _ _ _ _
    ·have e1 : ∀ v, a.eval (.const v) = v := fun _ => rfl
     simp [resolve,hg,Deferred.ofValue,e1]
    ·have := cu ((xs ++ #[Value.func (Fn.yield w.heap.size) #[] #[]]) ++ ys) W
     simpa [invoke] using this
    ·have rl:aI ι (μ.set S.H.next L) (fs++[.yl S.H.next]++cs) ((xs++#[Value.func (Fn.yield w.heap.size) #[] #[]])++ys).toList:=by
      have q1:=r1.mono (au.le_refl _) zk
      have q2:=r2.mono (au.le_refl _) zk
      have:=(q1.append (.cons (.yl _ L hL) .nil)).append q2
      simpa using this
     refine CallsIn.mono (F:=Y.F) (gB Y ι _ _ _ D9 rl) fun e w' he=>?_
     exact fin (L:=L) (aC:=S.H.next) (sh:=[]) zk hL (hR.ms.mono zk) (.inl ⟨rfl,rfl⟩) e w' he
 ·exact h.elim
end
end Go.AM
end
section
namespace Go.AM
def ud : List Nat → List V → List (Nat × V) → List (Nat × V)
  |p::ps,v::vs,env=>ud ps vs (A9 p v env)
  |_,_,env=>env
def qX (id:Nat) (Q:V→aH→Prop) (e:Ex) (S:St):Prop:=match av id S.H.bl with
  |some (.loop .busy _ d env ps as bd N)=>match e with
    | .normal=>Q (.tf true) ⟨S.H.next,(id,.loop .ready none d env ps as bd N)::aZ id S.H.bl⟩
    | .exit i=>Q (.tf false) ⟨S.H.next,(id,.loop .done (some (.exit i)) d env ps as bd N)::aZ id S.H.bl⟩
    | .ret=>Q (.tf false) ⟨S.H.next,(id,.loop .done (some .ret) d env ps as bd N)::aZ id S.H.bl⟩
  |_=>False
def Il (ar:Nat→Ar) (id:Nat) (vs:List V) (H:aH) (Q:V→aH→Prop):Prop:=match av id H.bl with
  |some (.loop .ready none d env ps as bd N)=>vs.length=ps.length∧qO (ar N) as ⟨ud ps vs env,H,[]⟩ fun e S=>match e with
    | .normal=>match av id S.H.bl with
      |some (.loop .ready none d' env' ps' as' Vv N')=>qO (ar N) bd ⟨S.env,⟨S.H.next,(id,.loop .busy none d' env' ps' as' Vv N')::aZ id S.H.bl⟩,S.ms⟩ (qX id Q)
      |_=>False
    |_=>False
  |_=>False
section
variable {P:Program} {N:Nat} {Y:Ctx} {ι ι':au} {μ μ':Mu} {H:aH} {w w':World} {out:Option Nat} {base:Nat}
theorem Ak:∀{ps:List Nat} {vs:List V} {args:List Value} {env:List (Nat×V)} {tmps:Array Value},aI ι μ vs args→(∀p∈ps,p<N)→tmps.size=N→dV ι μ env tmps →
    dV ι μ (ud ps vs env) ((ps.zip args).foldl (fun t (p,v)=>t.setIfInBounds p v) tmps)∧((ps.zip args).foldl (fun (t:Array Value) (p,v)=>t.setIfInBounds p v) tmps).size=N
  |[],vs,args,env,tmps,hr,hp,hs,he=>by simp only [ud,List.zip_nil_left,List.foldl_nil];exact ⟨he,hs⟩
  |p::ps,[],args,env,tmps,hr,hp,hs,he=>by rw [hr.of_nil];simp only [ud,List.zip_nil_right,List.foldl_nil];exact ⟨he,hs⟩
  |p::ps,v::vs,args,env,tmps,hr,hp,hs,he=>by
    obtain ⟨x,r,rfl,h1,h2⟩:=hr.bq
    simp only [ud,List.zip_cons_cons,List.foldl_cons]
    refine Ak h2 (fun q hq=>hp q (List.mem_cons_of_mem _ hq)) (by simp [hs]) fun t=>?_
    have hd':p<N:=hp p (List.mem_cons_self ..)
    rw [lG]
    by_cases h:p=t
    · subst h
      rw [if_pos rfl]
      have:(tmps.setIfInBounds p x).getD p undef=x:=by simp [Array.getD,hs,hd']
      rw [this];exact h1
    · rw [if_neg h]
      have:(tmps.setIfInBounds p x).getD t undef=tmps.getD t undef:=by
        simp only [Array.getD_eq_getD_getElem?]
        rw [Array.getElem?_setIfInBounds_ne h]
      rw [this];exact he t
theorem Nq {id:Nat} {vs:List V} {Q:V→aH→Prop} (gD:∀N,mw P N (some id) H.next) (h:Il (fun N=>fF P N (some id) H.next) id vs H Q):around P id vs H Q:=by
  intro Y ι μ w args L hI hr hL
  unfold Il at h
  split at h<;>try (exact h.elim)
  rename_i d env ps as bd N hb
  obtain ⟨hlen,h⟩:=h
  obtain ⟨L',r,Ld,q1,q2,q3,q4,q5,q6,q7,q8,q9,q10,q11,q12,q13⟩:=hI.live _ _ hb
  rw [hL] at q1;cases q1
  have hnc:∀(r:Loop) c e f,Obj.loop r ≠ .cells c e f:=fun r c e f=>by intro h;cases h
  have hsize : args.size = r.params.size := by have h1 := hr.1; have h2 : r.params.toList.length = ps.length := by rw [q7]
                                               simp at h1 h2;omega
  refine ⟨r.fn,_,r.assign,r.body,w,run_yield q3 hsize,roundIn_of_wpIn trivial ?_⟩
  let Y':Ctx:=⟨Y.w0,ι,μ,some L.b,Y.x,[]⟩
  obtain ⟨he1,he2⟩:=Ak (env:=env) hr q9 q8 q6
  have hzip:(r.params.zip args).foldl (fun tmps (x:Tmp×Value)=>tmps.setIfInBounds x.1 x.2) r.tmps=(ps.zip args.toList).foldl (fun (t:Array Value) (p,v)=>t.setIfInBounds p v) r.tmps:=by
    rw [←Array.foldl_toList,Array.toList_zip,q7]
  have hR:ek P N Y' ι μ ⟨ud ps vs env,H,[]⟩ { tmps:=(r.params.zip args).foldl (fun tmps (x:Tmp×Value)=>tmps.setIfInBounds x.1 x.2) r.tmps,defers:=[] } w :=
    ⟨by rw [hzip];exact he1,by rw [hzip];exact he2,hI.down _,rfl⟩
  have hbase:Y'.base H.next:=fun id hid=>hI.nx id hid
  have hout:jM Y' (some id):=⟨L,hL,rfl⟩
  refine wpIn_mono (gh (gD N) r.assign q10 h Y' ι μ _ w hout hbase hR) fun e a1 w1 hp=>?_
  obtain ⟨Y1,QJ,ι1,μ1,S1,e1,qE,hx1,hq1⟩:=hp
  have:=QJ.same (by simp [Y'])
  subst this
  cases e1 with
  |exit i=>exact hq1.elim
  |ret=>exact hq1.elim
  |normal =>
    cases hx1
    simp only at hq1
    split at hq1<;>try (exact hq1.elim)
    rename_i d1 env1 ps1 as1 bd1 N1 iA
    obtain ⟨L1,r1,Ld1,p1,p2,p3,p4,p5,p6,p7,p8,p9,p10,p11,p12,p13⟩:=qE.inv.live _ _ iA
    have hL1:μ1 id=some L:=qE.inv.m0 _ _ hL
    rw [hL1] at p1;cases p1
    refine ⟨_,run_beginRound p3 p4,?_⟩
    have hlt1:L.b<w1.heap.size:=(Array.getElem?_eq_some_iff.1 p3).1
    have nA := qE.inv.KR (o' := .loop { r1 with state := .busy }) (B' := .loop .busy none d1 env1 ps1 as1 bd1 N1) iA hL1 p3 (hnc _) (fun _ _ e => by cases e)
      ⟨L,{ r1 with state:=.busy },Ld1,hL1,p2,World.putObj_heap_same hlt1,rfl,p5,p6,p7,p8,p9,p10,p11,p12,p13⟩
    have mS:ek P N Y' ι1 μ1 ⟨S1.env,⟨S1.H.next,(id,.loop .busy none d1 env1 ps1 as1 bd1 N1)::aZ id S1.H.bl⟩,S1.ms⟩ a1 (w1.putObj L.b (.loop { r1 with state:=.busy })):=⟨qE.env,qE.sz,nA,qE.ms⟩
    refine wpIn_mono (gh (gD N) r.body q11 hq1 Y' ι1 μ1 _ _ hout hbase mS) fun e a3 w3 hp=>?_
    obtain ⟨Y3,hY3,ι3,μ3,S3,e3,PS,hx3,Vw⟩:=hp
    have:=hY3.same (by simp [Y'])
    subst this
    unfold qX at Vw
    split at Vw<;>try (exact Vw.elim)
    rename_i j3 d3 env3 ps3 as3 bd3 N3 Dk
    obtain ⟨L3,r3,Ld3,s1,s2,s3,s4,s5,s6,s7,s8,s9,s10,s11,s12,s13⟩:=PS.inv.live _ _ Dk
    have hL3:μ3 id=some L:=PS.inv.m0 _ _ hL
    rw [hL3] at s1;cases s1
    have hlt3:L.b<w3.heap.size:=(Array.getElem?_eq_some_iff.1 s3).1
    have fin:∀(jump:Option Code) (st:pT) (j:Option Ex) (v:V),stR st=(if jump.isNone then .ready else .done)→DC j jump→v = .tf jump.isNone→Q v ⟨S3.H.next,(id,.loop st j d3 env3 ps3 as3 bd3 N3)::aZ id S3.H.bl⟩ →
        ∃v w',(Instr.endRound L.b jump).run P w3 = .ok v w'∧Qw P Y ι μ Q (.returned v) w':=fun jump st j v h1 h2 h3 h4=>by
      have hI4 := PS.inv.KR (o' := .loop { r3 with state := if jump.isNone then .ready else .done, pending := jump }) (B' := .loop st j d3 env3 ps3 as3 bd3 N3) Dk hL3 s3 (hnc _) (fun _ _ e => by cases e)
        ⟨L,{ r3 with state:=if jump.isNone then .ready else .done,pending:=jump },Ld3,hL3,s2,World.putObj_heap_same hlt3,h1.symm,h2,s6,s7,s8,s9,s10,s11,s12,s13⟩
      obtain ⟨u1,u2,u3⟩:=hI.up hI4
      subst h3
      exact ⟨_,_,run_endRound jump s3,_,ι3,μ3,_,_,rfl,u2,u3,u1,.tf _,h4⟩
    cases e3 with
    |normal=>cases hx3;exact fin none .ready none _ rfl rfl rfl Vw
    |exit i=>cases hx3;exact fin (some (.exit i)) .done (some (.exit i)) _ rfl rfl rfl Vw
    |ret=>cases hx3;exact fin (some .ret) .done (some .ret) _ rfl rfl rfl Vw
end
end Go.AM
end
section
namespace Go.AM
section
variable {c1 : Nat → List V → aH → (V → aH → Prop) → Prop} {c2 : Nat → List V → V → Prop} {c3 : C → St → (Ex → St → Prop) → Prop}
 {c4:Nat→List V→aH→(V→aH→Prop)→Prop} {c5:O→List Nat→C→C→St→(Ex→St→Prop)→Prop} {c6:C→St→(Ex→St→Prop)→Prop} {bl:aq}
theorem jq : ∀ {t : Ty} {bl : aq} {vs : List V}, aX (aV c1 c2 c3 c4 c5 c6) bl t vs = aX dN bl t vs
 | .unit,bl,vs=>by simp only [aX]
 | .prod a b,bl,vs=>by simp only [aX,jq (t:=a),jq (t:=b)]
 | .bool,_,[]=>rfl
 | .str,_,[]=>rfl
 | .int _,_,[]=>rfl
 | .list _,_,[]=>rfl
 | .bZ _ _ _,_,[]=>rfl
 | .bool,_,c::cs=>by cases c<;>rfl
 | .str,_,c::cs=>by cases c<;>rfl
 | .int k,_,c::cs=>by cases c<;>rfl
 | .list t,_,c::cs=>by cases c<;>rfl
 | .bZ d g t,_,c::cs=>by cases c<;>first|rfl|(simp only [aX,jq (t:=t)])
theorem qY {t : Ty} {bl : aq} : ∀ {n : Nat} {vs : List V}, lC (aV c1 c2 c3 c4 c5 c6) bl t n vs = lC dN bl t n vs
 |0,[]=>rfl
 |0,_::_=>rfl
 |n+1,vs=>by simp only [lC,jq,qY (n:=n)]
theorem BC {t : Ty} {xs : List t.den} : ∀ {n i : Nat}, Dt (aV c1 c2 c3 c4 c5 c6) t xs n i = Dt dN t xs n i
 |0,_=>rfl
 |n+1,i=>by simp only [Dt,BC (n:=n)];rfl
theorem Ea {t:Ty} {g:Bool} {v:V}:keyOf (aV c1 c2 c3 c4 c5 c6) t g v=keyOf dN t g v:=by simp only [keyOf,jq]
theorem BD {t : Ty} : ∀ {vs : List V}, qF (aV c1 c2 c3 c4 c5 c6) bl t vs = qF dN bl t vs
 |[]=>rfl
 |v::r=>by simp only [qF,jq,BD (vs:=r)]
theorem mE : ∀ {t : Ty} {x : t.den} {p : List Bool} {vs : List V}, cC (aV c1 c2 c3 c4 c5 c6) bl t x p vs = cC dN bl t x p vs
 |t,x,[],vs=>by cases t<;>simp only [cC,jq]
 | .prod a b,x,false::p,vs=>by simp only [cC,mE (t:=a)]
 | .prod a b,x,true::p,vs=>by simp only [cC,mE (t:=b)]
 | .unit,_,_::_,_=>by simp [cC]
 | .bool,_,_::_,_=>by simp [cC]
 | .str,_,_::_,_=>by simp [cC]
 | .int _,_,_::_,_=>by simp [cC]
 | .list _,_,_::_,_=>by simp [cC]
 | .bZ _ _ _,_,_::_,_=>by simp [cC]
theorem qZ {t:Ty} {v:V}:elems (aV c1 c2 c3 c4 c5 c6) bl t v=elems dN bl t v:=by cases v<;>rfl
theorem wR:∀{ks:List Kd} {xs ys:List V},aK (aV c1 c2 c3 c4 c5 c6) ks xs ys=aK dN ks xs ys:=by
 intro ks
 induction ks with
 |nil=>intro xs ys;cases xs<;>cases ys<;>rfl
 |cons k ks ih =>
  intro xs ys
  cases xs with
  |nil=>cases k<;>rfl
  |cons x xs =>
   cases ys with
   |nil=>cases k<;>cases x<;>rfl
   |cons y ys=>cases k<;>cases x<;>cases y<;>first|rfl|(simp only [aK,ih];rfl)
theorem wS {mx:Bool} {k:IntKind}:∀{ys:List V} {a:Int},ic (aV c1 c2 c3 c4 c5 c6) mx k a ys=ic dN mx k a ys:=by
 intro ys
 induction ys with
 |nil=>intro a;rfl
 |cons y ys ih=>intro a;cases y<;>first|rfl|(simp only [ic,ih];rfl)
theorem QK {e:dB} {vs:List V} {aC:Nat}:iw (aV c1 c2 c3 c4 c5 c6) e vs bl aC=iw dN e vs bl aC:=by
 cases e<;>first|rfl|(simp only [iw,qZ,Ea,qY];done)|(simp only [iw,qZ,Ea,qY];rfl)
theorem wT {f g : Nat → Option V} (h : ∀ n, f n = g n) : ∀ ns, A7 f ns = A7 g ns
 |[]=>rfl
 |n::r=>by simp only [A7,h n,wT h r]
theorem Vx {vs:List V} {j:Int}:P6 (aV c1 c2 c3 c4 c5 c6) vs j=P6 dN vs j:=rfl
theorem BE {cs : List V} : ∀ {l : List (Nat × Nat × Int)} {o : Nat}, Du (aV c1 c2 c3 c4 c5 c6) cs l o = Du dN cs l o
 |[],o=>rfl
 |(ej,len,j)::r,o=>by simp only [Du,wT (fun n=>BE (l:=r) (o:=o+n * ej)),Vx]
theorem QL {i:I} {env:List (Nat×V)} {aC:Nat}:bT (aV c1 c2 c3 c4 c5 c6) i env bl aC=bT dN i env bl aC:=by
 cases i<;>first|rfl|(simp only [bT,BD,mE,qZ,wR,wS,QK,qY,BC,BE];done)|(simp only [bT,BD,mE,qZ,wR,wS,QK,qY,BC,BE];rfl)
theorem QM {i:I} {env:List (Nat×V)} {aC:Nat}:yZ (aV c1 c2 c3 c4 c5 c6) i env bl aC=yZ dN i env bl aC:=by
 cases i<;>first|rfl|(simp only [yZ,mE,jq];done)|(simp only [yZ,mE,jq];rfl)
theorem acg {id:Nat}:clU (aV c1 c2 c3 c4 c5 c6) id bl=clU dN id bl:=by
 unfold clU
 split
 ·simp only [mE];rfl
 ·rfl
end
theorem QN {c1 : Nat → List V → aH → (V → aH → Prop) → Prop} {c2 : Nat → List V → V → Prop} {c3 : C → St → (Ex → St → Prop) → Prop}
  {c4:Nat→List V→aH→(V→aH→Prop)→Prop} {c5:O→List Nat→C→C→St→(Ex→St→Prop)→Prop} {c6:C→St→(Ex→St→Prop)→Prop}:∀{ids:List Nat} {bl:aq},PO (aV c1 c2 c3 c4 c5 c6) ids bl=PO dN ids bl
 |[],_=>rfl
 |id::r,bl=>by simp only [PO,acg,QN (ids:=r)]
def af7 (ar:Ar) (x:O) (env:List (Nat×V)) (bl:aq) (aC:Nat):Out:=some ([],x.ev env,[])
def Vy (ar:Ar) (c:O) (a:O) (b:O) (env:List (Nat×V)) (bl:aq) (aC:Nat):Out :=
  match c.ev env with
  | .tf true=>some ([],a.ev env,[])
  | .tf false=>some ([],b.ev env,[])
  | .bool c=>match M8 (a.ev env),M8 (b.ev env) with
   |some x,some y=>some ([],.bool (ar.HJ c x y),[])
   |_,_=>none
  |_=>none
def QO (ar:Ar) (z:List V) (env:List (Nat×V)) (bl:aq) (aC:Nat):Out:=some ([],.ptr aC 0,[(aC,some (.cells z false))])
def ach (ar:Ar) (x:O) (env:List (Nat×V)) (bl:aq) (aC:Nat):Out:=match (x.ev env).cells? with
  |some cs=>some ([],.ptr aC 0,[(aC,some (.cells cs false))])
  |none=>none
def QS (ar:Ar) (z:List V) (parts:List (Nat×Nat×O)) (env:List (Nat×V)) (bl:aq) (aC:Nat):Out:=match tK parts env z with
  |some cs=>some ([],.agg cs,[])
  |none=>none
def Nr (ar:Ar) (t:Ty) (xs:List O) (env:List (Nat×V)) (bl:aq) (aC:Nat):Out:=match qF ar bl t (xs.map (·.ev env)) with
  |some (ys,u)=>some ([],.sl aC t 0 xs.length,u++[(aC,some (.arr t ys false))])
  |none=>none
def Vz (ar:Ar) (agg:Bool) (k:Nat) (x:O) (env:List (Nat×V)) (bl:aq) (aC:Nat):Out :=
  match x.ev env with
  | .ptr id off=>match av id bl with
   |some (.cells cs _)=>match cut off k cs with
    |some vs=>match bY agg vs with
     |some v=>some ([],v,[])
     |none=>none
    |none=>none
   |_=>none
  | .eS cs=>match cut 0 k cs with
   |some vs=>match bY agg vs with
    |some v=>some ([],v,[])
    |none=>none
   |none=>none
  | .ep id t i p=>match av id bl with
   |some (.arr t' xs _)=>if t=t' then
     match o3 t' (ar.get t'.zero xs i) p with
     |some ⟨t2,y⟩=>match cm t2 y with
      |vs=>if vs.length=k then (match bY agg vs with
       |some v=>some ([ar.PL i (ar.len xs)],v,[])
       |none=>none) else none
     |none=>none
    else none
   |some (.l6 t' xs i' p' v)=>if t=t'∧p=p'∧k=1 then (match agg with
    |false=>some ([ar.eq (Int.ofNat i) (Int.ofNat i')],v,[])
    |true=>none) else none
   |_=>none
  | .ip t y=>match cm t y with
   |vs=>if vs.length=k then (match bY agg vs with
    |some v=>some ([],v,[])
    |none=>none) else none
  | .pa id t m=>match av id bl with
   |some (.arr t' xs _)=>if t=t' then (match Dt ar t' xs m 0 with
    |vs=>if vs.length=k then (match bY agg vs with
     |some v=>some ([],v,[])
     |none=>none) else none) else none
   |_=>none
  | .sp id o l=>match av id bl with
   |some (.cells cs _)=>match k with
    |1=>match Du ar cs l o with
     |some v=>match bY agg [v] with
      |some v=>some ([],v,[])
      |none=>none
     |none=>none
    |_=>none
   |_=>none
  |_=>none
def QT (ar:Ar) (k:Nat) (a:O) (x:O) (env:List (Nat×V)) (bl:aq) (aC:Nat):Out :=
  match (x.ev env).cells? with
  |none=>none
  |some vs=>if vs.length=k then
   (match a.ev env with
   | .ptr id off=>match av id bl with
    |some (.cells cs false)=>match qG off vs cs with
     |some cs'=>some ([],.any,[(id,some (.cells cs' false))])
     |none=>none
    |_=>none
   | .ep id t i p=>match av id bl with
    |some (.arr t' xs false)=>if t=t' then
      match cC ar bl t' (ar.get t'.zero xs i) p vs with
      |some (y,u)=>match tN id u with
       |true=>some ([ar.PL i (ar.len xs)],.any,u++[(id,some (.arr t' (ar.set xs i y) false))])
       |false=>none
      |none=>none
     else none
    |_=>none
   | .pa id t m=>match av id bl with
    |some (.arr t' xs false)=>if t=t' then
      match lC ar bl t' m vs with
      |some (ys,u)=>match tN id u with
       |true=>some ([],.any,u++[(id,some (.arr t' ys false))])
       |false=>none
      |none=>none
     else none
    |_=>none
   |_=>none) else none
def aci (ar:Ar) (op:yV) (x:O) (y:O) (env:List (Nat×V)) (bl:aq) (aC:Nat):Out :=
  match x.ev env,y.ev env with
  | .int k a,.int k' b=>match op with
   | .shl=>zN ar .shl k a b
   | .shr=>zN ar .shr k a b
   |_=>if k=k' then HL ar op k a b else none
  | .str a,.str b=>HM ar op a b
  |_,_=>none
def acj (ar:Ar) (neg:Bool) (x:O) (y:O) (env:List (Nat×V)) (bl:aq) (aC:Nat):Out:=match M8 (x.ev env),M8 (y.ev env) with
  |some a,some b=>some ([],.bool (match neg with|true=>ar.sB (ar.beq a b)|false=>ar.beq a b),[])
  |_,_=>none
def ack (ar:Ar) (neg:Bool) (ks:List Kd) (x:O) (y:O) (env:List (Nat×V)) (bl:aq) (aC:Nat):Out :=
  match x.ev env,y.ev env with
  | .agg xs,.agg ys=>match aK ar ks xs ys with
   |some c=>some ([],.bool (match neg with|true=>ar.sB c|false=>c),[])
   |none=>none
  |_,_=>none
def acm (ar:Ar) (x:O) (env:List (Nat×V)) (bl:aq) (aC:Nat):Out:=match x.ev env with
  | .int k a=>match k.signed with
   |true=>match ar.sub 0 a with|z=>some ([ar.gZ k z],.int k z,[])
   |false=>some ([],.int k (ar.wr k (ar.sub 0 a)),[])
  |_=>none
def acn (ar:Ar) (x:O) (env:List (Nat×V)) (bl:aq) (aC:Nat):Out:=match x.ev env with
  | .tf b=>some ([],.tf (!b),[])
  | .bool b=>some ([],.bool (ar.sB b),[])
  |_=>none
def VA (ar:Ar) (k:IntKind) (x:O) (env:List (Nat×V)) (bl:aq) (aC:Nat):Out:=match x.ev env with
  | .int _ n=>some ([ar.gZ k n],.int k n,[])
  |_=>none
def aco (ar:Ar) (off:Nat) (path:List Bool) (x:O) (env:List (Nat×V)) (bl:aq) (aC:Nat):Out:=match x.ev env with
  | .ptr id o=>some ([],.ptr id (o+off),[])
  | .eS cs=>if off≤cs.length then some ([],.eS (cs.drop off),[]) else none
  | .ep id t i p=>match t.qC p with
   |some t1=>if t1.bw path=off then (match t1.qC path with
    |some _=>some ([],.ep id t i (p++path),[])
    |none=>none) else none
   |none=>none
  | .ip t y=>if t.bw path=off then (match o3 t y path with
   |some ⟨t2,z⟩=>some ([],.ip t2 z,[])
   |none=>none) else none
  | .pa id t m=>if (off / t.sz) * t.sz=off∧off / t.sz<m then some ([],.ep id t (off / t.sz) [],[]) else none
  | .kC t xs=>if (off / t.sz) * t.sz=off then some ([ar.PL (off / t.sz) (ar.len xs)],.ip t (ar.get t.zero xs (off / t.sz)),[]) else none
  | .sp id o l=>some ([],.sp id (o+off) l,[])
  |_=>none
def QU (ar:Ar) (agg:Bool) (off:Nat) (k:Nat) (x:O) (env:List (Nat×V)) (bl:aq) (aC:Nat):Out:=match x.ev env with
  | .agg cs=>match cut off k cs with
   |some vs=>match bY agg vs with
    |some v=>some ([],v,[])
    |none=>none
   |none=>none
  |_=>none
def acp (ar:Ar) (ej:Nat) (x:O) (i:O) (env:List (Nat×V)) (bl:aq) (aC:Nat):Out :=
  match i.ev env with
  | .int _ n=>match x.ev env with
   | .sl id t lo m=>if t.sz=ej then some ([ar.fZ n (Int.ofNat m)],.ep id t (ar.HK lo (ar.sC n)) [],[]) else none
   | .ez t xs=>if t.sz=ej then some ([ar.fZ n (Int.ofNat (ar.len xs))],.ip t (ar.get t.zero xs (ar.sC n)),[]) else none
   |_=>none
  |_=>none
def VB (ar:Ar) (len:Nat) (ej:Nat) (x:O) (i:O) (env:List (Nat×V)) (bl:aq) (aC:Nat):Out :=
  match x.ev env with
  | .pa id t m=>match i.ev env with
   | .int _ j=>if t.sz=ej∧m=len then some ([ar.fZ j (Int.ofNat len)],.ep id t (ar.sC j) [],[]) else none
   |_=>none
  | .kC t xs=>match i.ev env with
   | .int _ j=>if t.sz=ej then some ([ar.fZ j (Int.ofNat len),ar.fZ j (Int.ofNat (ar.len xs))],.ip t (ar.get t.zero xs (ar.sC j)),[]) else none
   |_=>none
  | .ptr id o=>match i.ev env with
   | .int _ j=>some ([ar.fZ j (Int.ofNat len)],.sp id o [(ej,len,j)],[])
   |_=>none
  | .sp id o l=>match i.ev env with
   | .int _ j=>some ([ar.fZ j (Int.ofNat len)],.sp id o ((ej,len,j)::l),[])
   |_=>none
  | .eS cs=>match i.ev env with
   | .int _ (.ofNat n)=>if n<len then (if n * ej≤cs.length then some ([],.eS (cs.drop (n * ej)),[]) else none) else none
   |_=>none
  |_=>none
def acq (ar:Ar) (k:Nat) (x:O) (env:List (Nat×V)) (bl:aq) (aC:Nat):Out:=match x.ev env with
  | .bX vs=>match vs[k]? with
   |some v=>some ([],v,[])
   |none=>none
  |_=>none
def acr (ar:Ar) (x:O) (env:List (Nat×V)) (bl:aq) (aC:Nat):Out:=match x.ev env with
  | .sl _ _ _ n=>some ([],.int .i64 (Int.ofNat n),[])
  | .ez _ xs=>some ([],.int .i64 (Int.ofNat (ar.len xs)),[])
  | .bG=>some ([],.int .i64 0,[])
  |_=>none
def VC (ar:Ar) (x:O) (env:List (Nat×V)) (bl:aq) (aC:Nat):Out:=match x.ev env with
  | .str s=>some ([],.int .i64 (ar.M7 s),[])
  |_=>none
def VD (ar:Ar) (n:Nat) (env:List (Nat×V)) (bl:aq) (aC:Nat):Out:=some ([],.int .i64 (Int.ofNat n),[])
def Ns (ar:Ar) (ej:Nat) (x:O) (y:O) (env:List (Nat×V)) (bl:aq) (aC:Nat):Out :=
  match x.ev env with
  | .bG=>match HN (y.ev env) with
   |some t=>if t.sz=ej then
     (match elems ar bl t (y.ev env) with
     |some ys=>match ar.len ys with
      |m=>some ([ar.PL m cM],.sl aC t 0 m,[(aC,some (.arr t ys false))])
     |none=>none) else none
   |none=>none
  | .sl id t lo n=>if t.sz=ej then
   (match av id bl with
   |some (.arr t' xs false)=>if t'=t then
    (match jE t' t xs with
    |some xs'=>match elems ar bl t (y.ev env) with
     |some ys=>match ar.HK n (ar.len ys) with
      |m=>some ([ar.PL m cM],.sl aC t 0 m,[(id,none),(aC,some (.arr t (ar.app (ar.sub' xs' lo n) ys) false))])
     |none=>none
    |none=>none) else none
   |_=>none) else none
  |_=>none
def Im (ar:Ar) (t:Ty) (n:O) (env:List (Nat×V)) (bl:aq) (aC:Nat):Out:=match n.ev env with
  | .int _ z=>match ar.sC z with
   |m=>some ([ar.fZ z (Int.ofNat cM)],.sl aC t 0 m,[(aC,some (.arr t (ar.rep m t.zero) false))])
  |_=>none
def VE (ar:Ar) (f:Nat) (a:List O) (b:List O) (env:List (Nat×V)) (bl:aq) (aC:Nat):Out:=some ([],.fn f (a.map (·.ev env)) (b.map (·.ev env)),[])
def QV (ar:Ar) (ej:Nat) (x:O) (lo:Option O) (hi:Option O) (mx:Option O) (env:List (Nat×V)) (bl:aq) (aC:Nat):Out :=
  match mx with
  |some m=>match hi with
   |some h=>match pU (m.ev env),pU (h.ev env),cn env 0 lo with
    |some a,some b,some c=>match x.ev env with
     | .sl _ _ _ _=>some ([ar.eq a 0,ar.eq b 0,ar.eq c 0],.bG,[])
     | .ez _ _=>some ([ar.eq a 0,ar.eq b 0,ar.eq c 0],.bG,[])
     | .bG=>some ([ar.eq a 0,ar.eq b 0,ar.eq c 0],.bG,[])
     |_=>none
    |_,_,_=>none
   |none=>none
  |none =>
   match x.ev env with
   | .sl id t l n=>if t.sz=ej then
    (match cn env 0 lo,cn env (Int.ofNat n) hi with
    |some a,some b=>some ([ar.le 0 a,ar.le a b,ar.le b (Int.ofNat n)],.sl id t (ar.HK l (ar.sC a)) (ar.P5 (ar.sC b) (ar.sC a)),[])
    |_,_=>none) else none
   | .ez t xs=>if t.sz=ej then
    (match cn env 0 lo,cn env (Int.ofNat (ar.len xs)) hi with
    |some a,some b=>some ([ar.le 0 a,ar.le a b,ar.le b (Int.ofNat (ar.len xs))],.ez t (ar.sub' xs (ar.sC a) (ar.P5 (ar.sC b) (ar.sC a))),[])
    |_,_=>none) else none
   | .bG=>(match cn env 0 lo,cn env 0 hi with
    |some a,some b=>some ([ar.eq a 0,ar.eq b 0],.bG,[])
    |_,_=>none)
   |_=>none
def Nt (ar:Ar) (mx:Bool) (x:O) (ys:List O) (env:List (Nat×V)) (bl:aq) (aC:Nat):Out:=match x.ev env with
  | .int k a=>match ic ar mx k a (ys.map (·.ev env)) with
   |some z=>some ([],.int k z,[])
   |none=>none
  |_=>none
def evF (ar:Ar) (i:I) (env:List (Nat×V)) (bl:aq) (aC:Nat):Out:=match i with
 | .mv x=>af7 ar x env bl aC
 | .pick c a b=>Vy ar c a b env bl aC
 | .alloc z=>QO ar z env bl aC
 | .box x=>ach ar x env bl aC
 | .build z parts=>QS ar z parts env bl aC
 | .dH t xs=>Nr ar t xs env bl aC
 | .load agg k x=>Vz ar agg k x env bl aC
 | .store k a x=>QT ar k a x env bl aC
 | .bin op x y=>aci ar op x y env bl aC
 | .UY neg x y=>acj ar neg x y env bl aC
 | .eqs neg ks x y=>ack ar neg ks x y env bl aC
 | .neg x=>acm ar x env bl aC
 | .not x=>acn ar x env bl aC
 | .conv k x=>VA ar k x env bl aC
 | .jl off path x=>aco ar off path x env bl aC
 | .field agg off k x=>QU ar agg off k x env bl aC
 | .idx ej x i=>acp ar ej x i env bl aC
 | .yW len ej x i=>VB ar len ej x i env bl aC
 | .ext k x=>acq ar k x env bl aC
 | .len x=>acr ar x env bl aC
 | .lens x=>VC ar x env bl aC
 | .yX n=>VD ar n env bl aC
 | .append ej x y=>Ns ar ej x y env bl aC
 | .gY t n=>Im ar t n env bl aC
 | .A4 f a b=>VE ar f a b env bl aC
 | .slice ej x lo hi mx=>QV ar ej x lo hi mx env bl aC
 | .k8 mx x ys=>Nt ar mx x ys env bl aC
 | .ex e xs=>iw ar e (xs.map (·.ev env)) bl aC
theorem QW {ar:Ar} {i:I} {env:List (Nat×V)} {bl:aq} {aC:Nat}:evF ar i env bl aC=bT ar i env bl aC:=by cases i<;>rfl
structure Rn where
 call:Nat→List V→aH→Option (V×aH)
 round:Nat→List V→aH→Option (V×aH)
 gx:Nat→List V→Option V
 loop:Nat→Option Nat→C→St→Option (Ex×St)
section
variable {P:Program} {N:Nat} {Y:Ctx} {ι ι':au} {μ μ':Mu} {H:aH} {w w':World} {out:Option Nat} {base:Nat}
structure RnOk (P:Program) (rn:Rn):Prop where
 call:∀{f vs H v H'},rn.call f vs H=some (v,H')→gA P f vs H fun v2 H2=>v2=v∧H2=H'
 round:∀{id vs H v H'},rn.round id vs H=some (v,H')→around P id vs H fun v2 H2=>v2=v∧H2=H'
 gx:∀{f vs v},rn.gx f vs=some v→gx P f vs v
 loop:∀{N out base c S e S' K},rn.loop N out c S=some (e,S')→K e S'→∃n,unr (fF P N out base) c n S K
 mixed:P.follows .mixedOrders=true
theorem BF {ar : Ar} {d : Option Nat} {i : I} {S : St} {K : St → Prop} {ob : List Bool} {v : V} {u : dZ} (aj : bT ar i S.env S.H.bl S.H.next = some (ob, v, u)) (cL : uB ob)
  (hk:K ⟨put d v S.env,⟨PR i.lays S.H.next,bn u S.H.bl⟩,S.ms⟩):wpOp ar d i S K:=by
 refine .inl ?_
 unfold qH
 rw [aj]
 cases ob with
 |nil=>exact hk
 |cons b r=>exact ⟨cL,hk⟩
theorem acs {ar : Ar} {d : Option Nat} {i : I} {S : St} {K : St → Prop} {ob : List Bool} {v : V} {u : dZ} (aj : yZ ar i S.env S.H.bl S.H.next = some (ob, v, u)) (cL : uB ob)
  (hk:K ⟨put d v S.env,⟨PR i.lays S.H.next,bn u S.H.bl⟩,S.ms⟩):wpOp ar d i S K:=by
 refine .inr (.inl ?_)
 unfold qH
 rw [aj]
 cases ob with
 |nil=>exact hk
 |cons b r=>exact ⟨cL,hk⟩
theorem acu {ar : Ar} {d : Option Nat} {i : I} {S : St} {K : St → Prop} {ob : List Bool} {v : V} {u u' : dZ} {ids : List Nat} (hu : PO ar ids S.H.bl = some u') (aj : bT ar i S.env (bn u' S.H.bl) S.H.next = some (ob, v, u)) (cL : uB ob)
  (hk:K ⟨put d v S.env,⟨PR i.lays S.H.next,bn u (bn u' S.H.bl)⟩,S.ms⟩):wpOp ar d i S K:=by
 refine .inr (.inr ⟨ids,u',hu,?_⟩)
 unfold qH
 rw [aj]
 cases ob with
 |nil=>exact hk
 |cons b r=>exact ⟨cL,hk⟩
end
end Go.AM
end
section
namespace Go.AM
open Go.RowKit
def jQ (P : Program) (g : TypeId → Ty → Bool) : Nat → List Field → Ty → Bool
 |_,[],.unit=>true
 |off,[f],ty=>Nat.beq f.offset off&&Nat.beq (P.cellsOf f.type) ty.sz&&g f.type ty
 |off,f::f2::r,.prod a b=>Nat.beq f.offset off&&Nat.beq (P.cellsOf f.type) a.sz&&g f.type a&&jQ P g (off+a.sz) (f2::r) b
 |_,_,_=>false
def Al (P:Program) (g:TypeId→Ty→Bool) (fs:List Field) (ty:Ty):Bool:=match fs with
 |[f]=>match ty with
  | .prod a .unit=>jQ P g 0 [f] a
  |_=>false
 |fs=>jQ P g 0 fs ty
def Am (P : Program) (g : TypeId → Ty → Bool) : Nat → TypeId → Ty → Bool
 |0,_,.unit=>true
 |1,e,ty=>Nat.beq (P.cellsOf e) ty.sz&&g e ty
 |n+2,e,.prod a b=>Nat.beq (P.cellsOf e) a.sz&&g e a&&Am P g (n+1) e b
 |_,_,_=>false
def fq (P : Program) : Nat → TypeId → Ty → Bool
 |0,_,_=>false
 |n+1,t,ty=>match P.underlying t with
  |some .bool=>match ty with | .bool=>true|_=>false
  |some (.int k)=>match ty with | .int k'=>decide (k=k')|_=>false
  |some .string=>match ty with | .str=>true|_=>false
  |some (.slice e)=>match ty with | .list te=>Nat.beq (P.cellsOf e) te.sz&&Nat.blt 0 te.sz&&fq P n e te|_=>false
  |some (.struct fs)=>Nat.beq (P.cellsOf t) ty.sz&&Al P (fq P n) fs.toList ty
  |some (.array m e)=>Nat.beq (P.cellsOf t) ty.sz&&Am P (fq P n) m e ty
  |_=>false
def Wf : (t : Ty) → t.den → Prop
 | .unit,_=>True
 | .bool,_=>True
 | .str,s=>s.size≤maxLen
 | .int k,n=>k.min≤n∧n≤k.max
 | .list t,xs=>xs.length≤maxLen∧∀x∈xs,Wf t x
 | .prod a b,x=>Wf a x.1∧Wf b x.2
 | .bZ _ _ a,x=>Wf a x
def jf (w:World):au:=fun b o=>w.cell? ⟨b,o,none⟩
section
variable {H:Type} {enc:TypeId×Value→H} {P:Program} {w:World} {sp:Nat→Bool} {held:Bool}
theorem BG {b o:Nat} {a:Addr} {n:Nat} {cs:List Value} (ha:a=⟨b,o,none⟩∨0<n) (hb:a.block=b) (ho:a.off=o) (h:w.cells? 0 a n=some cs):cs.length=n∧Reads (jf w) b o cs∧(0<n→a.spot=none):=by
 unfold World.cells? at h
 rw [if_pos (Nat.zero_le _)] at h
 have key:∀(m:Nat) (xs:List Nat) (cs:List Value),xs.mapM (fun i=>w.cell? (a.add i))=some cs→cs.length=xs.length∧∀(j i:Nat),xs[j]?=some i→w.cell? (a.add i)=cs[j]?:=by
  intro m xs
  induction xs with
  |nil=>intro cs h;simp at h;subst h;exact ⟨rfl,fun j i hj=>by simp at hj⟩
  |cons x xs ih =>
   intro cs h
   rw [List.mapM_cons] at h
   cases hx:w.cell? (a.add x) with
   |none=>simp [hx] at h
   |some v =>
    cases hr:xs.mapM (fun i=>w.cell? (a.add i)) with
    |none=>simp [hx,hr] at h
    |some vs =>
     simp [hx,hr] at h
     subst h
     obtain ⟨h1,h2⟩:=ih vs hr
     refine ⟨by simp [h1],fun j i hj=>?_⟩
     cases j with
     |zero=>simp at hj;subst hj;simpa using hx
     |succ j=>simpa using h2 j i (by simpa using hj)
 obtain ⟨h1,h2⟩:=key 0 _ _ h
 have hlen:cs.length=n:=by simpa using h1
 have QX:0<n→a.spot=none:=fun hn=>by
  have:=h2 0 0 (by simp [hn])
  simp only [Addr.add,if_true] at this
  have hc:∃v,w.cell? a=some v:=⟨cs[0]'(by omega),by rw [this];simp⟩
  obtain ⟨v,hv⟩:=hc
  unfold World.cell? at hv
  cases hs:a.spot with
  |none=>rfl
  |some s=>rw [hs] at hv;split at hv<;>simp at hv
 refine ⟨hlen,fun j v hv=>?_,QX⟩
 have hj:j<cs.length:=(List.getElem?_eq_some_iff.1 hv).1
 have:=h2 j j (by rw [List.getElem?_range (by omega)])
 rw [hv] at this
 unfold jf
 have e:a.add j=⟨b,o+j,none⟩:=by
  have hs:=QX (by omega)
  unfold Addr.add
  subst hb;subst ho
  split
  ·rename_i h0;subst h0;cases a;simp_all
  ·rfl
 rw [e] at this
 exact this
theorem K7 {α : Type} {D : α → List Value → Prop} : ∀ (n : Nat) (f : Nat → α) (g : Nat → List Value), (∀ i, i < n → D (f i) (g i)) → bf D ((List.range n).map f) ((List.range n).flatMap g)
 |0,_,_,_=>rfl
 |n+1,f,g,h=>by
  rw [List.range_succ,List.map_append,List.flatMap_append]
  exact (K7 n f g fun i hi=>h i (by omega)).append ⟨g n,[],by simp,h n (by omega),rfl⟩
theorem VF {k:IntKind} {n:Int} (h:(Lit.int k n).wf=true):k.min≤n∧n≤k.max:=by
 simpa [Lit.wf] using h
theorem qb {n : Nat} (ih : ∀ {t : TypeId} {ty : Ty}, fq P n t ty = true → ∀ {fuel : Nat} {cs : List Value} {x : DataW H × List MemPlace}, DataW.trod enc P w 0 sp held fuel t cs = some x → ∃ y : ty.den, af (jf w) ty y cs ∧ Wf ty y)
  {fuel:Nat} {cs:List Value}:∀{fs:List Field} {off:Nat} {ty:Ty},jQ P (fq P n) off fs ty=true→cs.length=off+ty.sz →
   (∀f∈fs,∃x,DataW.trod enc P w 0 sp held fuel f.type ((cs.drop f.offset).take (P.cellsOf f.type))=some x)→∃y:ty.den,af (jf w) ty y (cs.drop off)∧Wf ty y
 |[],off,ty,h,hl,_=>by
  cases ty<;>simp [jQ] at h
  exact ⟨(),by simp [af];simp [Ty.sz] at hl;omega,trivial⟩
 |[f],off,ty,h,hl,hf=>by
  have h':(Nat.beq f.offset off&&Nat.beq (P.cellsOf f.type) ty.sz&&fq P n f.type ty)=true:=by
   cases ty<;>simpa [jQ] using h
  simp only [Bool.and_eq_true] at h'
  obtain ⟨⟨h1,h2⟩,h3⟩:=h'
  have e1:=Nat.eq_of_beq_eq_true h1
  have e2:=Nat.eq_of_beq_eq_true h2
  obtain ⟨x,hx⟩:=hf f (List.mem_singleton_self _)
  rw [e1,e2,List.take_of_length_le (by simp;omega)] at hx
  exact ih h3 hx
 |f::f2::r,off,ty,h,hl,hf=>by
  cases ty<;>simp only [jQ,Bool.false_eq_true] at h
  rename_i a b
  simp only [Bool.and_eq_true] at h
  obtain ⟨⟨⟨h1,h2⟩,h3⟩,h4⟩:=h
  have e1:=Nat.eq_of_beq_eq_true h1
  have e2:=Nat.eq_of_beq_eq_true h2
  obtain ⟨x,hx⟩:=hf f (List.mem_cons_self ..)
  rw [e1,e2] at hx
  obtain ⟨y,hy,wy⟩:=ih h3 hx
  simp only [Ty.sz] at hl
  obtain ⟨z,hz,wz⟩:=qb ih h4 (by omega) (fun g hg=>hf g (List.mem_cons_of_mem _ hg))
  refine ⟨(y,z),⟨_,_,?_,hy,hz⟩,wy,wz⟩
  rw [←List.drop_drop,List.take_append_drop]
theorem K8 {n : Nat} (ih : ∀ {t : TypeId} {ty : Ty}, fq P n t ty = true → ∀ {fuel : Nat} {cs : List Value} {x : DataW H × List MemPlace}, DataW.trod enc P w 0 sp held fuel t cs = some x → ∃ y : ty.den, af (jf w) ty y cs ∧ Wf ty y)
  {fuel:Nat} {cs:List Value} {e:TypeId}:∀{m i:Nat} {ty:Ty},Am P (fq P n) m e ty=true→cs.length=i * P.cellsOf e+ty.sz →
   (∀j,i≤j→j<i+m→∃x,DataW.trod enc P w 0 sp held fuel e ((cs.drop (j * P.cellsOf e)).take (P.cellsOf e))=some x)→∃y:ty.den,af (jf w) ty y (cs.drop (i * P.cellsOf e))∧Wf ty y
 |0,i,ty,h,hl,_=>by
  cases ty<;>simp [Am] at h
  exact ⟨(),by simp [af];simp [Ty.sz] at hl;omega,trivial⟩
 |1,i,ty,h,hl,hf=>by
  have h':(Nat.beq (P.cellsOf e) ty.sz&&fq P n e ty)=true:=by
   cases ty<;>simpa [Am] using h
  simp only [Bool.and_eq_true] at h'
  have e2:=Nat.eq_of_beq_eq_true h'.1
  obtain ⟨x,hx⟩:=hf i (Nat.le_refl _) (by omega)
  rw [List.take_of_length_le (by rw [List.length_drop];omega)] at hx
  exact ih h'.2 hx
 |m+2,i,ty,h,hl,hf=>by
  cases ty<;>simp only [Am,Bool.false_eq_true] at h
  rename_i a b
  simp only [Bool.and_eq_true] at h
  obtain ⟨⟨h1,h3⟩,h4⟩:=h
  have e2:=Nat.eq_of_beq_eq_true h1
  obtain ⟨x,hx⟩:=hf i (Nat.le_refl _) (by omega)
  obtain ⟨y,hy,wy⟩:=ih h3 hx
  simp only [Ty.sz] at hl
  obtain ⟨z,hz,wz⟩:=K8 ih h4 (i:=i+1) (by rw [Nat.add_mul];omega) (fun j h1 h2=>hf j (by omega) (by omega))
  refine ⟨(y,z),⟨_,_,?_,hy,hz⟩,wy,wz⟩
  rw [show (i+1) * P.cellsOf e=i * P.cellsOf e+P.cellsOf e by rw [Nat.add_mul];omega,←List.drop_drop,List.take_append_drop]
theorem QY {n:Nat}:∀{t:TypeId} {ty:Ty},fq P n t ty=true→∀{fuel:Nat} {cs:List Value} {x:DataW H×List MemPlace},DataW.trod enc P w 0 sp held fuel t cs=some x→∃y:ty.den,af (jf w) ty y cs∧Wf ty y:=by
 induction n with
 |zero=>intro t ty h;cases h
 |succ n ih =>
  intro t ty h fuel cs x hx
  have hx0:=hx
  unfold fq at h
  split at h
  ·rename_i hu
   cases ty<;>simp at h
   cases fuel with
   |zero=>simp [DataW.trod] at hx
   |succ fuel =>
    rcases cs with _|⟨c,_|⟨c2,r⟩⟩
    ·simp [DataW.trod,hu] at hx
    ·cases c <;> simp [DataW.trod, hu] at hx
     exact ⟨_,rfl,trivial⟩
    ·simp [DataW.trod,hu] at hx
  ·rename_i k hu
   cases ty<;>simp at h
   subst h
   cases fuel with
   |zero=>simp [DataW.trod] at hx
   |succ fuel =>
    rcases cs with _|⟨c,_|⟨c2,r⟩⟩
    ·simp [DataW.trod,hu] at hx
    ·cases c <;> simp [DataW.trod, hu] at hx
     obtain ⟨⟨rfl,h2⟩,_⟩:=hx
     exact ⟨_,rfl,VF h2⟩
    ·simp [DataW.trod,hu] at hx
  ·rename_i hu
   cases ty<;>simp at h
   cases fuel with
   |zero=>simp [DataW.trod] at hx
   |succ fuel =>
    rcases cs with _|⟨c,_|⟨c2,r⟩⟩
    ·simp [DataW.trod,hu] at hx
    ·cases c <;> simp [DataW.trod, hu] at hx
     exact ⟨_,rfl,hx.1⟩
    ·simp [DataW.trod,hu] at hx
  ·rename_i e hu
   cases ty<;>simp only [Bool.false_eq_true] at h
   rename_i te
   simp only [Bool.and_eq_true] at h
   obtain ⟨⟨h1,h2⟩,h3⟩:=h
   have e1:=Nat.eq_of_beq_eq_true h1
   have hpos:0<te.sz:=by simpa using h2
   rcases DataW.trod_slice hu hx with ⟨rfl,rfl⟩|⟨a,len,cap,elems,rest,m,_,rfl,rfl,_,hlc,hm,hel,hE,_,_⟩
   ·exact ⟨[],⟨none,0,by simp,by simp,.inl rfl⟩,by simp,by simp⟩
   ·have each:∀i,i<len→∃(y:te.den) (us:List Value),af (jf w) te y us∧Wf te y∧us.length=te.sz∧Reads (jf w) a.block (a.off+i * te.sz) us∧(i=0→a.spot=none):=fun i hi=>by
     have:=hE i hi
     have hlt:i<elems.length:=by omega
     rw [List.getElem?_eq_getElem hlt,e1] at this
     cases hc:w.cells? 0 (a.add (i * te.sz)) te.sz with
     |none=>rw [hc] at this;simp at this
     |some us =>
      rw [hc,Option.bind_some] at this
      obtain ⟨y,hy,wy⟩:=ih h3 this
      have hb:(a.add (i * te.sz)).block=a.block:=by unfold Addr.add;split<;>rfl
      have ho:(a.add (i * te.sz)).off=a.off+i * te.sz:=by unfold Addr.add;split<;>simp_all
      obtain ⟨q1,q2,q3⟩:=BG (.inr hpos) hb ho hc
      refine ⟨y,us,hy,wy,q1,q2,fun h0=>?_⟩
      subst h0
      have:=q3 hpos
      simpa [Addr.add] using this
    by_cases hl0:len=0
    ·subst hl0
     exact ⟨[],⟨some a,cap,rfl,by simp,.inl rfl⟩,by simp,by simp⟩
    ·obtain ⟨f,hf⟩:∃f:Nat→te.den×List Value,∀i,i<len→af (jf w) te (f i).1 (f i).2∧Wf te (f i).1∧(f i).2.length=te.sz∧Reads (jf w) a.block (a.off+i * te.sz) (f i).2∧(i=0→a.spot=none) :=
      ⟨fun i=>if h:i<len then ((each i h).choose,(each i h).choose_spec.choose) else (te.zero,[]),fun i hi=>by simp only [hi,dif_pos];exact (each i hi).choose_spec.choose_spec⟩
     have QX:=(hf 0 (by omega)).2.2.2.2 rfl
     have hrd:∀n,n≤len→((List.range n).flatMap fun i=>(f i).2).length=n * te.sz∧Reads (jf w) a.block a.off ((List.range n).flatMap fun i=>(f i).2):=fun n=>by
      induction n with
      |zero=>intro _;exact ⟨by simp,fun j v hv=>by simp at hv⟩
      |succ n ih2 =>
       intro hn
       obtain ⟨l1,l2⟩:=ih2 (by omega)
       obtain ⟨_,_,l3,l4,_⟩:=hf n (by omega)
       rw [List.range_succ,List.flatMap_append]
       simp only [List.flatMap_cons,List.flatMap_nil,List.append_nil]
       refine ⟨by rw [List.length_append,l1,l3,Nat.add_mul];simp,fun j v hv=>?_⟩
       rw [List.getElem?_append] at hv
       split at hv
       ·exact l2 j v hv
       ·rename_i hj
        have:=l4 _ _ hv
        rw [l1] at this hj
        rw [show a.off+n * te.sz+(j - n * te.sz)=a.off+j by omega] at this
        exact this
     refine ⟨(List.range len).map fun i=>(f i).1,⟨some a,cap,by simp,by simpa using hlc,.inr ⟨a.block,a.off,(List.range len).flatMap fun i=>(f i).2,by cases a;simp_all,(hrd len (Nat.le_refl _)).2,K7 _ _ _ fun i hi=>(hf i hi).1⟩⟩,by simp;omega,fun x hx=>?_⟩
     obtain ⟨i,hi,rfl⟩:=List.mem_map.1 hx
     exact (hf i (List.mem_range.1 hi)).2.1
  ·rename_i fs hu
   simp only [Bool.and_eq_true] at h
   obtain ⟨h1,h2⟩:=h
   obtain ⟨xs,m,_,_,hl,hxl,hf⟩:=DataW.trod_struct hu hx
   have hfm:∀f∈fs.toList,∃y,DataW.trod enc P w 0 sp held m f.type ((cs.drop f.offset).take (P.cellsOf f.type))=some y:=fun f hfm=>by
    obtain ⟨i,hi⟩:=List.getElem?_of_mem hfm
    have hi':fs[i]?=some f:=by simpa using hi
    have hlt:i<xs.length:=by rw [hxl];exact (Array.getElem?_eq_some_iff.1 hi').1
    exact ⟨xs[i],by rw [hf i f hi'];simp⟩
   have hlen:cs.length=ty.sz:=by rw [hl,Nat.eq_of_beq_eq_true h1]
   unfold Al at h2
   split at h2
   ·rename_i f hfs
    split at h2<;>try (cases h2;done)
    rename_i a
    have:=qb ih (fuel:=m) (cs:=cs) h2 (by simpa [Ty.sz] using hlen) (fun f' hf'=>by rw [←hfs] at hf';exact hfm f' hf')
    obtain ⟨y,hy,wy⟩:=this
    exact ⟨(y,()),⟨cs,[],by simp,by simpa using hy,rfl⟩,wy,trivial⟩
   ·have := qb ih (fuel := m) (cs := cs) h2 (by simpa using hlen) hfm
    simpa using this
  ·rename_i m e hu
   simp only [Bool.and_eq_true] at h
   obtain ⟨h1,h2⟩:=h
   obtain ⟨xs,k,_,_,hl,hxl,hf⟩:=DataW.trod_array hu hx
   have:=K8 ih (fuel:=k) (cs:=cs) (i:=0) h2 (by rw [hl,Nat.eq_of_beq_eq_true h1];simp) (fun j _ hj=>⟨xs[j]'(by omega),by rw [hf j (by omega)];simp⟩)
   simpa using this
  ·cases h
end
end Go.AM
end
section
namespace Go.AM
inductive EV (π : List Nat) : V → V → Prop
 |any (v):EV π .any v
 |tf (b):EV π (.tf b) (.tf b)
 |bool (b):EV π (.bool b) (.bool b)
 |tfb (b):EV π (.bool b) (.tf b)
 |int (k n):EV π (.int k n) (.int k n)
 |str (s):EV π (.str s) (.str s)
 |b7:EV π .b7 .b7
 |cz:EV π .cz .cz
 |eO:EV π .eO .eO
 |ez (t xs):EV π (.ez t xs) (.ez t xs)
 |acv (t):EV π (.ez t []) .bG
 |bG:EV π .bG .bG
 |sl (id i t lo n) (h:π[id]?=some i):EV π (.sl id t lo n) (.sl i t lo n)
 |acw (id t lo):EV π (.sl id t lo 0) .bG
 |ptr (id i o) (h:π[id]?=some i):EV π (.ptr id o) (.ptr i o)
 |ep (id i t j p) (h:π[id]?=some i):EV π (.ep id t j p) (.ep i t j p)
 |yl (id i) (h:π[id]?=some i):EV π (.yl id) (.yl i)
 |ip (t x):EV π (.ip t x) (.ip t x)
 |eS (cs ds) (h:cs.length=ds.length) (h2:∀(i:Nat) v u,cs[i]?=some v→ds[i]?=some u→EV π v u):EV π (.eS cs) (.eS ds)
 | fn (f as as' cs cs') (h : as.length = as'.length) (h2 : ∀ (i : Nat) v u, as[i]? = some v → as'[i]? = some u → EV π v u)
   (h3:cs.length=cs'.length) (h4:∀(i:Nat) v u,cs[i]?=some v→cs'[i]?=some u→EV π v u):EV π (.fn f as cs) (.fn f as' cs')
 |agg (cs ds) (h:cs.length=ds.length) (h2:∀(i:Nat) v u,cs[i]?=some v→ds[i]?=some u→EV π v u):EV π (.agg cs) (.agg ds)
 |bX (cs ds) (h:cs.length=ds.length) (h2:∀(i:Nat) v u,cs[i]?=some v→ds[i]?=some u→EV π v u):EV π (.bX cs) (.bX ds)
 |bZ (t v u) (h:EV π v u):EV π (.bZ t v) (.bZ t u)
 |cb (c):EV π (.cb c) (.cb c)
 |mp (id i) (h:π[id]?=some i):EV π (.mp id) (.mp i)
 |aO:EV π .aO .aO
 |pa (id i t n) (h:π[id]?=some i):EV π (.pa id t n) (.pa i t n)
 |kC (t xs):EV π (.kC t xs) (.kC t xs)
def Dq (π:List Nat) (cs ds:List V):Prop:=cs.length=ds.length∧∀(i:Nat) v u,cs[i]?=some v→ds[i]?=some u→EV π v u
theorem Dq.nil {π:List Nat}:Dq π [] []:=⟨rfl,fun i v u h=>by simp at h⟩
theorem Dq.cons {π:List Nat} {v u:V} {cs ds:List V} (h:EV π v u) (hl:Dq π cs ds):Dq π (v::cs) (u::ds) :=
 ⟨by simp [hl.1],fun i w y hw hy=>by
  cases i with
  |zero=>simp at hw hy;subst hw;subst hy;exact h
  |succ i=>exact hl.2 i w y (by simpa using hw) (by simpa using hy)⟩
def EE (π:List Nat) (env' env:List (Nat×V)):Prop:=∀p∈env',EV π p.2 (get p.1 env)
def EBk (π:List Nat) (nx:Nat) (bl:aq) (id:Nat) (B:kA):Prop:=∃i,π[id]?=some i∧match B with
 | .cells cs fz=>∃ds,av i bl=some (.cells ds fz)∧Dq π cs ds
 | .arr t xs fz=>av i bl=some (.arr t xs fz)∨(xs=[]∧nx≤i)
 | .loop st j d env ps as bd N=>∃d0 jo,av i bl=some (.loop st j d0 jo ps as bd N)∧π[d]?=some d0∧EE π env jo
 | .ff=>av i bl=some .ff
 | .map kt kg vt vg es=>av i bl=some (.map kt kg vt vg es)
 | .l6 t xs k p v=>∃u,av i bl=some (.l6 t xs k p u)∧EV π v u
structure iS (base:Nat) (π:List Nat) (S S':St):Prop where
 pre:π.take base=List.range base
 nx:S'.H.next=π.length
 ms:S'.ms.map (fun i=>π[i]?)=S.ms.map some
 env:EE π S'.env S.env
 bl:∀p∈S'.H.bl,EBk π S.H.next S.H.bl p.1 p.2
 inj:∀p∈S'.H.bl,∀q∈S'.H.bl,π[p.1]?=π[q.1]?→p.1=q.1
section
variable {P:Program} {N:Nat} {Y:Ctx} {ι ι':au} {μ μ':Mu} {H:aH} {w w':World} {out:Option Nat} {base:Nat} {π:List Nat}
theorem aI.eH {cs ds:List V} {xs:List Value} (h:cs.length=ds.length) (ih:∀(i:Nat) v u,cs[i]?=some v→ds[i]?=some u→∀{x:Value},Rel ι μ u x→Rel ι (μ.eH π) v x) (hr:aI ι μ ds xs):aI ι (μ.eH π) cs xs :=
 ⟨h.trans hr.1,fun i v x hv hx=>by
  have hi:i<ds.length:=by have:=(List.getElem?_eq_some_iff.1 hv).1;omega
  exact ih i v ds[i] hv (by simp [hi]) (hr.2 i ds[i] x (by simp [hi]) hx)⟩
theorem EV.rel {v' v:V} (h:EV π v' v):∀{x:Value},Rel ι μ v x→Rel ι (μ.eH π) v' x:=by
 induction h with
 |any v=>intro x _;exact .any _
 |tf b=>intro x hr;cases hr;exact .tf _
 |bool b=>intro x hr;cases hr;exact .bool _
 |tfb b=>intro x hr;cases hr;exact .bool _
 |int k n=>intro x hr;cases hr;exact .int _ _
 |str s=>intro x hr;cases hr;exact .str _
 |b7=>intro x hr;cases hr;exact .b7
 |cz=>intro x hr;cases hr;exact .cz
 |eO=>intro x hr;cases hr;exact .eO
 |ez t xs=>intro x hr;cases hr with|ez _ _ _ hd=>exact .ez t xs _ hd
 |acv t=>intro x hr;cases hr;exact .ez _ _ _ ⟨_,0,rfl,Nat.le_refl _,.inl rfl⟩
 |bG=>intro x hr;cases hr;exact .bG _
 |sl id i t lo n hi =>
  intro x hr
  cases hr with
  |sl _ _ _ _ cap L hL h1 h2 h3=>exact .sl id t lo n cap L (by simp [Mu.eH,hi,hL]) h1 h2 h3
  |cB=>exact .cB _ _ _ _
 |acw id t lo=>intro x hr;cases hr;exact .cB _ _ _ _
 |ptr id i o hi=>intro x hr;cases hr with|ptr _ _ L hL=>exact .ptr id o L (by simp [Mu.eH,hi,hL])
 |ep id i t j p hi=>intro x hr;cases hr with|ep _ _ _ _ L hL=>exact .ep id t j p L (by simp [Mu.eH,hi,hL])
 |yl id i hi=>intro x hr;cases hr with|yl _ L hL=>exact .yl id L (by simp [Mu.eH,hi,hL])
 |ip t y=>intro x hr;cases hr with|ip _ _ b o us h1 h2=>exact .ip t y b o us h1 h2
 |eS cs ds h h2 ih =>
  intro x hr
  cases hr with
  |eS _ b o gf h1 h3 h4 =>
   have hR:aI ι μ ds ((List.range ds.length).map gf):=⟨by simp,fun i v x hv hx=>by
    have hi:=(List.getElem?_eq_some_iff.1 hv).1
    simp [hi] at hx;subst hx;exact h3 i v hv⟩
   have gv:=aI.eH h ih hR
   exact .eS cs b o gf (fun i hi => h1 i (by omega)) (fun i v hv => gv.2 i v (gf i) hv (by
    have hi:=(List.getElem?_eq_some_iff.1 hv).1
    simp [show i<ds.length by omega])) h4
 |fn f as as' cs cs' h h2 h3 h4 ih1 ih2 =>
  intro x hr
  cases hr with
  |fn _ _ _ xs ys q1 q2 q3 q4 =>
   have r1:=aI.eH h ih1 (xs:=xs.toList) ⟨by simpa using q1,fun i v x hv hx=>q2 i v x hv (by simpa using hx)⟩
   have r2:=aI.eH h3 ih2 (xs:=ys.toList) ⟨by simpa using q3,fun i v x hv hx=>q4 i v x hv (by simpa using hx)⟩
   exact .fn f as cs xs ys (by simpa using r1.1) (fun i v x hv hx=>r1.2 i v x hv (by simpa using hx)) (by simpa using r2.1) (fun i v x hv hx=>r2.2 i v x hv (by simpa using hx))
 |agg cs ds h h2 ih =>
  intro x hr
  cases hr with
  |agg _ xs q1 q2 q3 =>
   have r1:=aI.eH h ih (xs:=xs.toList) ⟨by simpa using q1,fun i v x hv hx=>q2 i v x hv (by simpa using hx)⟩
   exact .agg cs xs (by simpa using r1.1) (fun i v x hv hx=>r1.2 i v x hv (by simpa using hx)) q3
 |bX cs ds h h2 ih =>
  intro x hr
  cases hr with
  |bX _ xs q1 q2 =>
   have r1:=aI.eH h ih (xs:=xs.toList) ⟨by simpa using q1,fun i v x hv hx=>q2 i v x hv (by simpa using hx)⟩
   exact .bX cs xs (by simpa using r1.1) (fun i v x hv hx=>r1.2 i v x hv (by simpa using hx))
 |bZ t v u h ih=>intro x hr;cases hr with|bZ _ _ x hx=>exact .bZ t v x (ih hx)
 |cb c=>intro x hr;cases hr with|cb _ b hc=>exact .cb c b hc
 |mp id i hi=>intro x hr;cases hr with|mp _ L hL=>exact .mp id L (by simp [Mu.eH,hi,hL])
 |aO=>intro x hr;cases hr;exact .aO
 |pa id i t n hi=>intro x hr;cases hr with|pa _ _ _ L hL hm=>exact .pa id t n L (by simp [Mu.eH,hi,hL]) hm
 |kC t xs=>intro x hr;cases hr with|kC _ _ b o us h1 h2=>exact .kC t xs b o us h1 h2
theorem EE.rel {tmps : Array Value} {env : List (Nat × V)} (he : dV ι μ env tmps) : ∀ {env' : List (Nat × V)}, EE π env' env → dV ι (μ.eH π) env' tmps
 |[],_=>fun t=>.any _
 |(t,v)::r,h=>fun i=>by
  rw [bS];split
  ·rename_i e;subst e;exact (h _ (List.mem_cons_self ..)).rel (he _)
  ·exact EE.rel he (fun p hp=>h p (List.mem_cons_of_mem _ hp)) i
theorem c8 : ∀ {bl : aq} {id : Nat} {b : kA}, av id bl = some b → (id, b) ∈ bl
 |[],id,b,h=>by simp [av] at h
 |(s,c)::r,id,b,h=>by
  rw [aW] at h
  split at h
  ·rename_i e;subst e;cases h;exact List.mem_cons_self ..
  ·exact List.mem_cons_of_mem _ (c8 h)
theorem iS.rep {S S':St} (h:iS base π S S') (hbase:Y.base base) {a:Act} (hR:ek P N Y ι μ S a w):ek P N Y ι (μ.eH π) S' a w:=by
 have hI:=hR.inv
 have hle:Y.m0.le (μ.eH π):=fun id L hL=>by
  have hlt:id<base:=by
   rcases Nat.lt_or_ge id base with h|h
   ·exact h
   ·rw [hbase id h] at hL;cases hL
  have:π[id]?=some id:=by
   have e1:(π.take base)[id]?=(List.range base)[id]?:=by rw [h.pre]
   rw [List.getElem?_take,if_pos hlt,List.getElem?_range hlt] at e1
   exact e1
  simp [Mu.eH,this,hI.m0 id L hL]
 refine ⟨h.env.rel hR.env,hR.sz,⟨hI.below,hI.i0,hI.iB,hI.rd,hle,fun id hid=>?_,fun id B hB=>?_,?_,fun id B hB=>?_,hI.gl⟩,?_⟩
 ·have : π[id]? = none := List.getElem?_eq_none (by rw [← h.nx]; exact hid)
  simp [Mu.eH,this]
 ·obtain ⟨i, e1, hb⟩ := h.bl _ (c8 hB)
  have fh:(μ.eH π) id=μ i:=by simp only [Mu.eH];rw [e1];rfl
  cases B with
  |cells cs fz =>
   obtain ⟨ds,e2,aj⟩:=hb
   obtain ⟨L,vs,hM,K0⟩:=hI.live i _ e2
   exact ⟨L,vs,⟨by rw [fh];exact hM.mu,hM.old,hM.row,hM.fits,hM.one,hM.DB,hM.pG⟩,aI.eH aj.1 (fun i v u hv hu=>fun {x} hr=>(aj.2 i v u hv hu).rel hr) K0⟩
  |arr t xs fz =>
   rcases hb with e2|⟨rfl,hge⟩
   ·rcases hI.live i _ e2 with ⟨e, hn⟩ | ⟨L, vs, hM, hc, hl⟩
    ·exact .inl ⟨e,by rw [fh];exact hn⟩
    ·exact .inr ⟨L,vs,⟨by rw [fh];exact hM.mu,hM.old,hM.row,hM.fits,hM.one,hM.DB,hM.pG⟩,hc,hl⟩
   ·exact .inl ⟨rfl,by rw [fh];exact hI.nx i hge⟩
  |loop st j d env ps as bd N =>
   obtain ⟨d0,jo,e2,e3,hee⟩:=hb
   obtain ⟨L,r,Ld,q1,q2,q3,q4,q5,q6,q7,q8,q9,q10,q11,q12,q13⟩:=hI.live i _ e2
   exact ⟨L,r,Ld,by rw [fh];exact q1,q2,q3,q4,q5,hee.rel q6,q7,q8,q9,q10,q11,by simp only [Mu.eH];rw [e3];exact q12,q13⟩
  |ff =>
   obtain ⟨L,q1,q2,q3⟩:=hI.live i _ hb
   exact ⟨L,by rw [fh];exact q1,q2,q3⟩
  |map kt kg vt vg es =>
   obtain ⟨L,ms,clock,dh,q1,q2,q3⟩:=hI.live i _ hb
   exact ⟨L,ms,clock,dh,by rw [fh];exact q1,q2,q3⟩
  |l6 t xs k p v =>
   obtain ⟨u,e2,aj⟩:=hb
   obtain ⟨L,us,vs,c,hM,hc,hl,q1,q2,q3,q4⟩:=hI.live i _ e2
   exact ⟨L,us,vs,c,⟨by rw [fh];exact hM.mu,hM.old,hM.row,hM.fits,hM.one,hM.DB,hM.pG⟩,hc,hl,q1,q2,q3,aj.rel q4⟩
 ·intro id id' B B' L L' hb hb' hm hm' e
  obtain ⟨i,e1,hbk⟩:=h.bl _ (c8 hb)
  obtain ⟨i',Hz,hbk'⟩:=h.bl _ (c8 hb')
  simp only at e1 Hz
  have fh:(μ.eH π) id=μ i:=by simp only [Mu.eH];rw [e1];rfl
  have acd:(μ.eH π) id'=μ i':=by simp only [Mu.eH];rw [Hz];rfl
  rw [fh] at hm;rw [acd] at hm'
  have live:∀{i:Nat} {B:kA} {id:Nat} {L:Loc},EBk π S.H.next S.H.bl id B→π[id]?=some i→μ i=some L→∃C,av i S.H.bl=some C:=by
   intro i B id L hbk e hm
   obtain ⟨i2,e2,eB⟩:=hbk
   rw [e] at e2;cases e2
   cases B with
   |cells cs fz=>obtain ⟨ds,e2,_⟩:=eB;exact ⟨_,e2⟩
   |arr t xs fz =>
    rcases eB with e2|⟨_,hge⟩
    ·exact ⟨_,e2⟩
    ·rw [hI.nx i hge] at hm;cases hm
   |loop st j d env ps as bd N=>obtain ⟨d0,jo,e2,_⟩:=eB;exact ⟨_,e2⟩
   |ff=>exact ⟨_,eB⟩
   |map kt kg vt vg es=>exact ⟨_,eB⟩
   |l6 t xs k p v=>obtain ⟨u,e2,_⟩:=eB;exact ⟨_,e2⟩
  obtain ⟨C,hC⟩:=live (h.bl _ (c8 hb)) e1 hm
  obtain ⟨C',U9⟩:=live (h.bl _ (c8 hb')) Hz hm'
  have:=hI.inj i i' C C' L L' hC U9 hm hm' e
  subst this
  exact h.inj _ (c8 hb) _ (c8 hb') (e1.trans Hz.symm)
 ·obtain ⟨i, e1, _⟩ := h.bl _ (c8 hB)
  have:=(List.getElem?_eq_some_iff.1 e1).1
  rw [h.nx];exact this
 ·have key:∀{ms ms':List Nat} {ds:List Deferred},ms'.map (fun i=>π[i]?)=ms.map some→iR Y.hid μ ms ds→iR Y.hid (μ.eH π) ms' ds:=by
   intro ms
   induction ms with
   |nil=>intro ms' ds e hm;cases ms'<;>simp at e;exact hm
   |cons i ms ih =>
    intro ms' ds e hm
    cases ms' with
    |nil=>simp at e
    |cons i' ms' =>
     simp only [List.map_cons,List.cons.injEq] at e
     obtain ⟨L,d,ds',q1,q2,q3,q4⟩:=hm
     exact ⟨L,d,ds',q1,by simp [Mu.eH,e.1,q2],q3,ih e.2 q4⟩
  exact key h.ms hR.ms
def jg {α β : Type} (step : α → Option (α ⊕ β)) : Nat → α → Option β
 |0,_=>none
 |n+1,x=>match step x with
  |none=>none
  |some (.inl y)=>jg step n y
  |some (.inr b)=>some b
noncomputable def iter {α β:Type} (step:α→Option (α ⊕ β)) (x:α):Option β:=by
 classical exact if h:∃n b,jg step n x=some b then some h.choose_spec.choose else none
theorem An {α β : Type} {step : α → Option (α ⊕ β)} : ∀ {n m : Nat} {x : α} {b c : β}, jg step n x = some b → jg step m x = some c → b = c
 |0,_,_,_,_,h,_=>by cases h
 |_+1,0,_,_,_,_,h=>by cases h
 |n+1,m+1,x,b,c,h,h'=>by
  simp only [jg] at h h'
  split at h
  ·cases h
  ·rename_i y e;rw [e] at h';exact An h h'
  ·rename_i b' e;rw [e] at h';cases h;cases h';rfl
theorem BH {α β:Type} {step:α→Option (α ⊕ β)} {n:Nat} {x:α} {b:β} (h:jg step n x=some b):iter step x=some b:=by
 unfold iter
 have h':∃n b,jg step n x=some b:=⟨n,b,h⟩
 rw [dif_pos h']
 exact congrArg some (An h'.choose_spec.choose_spec h)
theorem ta {α β:Type} {step:α→Option (α ⊕ β)} {x:α} {b:β} (h:iter step x=some b):∃n,jg step n x=some b:=by
 unfold iter at h
 split at h
 ·rename_i h';cases h;exact ⟨_,h'.choose_spec.choose_spec⟩
 ·cases h
theorem nQ {α β:Type} {step:α→Option (α ⊕ β)} {x y:α} {b:β} (h:step x=some (.inl y)) (h':iter step y=some b):iter step x=some b:=by
 obtain ⟨n,hn⟩:=ta h'
 exact BH (n:=n+1) (by simp [jg,h,hn])
theorem jR {α β:Type} {step:α→Option (α ⊕ β)} {x:α} {b:β} (h:step x=some (.inr b)):iter step x=some b :=
 BH (n:=1) (by simp [jg,h])
theorem Nu (gD : mw P N out base) {α β : Type} {I : α → St} {X : β → Ex × St} {step : α → Option (α ⊕ β)} {c : C}
  (hstep:∀x r,step x=some r→qO (fF P N out base) c (I x) fun e S'=>match r with
   | .inl y=>e = .normal∧∃π,iS base π S' (I y)
   | .inr b=>e ≠ .normal∧e=(X b).1∧∃π,iS base π S' (X b).2)
  {x:α} {b:β} (hx:iter step x=some b) {S:St} {π:List Nat} (hS:iS base π S (I x)) {K:Ex→St→Prop} (hK:K (X b).1 (X b).2):(fF P N out base).loop c S K:=by
 obtain ⟨n,hn⟩:=ta hx
 intro body hbody Y ι μ a w ho hb hR
 refine wpIn_loop_ghost (fun (n:Nat) a w=>∃Y1,Ext P Y Y1∧∃x ι μ,ek P N Y1 ι μ (I x) a w∧jg step n x=some b) id (x:=n) ⟨Y,.refl Y,x,ι,_,hS.rep hb hR,hn⟩ ?_
 rintro n a w ⟨Y0,UP,x,ι,μ,hR,hx⟩
 cases n with
 |zero=>cases hx
 |succ n =>
  simp only [jg] at hx
  split at hx
  ·cases hx
  ·rename_i y e
   refine wpIn_mono (H8 (gh gD body hbody (hstep x _ e)) UP ho hb hR) fun e a' w' hp=>?_
   obtain ⟨Y1,hY,ι',μ',S',e',h1,h2,rfl,π',h3⟩:=hp
   cases h2
   exact ⟨n,⟨Y1,hY,y,ι',_,h3.rep (hY.tS hb) h1,hx⟩,Nat.lt_succ_self n⟩
  ·rename_i b' e
   cases hx
   refine wpIn_mono (H8 (gh gD body hbody (hstep x _ e)) UP ho hb hR) fun e a' w' hp=>?_
   obtain ⟨Y1,hY,ι',μ',S',e',h1,h2,hne,h3,π',h4⟩:=hp
   have hp:Post P N Y K e a' w':=⟨Y1,hY,ι',_,_,_,h4.rep (hY.tS hb) h1,by rw [←h3];exact h2,hK⟩
   cases e' with
   |normal=>exact absurd rfl hne
   |exit id=>cases h2;exact hp
   |ret=>cases h2;exact hp
end
abbrev Env:=List (Nat×V)
section
variable {P:Program} {N:Nat} {Y:Ctx} {ι ι':au} {μ μ':Mu} {H H':aH} {w w':World} {out:Option Nat} {base:Nat}
theorem Inv.junk (h:Inv P Y ι μ H w) (o:Obj):Inv P Y ι μ H (w.alloc o):=by
 have heap:∀k,k<w.heap.size→(w.alloc o).heap[k]?=w.heap[k]?:=fun k hk=>by
  show (w.heap.push o)[k]?=_
  rw [Array.getElem?_push];split
  ·omega
  ·rfl
 refine ⟨⟨h.below.os,h.below.tape,h.below.output,by have:=h.below.size;simp;omega,fun k hk hx=>?_,h.below.dr,fun k hk=>(h.below.maps k hk).trans (.eq (heap k (Nat.lt_of_lt_of_le hk h.below.size)))⟩,h.i0,h.iB,fun b o x hx=>?_,h.m0,h.nx,fun id B hB=>?_,h.inj,h.lt,h.gl⟩
 ·have := h.below.size
  rw [heap k (by omega)];exact h.below.block k hk hx
 ·have := h.rd b o x hx
  rw [World.cell?_alloc_lt _ _ _ (World.block_lt_of_cell? _ _ this)];exact this
 ·exact (h.live id B hB).mono (au.le_refl _) (Mu.le_refl _) (fun h=>h) (fun L' hL'=>heap _ ((h.live id B hB).loc hL').2) (fun _ _ h=>h)
theorem dz.aal {B:Nat→Prop} {id:Nat} {b:kA} (h:dz P B ι μ id w b) {L:Loc} (hL:μ id=some L) {r:Nat} {m:Option Nat} {s c:Nat} {seen:Array Nat} (hr:w.heap[r]?=some (.mapIter m s seen c)):L.b≠r:=by
 intro e
 subst e
 cases b with
 |cells cs fz =>
  obtain ⟨L',vs,hM,_⟩:=h
  have:=hM.mu;rw [hL] at this;cases this
  obtain ⟨c,e,h1,_⟩:=hM.row
  rw [hr] at h1;cases h1
 |arr t xs fz =>
  rcases h with ⟨_,h⟩|⟨L',vs,hM,_⟩
  ·rw [h] at hL;cases hL
  ·have := hM.mu; rw [hL] at this; cases this
   obtain ⟨c,e,h1,_⟩:=hM.row
   rw [hr] at h1;cases h1
 |loop st j d env ps as bd N =>
  obtain ⟨L',r,Ld,h1,h2,h3,_⟩:=h
  rw [hL] at h1;cases h1
  rw [hr] at h3;cases h3
 |ff =>
  obtain ⟨L',h1,h2,h3⟩:=h
  rw [hL] at h1;cases h1
  rw [hr] at h3;cases h3
 |map kt kg vt vg es =>
  obtain ⟨L',ms,clock,dh,h1,h2,h3,_⟩:=h
  rw [hL] at h1;cases h1
  rw [hr] at h3;cases h3
 |l6 t xs i p v =>
  obtain ⟨L',us,vs,c,hM,_⟩:=h
  have:=hM.mu;rw [hL] at this;cases this
  obtain ⟨c,e,h1,_⟩:=hM.row
  rw [hr] at h1;cases h1
theorem Inv.side (h:Inv P Y ι μ H w) {r:Nat} {m:Option Nat} {s c:Nat} {seen:Array Nat} (hr:w.heap[r]?=some (.mapIter m s seen c)) (hown:Y.own r) (o:Obj):Inv P Y ι μ H (w.putObj r o):=by
 have bP:∀k,k≠r→(w.putObj r o).heap[k]?=w.heap[k]?:=fun k hk=>World.putObj_heap_other hk
 refine ⟨⟨h.below.os,h.below.tape,h.below.output,by rw [World.putObj_size];exact h.below.size,fun k hk hx=>?_,h.below.dr,fun k hk=>(h.below.maps k hk).trans ?_⟩,h.i0,h.iB,fun b o2 x hx=>?_,h.m0,h.nx,fun i B hB=>?_,h.inj,h.lt,h.gl⟩
 ·rw [bP k (Ctx.lg hown hk hx)];exact h.below.block k hk hx
 ·by_cases e : k = r
  ·subst e;rw [hr];exact .no fun _ _ e=>by cases e
  ·exact .eq (bP k e)
 ·have := h.rd b o2 x hx
  have hne:b≠r:=fun e=>by subst e;simp [World.cell?,hr] at this
  unfold World.cell? at this ⊢
  simp only at this ⊢
  rw [bP b hne];exact this
 ·exact (h.live i B hB).mono (au.le_refl _) (Mu.le_refl _) (fun h=>h) (fun L' hL'=>bP _ ((h.live i B hB).aal hL' hr)) (fun _ _ h=>h)
def Ctx.side (Y:Ctx) (w:World) (ι:au) (μ:Mu) (r:Nat):Ctx:=⟨w,ι,μ,Y.ro,fun b=>Y.own b∧b≠r,Y.hid⟩
theorem Inv.into (h:Inv P Y ι μ H w) {r:Nat} {m:Option Nat} {s c:Nat} {seen:Array Nat} (hr:w.heap[r]?=some (.mapIter m s seen c)):Inv P (Y.side w ι μ r) ι μ H w :=
 ⟨KM.refl _ _,au.le_refl _,fun _ _ _ _=>rfl,h.rd,Mu.le_refl _,h.nx,fun id B hB=>(h.live id B hB).owns fun L hL ho=>.inr ⟨ho,(h.live id B hB).aal hL hr⟩,h.inj,h.lt,h.de⟩
theorem Inv.af9 (h:Inv P Y ι μ H w) {r:Nat} (h2:Inv P (Y.side w ι μ r) ι' μ' H' w'):Inv P Y ι' μ' H' w':=by
 have hs:=h.below.size
 have hx2:∀k,k<Y.w0.heap.size→¬Y.x k→¬(Y.side w ι μ r).x k:=fun k hk hx hX=>by
  rcases hX.1 with h|h
  ·omega
  ·exact hx h
 have b2:=h2.below
 refine ⟨⟨b2.os.trans h.below.os,b2.tape.trans h.below.tape,b2.output.trans h.below.output,Nat.le_trans hs b2.size,fun k hk hx=>?_,Nat.le_trans h.below.dr b2.dr,fun k hk=>(h.below.maps k hk).trans (b2.maps k (Nat.lt_of_lt_of_le hk hs))⟩,
  au.le_trans h.i0 h2.i0,fun b o hb hx=>?_,h2.rd,Mu.le_trans h.m0 h2.m0,h2.nx,fun id B hB=>(h2.live id B hB).owns fun L _ ho=>?_,h2.inj,h2.lt,h.gl⟩
 ·exact (b2.block k (Nat.lt_of_lt_of_le hk hs) (hx2 k hk hx)).trans (h.below.block k hk hx)
 ·exact (h2.iB b o (Nat.lt_of_lt_of_le hb hs) (hx2 b hb hx)).trans (h.iB b o hb hx)
 ·rcases ho with ho | ho
  ·exact .inl (Nat.le_trans hs ho)
  ·exact ho.1
end
def zm {E α β : Type} (step : E → α → Option (α ⊕ β)) : List E → α → Option (α ⊕ β)
 |[],x=>some (.inl x)
 |e::r,x=>match step e x with
  |none=>none
  |some (.inl y)=>zm step r y
  |some (.inr b)=>some (.inr b)
def Ao {E α : Type} (step : E → α → Option α) : List E → α → Option α
 |[],x=>some x
 |e::r,x=>match step e x with
  |none=>none
  |some y=>Ao step r y
noncomputable def gQ {E B:Type} (f:List E→Option B) (es:List E):Option B:=by
 classical exact if h:∃b,∀l:List E,l.Perm es→f l=some b then some h.choose else none
theorem nR {E B:Type} {f:List E→Option B} {es:List E} {b:B} (h:gQ f es=some b):∀l:List E,l.Perm es→f l=some b:=by
 unfold gQ at h
 split at h
 ·rename_i h';cases h;exact h'.choose_spec
 ·cases h
theorem gj {E B:Type} {f:List E→Option B} {es:List E} {b:B} (h:∀l:List E,l.Perm es→f l=some b):gQ f es=some b:=by
 have h':∃b,∀l:List E,l.Perm es→f l=some b:=⟨b,h⟩
 unfold gQ
 rw [dif_pos h']
 have h1:=h'.choose_spec es (.refl _)
 rw [h es (.refl _)] at h1
 exact h1.symm▸rfl
noncomputable def eu {α:Type} (a b:α):Bool:=@decide (a=b) (Classical.propDecidable _)
theorem Eb {α:Type} {a b:α} (h:eu a b=true):a=b:=by simpa [eu] using h
@[simp] theorem dn {α:Type} (a:α):eu a a=true:=by simp [eu]
def dQ : List Nat → Env → Env
 |[],env=>env
 |t::r,env=>(t,.any)::dQ r env
def VG (e:Option Nat) (kt:Ty) (kg:Bool) (vt:Ty) (vg:Bool) (x:kt.den×vt.den) (env:Env):Env:=match e with
 |none=>env
 |some s=>(s,.bX [cm.iu kg (cm kt x.1),cm.iu vg (cm vt x.2)])::env
section
variable {P:Program} {N:Nat} {Y:Ctx} {ι ι':au} {μ μ':Mu} {H H':aH} {w w':World} {out:Option Nat} {base:Nat}
theorem qc : ∀ {cl : List Nat} {env : Env} {t : Nat}, get t (dQ cl env) = .any ∨ get t (dQ cl env) = get t env
 |[],env,t=>.inr rfl
 |s::r,env,t=>by
  rw [dQ,bS]
  split
  ·exact .inl rfl
  ·exact qc
theorem dV.forget {env:Env} {tmps:Array Value} (h:dV ι μ env tmps) (cl:List Nat):dV ι μ (dQ cl env) tmps:=fun t=>by
 rcases qc (cl:=cl) (env:=env) (t:=t) with e|e<;>rw [e]
 ·exact .any _
 ·exact h t
theorem dV.over {env:Env} {a:Act} (h:dV ι μ env a.tmps) {d:Nat} (hd:get d env = .any) (v:Value):dV ι μ env (a.put (some d) v).tmps:=fun t=>by
 by_cases e:d=t
 ·subst e;rw [hd];exact .any _
 ·have:(a.tmps.setIfInBounds d v).getD t undef=a.tmps.getD t undef:=by
   simp only [Array.getD_eq_getD_getElem?]
   rw [Array.getElem?_setIfInBounds_ne e]
  simp only [Act.put]
  rw [this];exact h t
theorem ek.over {S:St} {a:Act} (h:ek P N Y ι μ S a w) {d:Nat} (hd:get d S.env = .any) (v:Value):ek P N Y ι μ S (a.put (some d) v) w :=
 ⟨h.env.over hd v,by simp [Act.put,h.sz],h.inv,h.ms⟩
theorem BI {a:Act} {d:Nat} {v:Value} (hd:d<a.tmps.size):(a.put (some d) v).tmps.getD d undef=v:=by simp [Act.put,Array.getD,hd]
theorem QZ {a:Act} {d t:Nat} {v:Value} (h:d≠t):(a.put (some d) v).tmps.getD t undef=a.tmps.getD t undef:=by
 simp only [Act.put,Array.getD_eq_getD_getElem?]
 rw [Array.getElem?_setIfInBounds_ne h]
theorem Inv.name (h:Inv P Y ι μ H w) (L:Loc):Inv P Y ι (μ.set H.next L) ⟨H.next+1,H.bl⟩ w:=by
 have hn:=h.nx H.next (Nat.le_refl _)
 have hle:=Mu.eY (L:=L) hn
 have hne:∀id B,av id H.bl=some B→id≠H.next:=fun id B hB=>Nat.ne_of_lt (h.lt id B hB)
 refine ⟨h.below,h.i0,h.iB,h.rd,Mu.le_trans h.m0 hle,fun id hid=>?_,fun id B hB=>?_,fun id id' B B' L1 L2 h1 h2 fL hm2 e=>?_,fun id B hB=>Nat.lt_succ_of_lt (h.lt id B hB),h.gl⟩
 ·simp only at hid
  unfold Mu.set;rw [if_neg (by omega)];exact h.nx id (by omega)
 ·exact (h.live id B hB).mono (au.le_refl _) hle (fun hm=>by unfold Mu.set;rw [if_neg (hne id B hB)];exact hm) (fun _ _=>rfl) (fun _ _ h=>h)
 ·unfold Mu.set at fL hm2
  rw [if_neg (hne id B h1)] at fL
  rw [if_neg (hne id' B' h2)] at hm2
  exact h.inj id id' B B' L1 L2 h1 h2 fL hm2 e
theorem gm {o:Oper} (h:o.guard=none) (f:Nat→Option Bool):Region.wanted o f=true:=by
 unfold Region.wanted;rw [h]
theorem Io {a b:Code} {hd:aaa} (h:vO P N a b=some hd):∃(ia:Nat) (zn:Array Oper) (o:Oper) (rr:List Oper) (t:TypeId) (x:Operand) (b3 i2:Nat) (tc:Array Oper) (o1 o2:Oper) (n ok:Nat) (y:Code),
  a = .region ia zn false∧zn.toList=rr++[o]∧o.op = .range t x∧o.dst=some hd.it∧o.guard=none∧hd.it<N∧jG P t=some (hd.kt,hd.kg,hd.vt,hd.vg)∧dg x=some hd.m∧dK P N zn rr=some hd.pre ∧
  b = .block hd.pz (.loop (.seq (.region i2 tc false) (.seq (.cond (.tmp ok) .skip (.exit hd.pz)) (.block b3 y))))∧tc.toList=[o1,o2]∧o1.op = .next (.tmp hd.it) false∧o1.dst=some n∧o1.guard=none ∧
  o2.op = .extract (.tmp n) 0∧o2.dst=some ok∧o2.guard=none∧n<N∧ok<N∧n≠hd.it∧ok≠hd.it∧hd.cl=[n,ok]∧hd.e=sF N hd.it y:=by
 unfold vO at h
 split at h<;>try (cases h;done)
 rename_i b1 x2 t b2 b3 y
 split at h<;>try (cases h;done)
 rename_i is m it kt vt vg h1
 split at h<;>try (cases h;done)
 rename_i n ok h2
 split at h<;>try (cases h;done)
 rename_i hc
 obtain ⟨e1,e2⟩:=hc
 subst e1;subst e2
 cases h
 unfold Qc at h1
 split at h1<;>try (cases h1;done)
 rename_i ia zn
 split at h1<;>try (cases h1;done)
 rename_i o rr hrev
 split at h1<;>try (cases h1;done)
 rename_i t x hop
 split at h1<;>try (cases h1;done)
 rename_i it' VH
 split at h1<;>try (cases h1;done)
 rename_i hg
 split at h1<;>try (cases h1;done)
 rename_i PM PN U2 m' is' DN hx mz
 cases h1
 unfold Qd at h2
 split at h2<;>try (cases h2;done)
 rename_i i2 tc
 split at h2<;>try (cases h2;done)
 rename_i o1 o2 hl
 split at h2<;>try (cases h2;done)
 rename_i i Ip
 split at h2<;>try (cases h2;done)
 rename_i n' Q2
 split at h2<;>try (cases h2;done)
 rename_i n2 Nv
 split at h2<;>try (cases h2;done)
 rename_i ok' hd2
 split at h2<;>try (cases h2;done)
 rename_i hc2
 obtain ⟨g1,g2,e1,e2,l1,l2,l3,l4⟩:=hc2
 subst e1;subst e2
 cases h2
 have Hy:zn.toList=rr.reverse++[o]:=by
  have:=congrArg List.reverse hrev
  simpa using this
 exact ⟨ia,zn,o,rr.reverse,t,x,b3,i2,tc,o1,o2,_,_,y,rfl,Hy,hop,VH,hg.1,hg.2,DN,hx,mz,rfl,hl,Ip,Q2,g1,Nv,hd2,g2,l1,l2,l3,l4,rfl,rfl⟩
end
section
variable {P:Program} {N:Nat} {Y:Ctx} {ι ι':au} {μ μ':Mu} {H H':aH} {w w':World} {out:Option Nat} {base:Nat}
theorem VI {b1 i2 b3 ok:Nat} {tc:Array Oper} {y:Code} {cb:C} (h:eU P N (.block b1 (.loop (.seq (.region i2 tc false) (.seq (.cond (.tmp ok) .skip (.exit b1)) (.block b3 y)))))=some cb) :
  ∃cx cc cy,eU P N y=some cy∧cb = .block b1 (.loop (.seq cx (.seq cc (.block b3 cy)))):=by
 have h1:∀z,vO P N (.cond (.tmp ok) .skip (.exit b1)) z=none:=fun z=>by
  unfold vO
  split
  ·split
   ·rename_i h1;cases h1
   ·rfl
  ·rfl
 have h2:∀z u v,vO P N z (.seq u v)=none:=fun z u v=>rfl
 simp only [eU] at h
 cases hx:dK P N tc tc.toList with
 |none=>simp [hx] at h
 |some is =>
  simp only [hx] at h
  cases hy:eU P N y with
  |none=>simp [hy] at h
  |some cy =>
   simp only [hy,dg,Option.map_some,h1,h2] at h
   cases h
   exact ⟨_,_,cy,rfl,rfl⟩
theorem wU {id:Nat} {K:Ex→St→Prop} {e:Exit} {a:Act} {w:World} (hp:Post P N Y (fun e S=>match e with
  | .normal=>K .normal S
  | .exit id'=>match Nat.beq id' id with
   |true=>K .normal S
   |false=>K (.exit id') S
  | .ret=>K .ret S) e a w):Exit.inBlock id (Post P N Y K) e a w:=by
 obtain ⟨Y1,hY,ι',μ',S',e',h1,h2,h3⟩:=hp
 cases e' with
 |normal=>cases h2;exact ⟨Y1,hY,ι',μ',S',.normal,h1,rfl,h3⟩
 |exit id' =>
  cases h2
  simp only [Exit.inBlock]
  simp only at h3
  split at h3
  ·rename_i Bp
   rw [if_pos (Nat.eq_of_beq_eq_true Bp)]
   exact ⟨Y1,hY,ι',μ',S',.normal,h1,rfl,h3⟩
  ·rename_i Bp
   rw [if_neg (fun e=>by subst e;rw [Nat.beq_refl] at Bp;cases Bp)]
   exact ⟨Y1,hY,ι',μ',S',.exit id',h1,rfl,h3⟩
 |ret=>cases h2;exact ⟨Y1,hY,ι',μ',S',.ret,h1,rfl,h3⟩
theorem Q3 (gD : mw P N out base) {it b1 b3 : Nat} {y : Code} {cx cc cy bd : C} (Nw : eU P N y = some cy) (hbd : KG (sF N it y) (.block b1 (.loop (.seq cx (.seq cc (.block b3 cy))))) = some bd) {S0 : St} {a : Act}
  (ho:jM Y out) (hb:Y.base base) (hR:ek P N Y ι μ S0 a w) {r:Nat} (hit:a.tmps.getD it undef = .pointer (some ⟨r,0,none⟩)) {kv vv:Value} (cu:(Instr.entry (.pointer (some ⟨r,0,none⟩))).run P w = .ok (.tuple #[kv,vv]) w)
  {kt vt:Ty} {kg vg:Bool} {x:kt.den×vt.den} (hk:Rel ι μ (cm.iu kg (cm kt x.1)) kv) (hv:Rel ι μ (cm.iu vg (cm vt x.2)) vv) {Q:Ex→St→Prop}
  (h:qO (fF P N out base) bd ⟨VG (sF N it y) kt kg vt vg x S0.env,S0.H,S0.ms⟩ Q):(Code.block b3 y).wpIn Y.F 0 P (Post P N Y Q) a w:=by
 cases he:sF N it y with
 |none =>
  rw [he] at hbd h
  cases hbd
  exact gh gD (.block b3 y) (c:=.block b3 cy) (by simp [eU,Nw]) h Y ι μ a w ho hb hR
 |some s =>
  rw [he] at hbd h
  unfold sF at he
  split at he<;>try (cases he;done)
  rename_i ri ops rest
  split at he<;>try (cases he;done)
  rename_i o os hl
  split at he<;>try (cases he;done)
  rename_i i hop
  split at he<;>try (cases he;done)
  rename_i s' VH
  split at he<;>try (cases he;done)
  rename_i hc
  obtain ⟨hg,hi,hs,hne⟩:=hc
  cases he
  subst hi
  -- the code
  simp only [eU] at Nw
  cases mz:dK P N ops ops.toList with
  |none=>simp [mz] at Nw
  |some is0 =>
   simp only [mz] at Nw
   cases hcr:eU P N rest with
   |none=>simp [hcr] at Nw
   |some cr =>
    simp only [hcr] at Nw
    split at Nw
    rotate_left
    ·rename_i hd2 _
     split at Nw<;>try (cases Nw;done)
     cases Nw
     simp [KG] at hbd
    cases Nw
    rw [hl] at mz
    unfold dK at mz
    split at mz<;>try (cases mz;done)
    rename_i i0 is hi0 mz
    cases mz
    simp only [KG] at hbd
    cases hbd
    simp only [qO] at h
    refine wpIn_block (wpIn_mono ?_ fun e a w hp=>wU hp)
    refine wpIn_seq (wpIn_region ?_)
    have hsz:ops.size=os.length+1:=by rw [←Array.length_toList,hl];rfl
    rw [List.range_eq_range',hsz,List.range'_succ]
    have ho0:ops[0]?=some o:=by rw [←Array.getElem?_toList,hl];rfl
    have aj:a.eval (.tmp i) = .pointer (some ⟨r,0,none⟩):=hit
    have hN:qK N o.dst=true:=by rw [VH];simpa [qK] using hs
    refine tU (x := .tuple #[kv, vv]) (w' := w) (fun _ => trivial) rfl ho0 (gm hg _) (by rw [hop]; intro c; simp) (.inl (by
     unfold execOp;rw [hop];simp only [aj,Sem.run_bind,cu];rfl)) ?_
    have mS:ek P N Y ι μ ⟨VG (some s) kt kg vt vg x S0.env,S0.H,S0.ms⟩ (a.put o.dst (.tuple #[kv,vv])) w:=by
     have := hR.put hN (au.le_refl _) (Mu.le_refl _) hR.inv (v := .bX [cm.iu kg (cm kt x.1), cm.iu vg (cm vt x.2)]) (x := .tuple #[kv, vv])
      (.bX _ _ rfl (fun i v x pY hx=>by
       match i with
       |0=>simp at pY hx;subst pY;subst hx;exact hk
       |1=>simp at pY hx;subst pY;subst hx;exact hv
       |i+2=>simp at pY))
     rw [VH] at this ⊢
     exact this
    exact wB (Y:=Y) (out:=out) (base:=base) (k:=1) (Q:=Exit.then (rest.wpIn Y.F 0 P _) _) (fun ι μ S a w hR hK=>gh gD rest hcr hK Y ι μ a w ho hb hR) mz (fun j=>by rw [←Array.getElem?_toList,hl,Nat.add_comm];simp) mS h
end
section
variable {P:Program} {N:Nat} {Y:Ctx} {ι ι':au} {μ μ':Mu} {H H':aH} {w w':World} {out:Option Nat} {base:Nat}
theorem eD.at {kt vt : Ty} {kg vg : Bool} : ∀ {es : List (kt.den × vt.den)} {ms : List MapEntry}, eD ι kt kg vt vg es ms → ∀ {i : Nat} {m : MapEntry}, ms[i]? = some m → ∃ e, es[i]? = some e ∧ fk ι kg kt e.1 m.key ∧ fk ι vg vt e.2 m.val
 |[],_,h,i,m,hm=>by simp [eD] at h;subst h;simp at hm
 |e::es,_,⟨m0,r,rfl,h1,h2,h3⟩,i,m,hm=>by
  cases i with
  |zero=>simp at hm;subst hm;exact ⟨e,rfl,h1,h2⟩
  |succ i=>simpa using h3.at (i:=i) (by simpa using hm)
theorem Ec {E α β:Type} {step:E→α→Option (α ⊕ β)} {e:E} {r:List E} {x:α} {res:α ⊕ β} (h:zm step (e::r) x=some res) :
  (∃y,step e x=some (.inl y))∨∃b,step e x=some (.inr b)∧res = .inr b:=by
 simp only [zm] at h
 split at h
 ·cases h
 ·rename_i y e;exact .inl ⟨y,e⟩
 ·rename_i b e;cases h;exact .inr ⟨b,e,rfl⟩
theorem get_mem : ∀ {env : Env} {t : Nat} {v : V}, get t env = v → v ≠ .any → (t, v) ∈ env
 |[],t,v,h,hv=>absurd h.symm hv
 |(s,u)::r,t,v,h,hv=>by
  rw [bS] at h
  split at h
  ·rename_i e;subst e;subst h;exact List.mem_cons_self ..
  ·exact List.mem_cons_of_mem _ (get_mem h hv)
theorem K9 {π : List Nat} {cl : List Nat} {env : Env} {Hh : aH} {mss : List Nat} {S' : St} (h : iS base π ⟨dQ cl env, Hh, mss⟩ S') {mn id bm : Nat} (hid : get mn env = .mp id) {kt vt : Ty} {kg vg : Bool} {es : List (kt.den × vt.den)}
  (Dl:ja Hh.bl kt kg vt vg id=some es) {L:Loc} (hL:μ id=some L) (hLb:L.b=bm) (yR:Nat) (h2:get mn S'.env = .mp yR) :
  (∃L,(μ.eH π) yR=some L∧L.b=bm)∧∀es',ja S'.H.bl kt kg vt vg yR=some es'→es'=es:=by
 have aj:=h.env _ (get_mem h2 (by simp))
 try simp only at aj
 have hπ:π[yR]?=some id:=by
  rcases qc (cl:=cl) (env:=env) (t:=mn) with e|e<;>rw [e] at aj
  ·cases aj
  ·rw [hid] at aj;cases aj with|mp _ _ hi=>exact hi
 refine ⟨⟨L,by simp [Mu.eH,hπ,hL],hLb⟩,fun es' he'=>?_⟩
 obtain ⟨i,e1,hb⟩:=h.bl _ (c8 (dM he'))
 try simp only at e1 hb
 rw [hπ] at e1;cases e1
 have Nx:=dM Dl
 try simp only at Nx
 rw [Nx] at hb
 simp only [Option.some.injEq,kA.map.injEq,heq_eq_eq,true_and] at hb
 exact hb.symm
theorem jM.up {w:World} {ι:au} {r:Nat} (h:jM Y out) (hm:Y.m0.le μ):jM (Y.side w ι μ r) out:=by
 cases out with
 |none=>exact h
 |some o=>obtain ⟨Lo,h1,h2⟩:=h;exact ⟨Lo,hm _ _ h1,h2⟩
theorem Ext.lift {Ya Yb : Ctx} {r : Nat} (hinv : ∀ {ι : au} {μ : Mu} {H : aH} {w : World}, Inv P Ya ι μ H w → Inv P Yb ι μ H w) (hown : ∀ b, Ya.own b → Yb.own b) (hro : Yb.ro = Ya.ro) (hm0 : Yb.m0.le Ya.m0) (Bt : Yb.hid = Ya.hid)
  (hr:r<Ya.w0.heap.size∧¬Ya.own r) (hrb:Yb.own r) {Y1:Ctx} (h:Ext P Ya Y1) :
  ∃Y2,Ext P Yb Y2∧(∀{ι:au} {μ:Mu} {H:aH} {w:World},Inv P Y1 ι μ H w→Inv P Y2 ι μ H w)∧(∀b,Y1.own b→Y2.own b)∧Y2.ro=Y1.ro∧Y2.m0.le Y1.m0∧Y2.hid=Y1.hid∧(r<Y1.w0.heap.size∧¬Y1.own r)∧Y2.own r:=by
 induction h with
 |refl=>exact ⟨Yb,.refl Yb,hinv,hown,hro,hm0,Bt,hr,hrb⟩
 |step h ro hI hr' own ih =>
  rename_i Y1 ι1 μ1 H1 w1 r'
  obtain ⟨Y2,e1,e2,e3,e4,e5,e6,e7,e8⟩:=ih
  have hlt:=(Array.getElem?_eq_some_iff.1 hr').1
  have hne:r≠r':=fun e=>by subst e;exact e7.2 own
  have hs:=hI.below.size
  refine ⟨Y2.uD w1 ι1 r',.step e1 (e4.trans ro) (e2 hI) hr' (e3 _ own),fun {ι μ H w} h=>?_,fun b hb=>?_,e4,e5,?_,⟨?_,fun hX=>?_⟩,.inr ⟨e8,hne⟩⟩
  ·have hx : ∀ b, (Y1.uD w1 ι1 r').x b → (Y2.uD w1 ι1 r').x b := fun b hb => ⟨e3 _ hb.1, hb.2⟩
   exact ⟨⟨h.below.os,h.below.tape,h.below.output,h.below.size,fun k hk hx'=>h.below.block k hk (fun hh=>hx' (hx _ hh)),h.below.dr,h.below.maps⟩,h.i0,fun b o hb hx'=>h.iB b o hb (fun hh=>hx' (hx _ hh)),h.rd,Mu.le_trans e5 h.m0,h.nx,
    fun id B hB=>(h.live id B hB).owns fun L _ ho=>ho.imp (fun h=>h) (hx _),h.inj,h.lt,h.gl⟩
  ·exact hb.imp (fun h=>h) fun h=>⟨e3 _ h.1,h.2⟩
  ·show r' :: Y2.hid = r' :: Y1.hid
   rw [e6]
  ·exact Nat.lt_of_lt_of_le e7.1 hs
  ·rcases hX with hX | hX
   ·have : w1.heap.size ≤ r := hX
    omega
   ·exact e7.2 hX.1
theorem KD.inj {t:Ty} {β:Type} {es:List (t.den×β)} (h:KD t es) {a b:t.den×β} (ha:a∈es) (hb:b∈es) (hab:dx t a.1 b.1=true):a=b:=by
 have haa:dx t a.1 a.1=true:=by
  have:=bC hab
  rw [←this] at hab;exact hab
 have h1:=mh (d:=a.2) h ha haa
 have h2:=mh (d:=a.2) h hb hab
 exact Prod.ext (bC hab) (h1.symm.trans h2)
theorem tg {ι ι' : au} : ∀ {t : Ty} {ks : List Kd} {x y : t.den} {vs : List Value}, bx t = some ks → af ι t x vs → af ι' t y vs → dx t x y = true
 | .unit,ks,x,y,vs,h,hx,hy=>rfl
 | .bool,ks,x,y,vs,h,hx,hy=>by simp only [af] at hx hy;subst hx;simpa [dx] using hy
 | .str,ks,x,y,vs,h,hx,hy=>by
  simp only [af] at hx hy;subst hx
  simp only [List.cons.injEq,Value.string.injEq,and_true] at hy
  subst hy;simp [dx]
 | .int k,ks,x,y,vs,h,hx,hy=>by simp only [af] at hx hy;subst hx;simpa [dx] using hy
 | .list _,ks,x,y,vs,h,hx,hy=>by cases h
 | .bZ _ _ _,ks,x,y,vs,h,hx,hy=>by cases h
 | .prod a b,ks,x,y,vs,h,hx,hy=>by
  simp only [bx] at h
  split at h<;>try (cases h;done)
  rename_i k1 k2 h1 h2
  obtain ⟨us,ws,e1,d1,d2⟩:=hx
  obtain ⟨us',ws',e2,d1',d2'⟩:=hy
  rw [e1] at e2
  obtain ⟨rfl,rfl⟩:=List.append_inj e2 (by rw [d1.length,d1'.length])
  simp only [dx,tg h1 d1 d1',tg h2 d2 d2',Bool.and_self]
theorem Q4 {k:TypeId} {kt:Ty} {kg:Bool} (h:vN P k=some (kt,kg)):∃ks,bx kt=some ks:=by
 unfold vN at h
 split at h<;>try (cases h;done)
 ·cases h;exact ⟨_,rfl⟩
 ·cases h;exact ⟨_,rfl⟩
 ·split at h <;> try (cases h; done)
  split at h<;>try (cases h;done)
  rename_i hc
  cases h
  exact ⟨_,hc.1⟩
theorem Ny {g:Bool} {xs ys:List Value} {v:Value} (h1:gI g xs=some v) (h2:gI g ys=some v):xs=ys:=by
 cases g with
 |true =>
  simp only [gI,Option.some.injEq] at h1 h2
  subst h1
  simp only [Value.agg.injEq] at h2
  have:=congrArg Array.toList h2
  simpa using this.symm
 |false =>
  match xs,ys,h1,h2 with
  |[x],[y],h1,h2 =>
   simp only [gI,Option.some.injEq] at h1 h2
   rw [h1,h2]
  |[],_,h1,_=>simp [gI] at h1
  |_::_::_,_,h1,_=>simp [gI] at h1
  |[_],[],_,h2=>simp [gI] at h2
  |[_],_::_::_,_,h2=>simp [gI] at h2
theorem VJ {k:TypeId} {kt:Ty} {kg:Bool} (h:vN P k=some (kt,kg)) {x y:kt.den} {z:Value} (hx:fk ι kg kt x z) (hy:fk ι' kg kt y z):dx kt x y=true:=by
 obtain ⟨ks,hks⟩:=Q4 h
 obtain ⟨xs,h1,h2⟩:=hx
 obtain ⟨ys,h3,h4⟩:=hy
 have:=Ny h2 h4
 subst this
 exact tg hks h1 h3
structure MI {α:Type} (P:Program) (N:Nat) (Y:Ctx) (I:α→St) (mn it:Nat) (kt:Ty) (kg:Bool) (vt:Ty) (vg:Bool) (es dh:List (kt.den×vt.den)) (kz:List Value) (bm r since:Nat) (bs todo:List Nat) (x:α) (a:Act) (w:World) (ι:au) (μ:Mu) (seen:Array Nat) (c0:Nat) (ms:Array MapEntry) (clock:Nat):Prop where
 rep:ek P N Y ι μ (I x) a w
 it:a.tmps.getD it undef = .pointer (some ⟨r,0,none⟩)
 own:Y.own r
 hr:w.heap[r]?=some (.mapIter (some bm) since seen c0)
 sc:since≤c0
 ck:since≤clock
 hm:w.heap[bm]?=some (.map ms clock)
 hbs:ms.toList.map (·.born)=bs
 hkz:ms.toList.map (·.key)=kz
 hke:∀(i:Nat) e z,dh[i]?=some e→kz[i]?=some z→fk ι kg kt e.1 z
 old:∀b∈bs,b<since
 nd:bs.Nodup
 len:dh.length=bs.length
 td:todo.Nodup
 left:∀i,i∈todo↔∃b,bs[i]?=some b∧b∉seen.toList
 here:∀id,get mn (I x).env = .mp id→(∃L,μ id=some L∧L.b=bm)∧∀es',ja (I x).H.bl kt kg vt vg id=some es'→es'=es
def Ed (pz : Nat) : Ex → Ex
 | .exit i=>match Nat.beq i pz with
  |true=>.normal
  |false=>.exit i
 |e=>e
theorem Q5 {α:Type} (es:List α) (d:α):(List.range es.length).map (fun i=>es.getD i d)=es:=by
 apply List.ext_getElem
 ·simp
 ·intro i h1 h2;simp at h1;simp [List.getD,h1]
theorem Ee (gD : ∀ base, mw P N out base) {α β : Type} {I : α → St} {X : β → Ex × St} {pre : List eC} {mn it : Nat} {cl : List Nat} {e : Option Nat} {kt vt : Ty} {kg vg : Bool} {pz : Nat} {bd : C}
  {step:kt.den×vt.den→α→Option (α ⊕ β)} {aC:Nat} (hI:∀x s,s∈it::cl→get s (I x).env = .any) (K3:∀x,(I x).H.next=aC)
  (hstep:∀kK x r,step kK x=some r→∃id es',get mn (I x).env = .mp id∧ja (I x).H.bl kt kg vt vg id=some es' ∧
   qO (fF P N out (aC+1)) bd ⟨VG e kt kg vt vg kK ((it,.ptr aC 0)::(I x).env),⟨aC+1,(I x).H.bl⟩,(I x).ms⟩ fun ex S'=>match r with
    | .inl y=>ex = .normal∧get it S'.env = .ptr aC 0∧get mn S'.env = .mp id∧ja S'.H.bl kt kg vt vg id=some es'∧∃π,iS base π ⟨dQ (it::cl) S'.env,S'.H,S'.ms⟩ (I y)
    | .inr b=>ex ≠ .normal∧ex=(X b).1∧∃π,iS base π S' (X b).2)
  {S:St} {K:Ex→St→Prop}
  (hpre:eW (fF P N out base) pre S fun S1=>∃id es x π,get mn S1.env = .mp id∧ja S1.H.bl kt kg vt vg id=some es∧iS base π ⟨dQ (it::cl) S1.env,S1.H,S1.ms⟩ (I x) ∧
   ∀l:List (kt.den×vt.den),l.Perm es→∃res,zm step l x=some res∧(match res with | .inl y=>K .normal (I y) | .inr b=>K (Ed pz (X b).1) (X b).2)) :
  (fF P N out base).gq (.gq pre (.t mn) it cl e kt kg vt vg pz bd) S K:=by
 intro ca cb htr hsome
 have htr0:=htr
 simp only [eU] at htr
 split at htr<;>try (cases htr;done)
 rename_i xa xb htra htrb
 split at htr
 ·rename_i hn;rw [hn] at hsome;cases hsome
 rename_i hd hmh
 split at htr<;>try (cases htr;done)
 rename_i Vv hbd
 obtain ⟨hpre',hm',qd,hcl',he',wV,acy,zo,acz,Ap⟩:=hd
 simp only [Option.some.injEq,C.gq.injEq] at htr
 obtain ⟨rfl,rfl,rfl,rfl,rfl,rfl,rfl,rfl,rfl,rfl,rfl⟩:=htr
 obtain ⟨ia,zn,oA,rr,t,xo,b3,i2,tc,o1,o2,n,ok,y,rfl,hlA,acA,hdA,hgA,hitN,DN,PT,mz,rfl,Hy,Ip,Q2,hg1,Nv,hd2,hg2,hnN,hokN,hnit,aan,yT,he⟩:=Io hmh
 simp only at acA hdA hgA hitN DN PT mz Ip hnit aan yT he hbd
 subst yT
 obtain ⟨cx,cc,cy,Nw,rfl⟩:=VI htrb
 subst he
 intro Y ι μ a w hout hbase hR
 refine wpIn_seq (wpIn_region ?_)
 have hszA:zn.size=rr.length+1:=by rw [←Array.length_toList,hlA];simp
 have acB:List.range zn.size=List.range' 0 rr.length++[rr.length]:=by
  rw [hszA,List.range_succ,List.range_eq_range']
 rw [acB]
 refine sR (Y:=Y) (out:=out) (base:=base) (k:=0) (K:=fun S1=>∃id es x π,get mn S1.env = .mp id∧ja S1.H.bl wV acy zo acz id=some es∧iS base π ⟨dQ (qd::[n,ok]) S1.env,S1.H,S1.ms⟩ (I x) ∧
   ∀l:List (wV.den×zo.den),l.Perm es→∃res,zm step l x=some res∧(match res with | .inl y=>K .normal (I y) | .inr b=>K (Ed Ap (X b).1) (X b).2)) ?_ mz (fun j hj=>?_) hR hpre
 rotate_left
 ·rw [←Array.getElem?_toList,hlA,Nat.zero_add,List.getElem?_append_left (by assumption)]
 clear hR hpre
 intro ι μ S1 a w hR hK1
 obtain ⟨id,es,x,π,hmid,qe,cu,hres⟩:=hK1
 -- the iterator is made
 have hv:=hR.env mn
 rw [hmid] at hv
 generalize hav:a.tmps.getD mn undef=mv at hv
 cases hv with
 |mp _ L hL =>
 have hb:=dM qe
 obtain ⟨L',ms,clock,dh,q1,q2,q3,q4,q5,q6,hp0,hd0⟩:=hR.inv.live _ _ hb
 rw [hL] at q1;cases q1
 obtain ⟨kT,eT,huT,hkT,_⟩:=jL DN
 have di:a.eval xo = .map (some L.b):=by
  have:xo = .tmp mn:=by
   cases xo<;>simp only [dg] at PT
   ·cases PT;rfl
   ·split at PT<;>cases PT
   ·cases PT
   ·cases PT
  rw [this];exact hav
 have hoA:zn[rr.length]?=some oA:=by rw [←Array.getElem?_toList,hlA];simp
 refine tU (x := .pointer (some ⟨w.heap.size, 0, none⟩)) (w' := w.alloc (.mapIter (some L.b) clock #[] clock)) (fun _ => trivial) rfl hoA (gm hgA _) (by rw [acA]; intro c; simp) (.inl (by
  unfold execOp;rw [acA];simp only [di,Sem.run_bind,run_range_map w t kT eT L.b ms clock huT q3];rfl)) ?_
 simp only [wpOpsIn]
 rw [hdA]
 have qE:ek P N Y ι μ ⟨dQ (qd::[n,ok]) S1.env,S1.H,S1.ms⟩ (a.put (some qd) (.pointer (some ⟨w.heap.size,0,none⟩))) (w.alloc (.mapIter (some L.b) clock #[] clock)):=by
  have h1:ek P N Y ι μ ⟨dQ (qd::[n,ok]) S1.env,S1.H,S1.ms⟩ a w:=⟨hR.env.forget _,hR.sz,hR.inv,hR.ms⟩
  have h2:=h1.over (d:=qd) (by simp [dQ,get]) (.pointer (some ⟨w.heap.size,0,none⟩))
  exact ⟨h2.env,h2.sz,h2.inv.junk _,h2.ms⟩
 have mS:=cu.rep hbase qE
 have hlt:L.b<w.heap.size:=(Array.getElem?_eq_some_iff.1 q3).1
 have VK:MI P N Y I mn qd wV acy zo acz es dh (ms.toList.map (·.key)) L.b w.heap.size clock (ms.toList.map (·.born)) (List.range dh.length) x (a.put (some qd) (.pointer (some ⟨w.heap.size,0,none⟩))) (w.alloc (.mapIter (some L.b) clock #[] clock)) ι (μ.eH π) #[] clock ms clock:=by
  refine ⟨mS,BI (by rw [hR.sz];exact hitN),.inl hR.inv.below.size,heap_alloc_new _ _,Nat.le_refl _,Nat.le_refl _,(heap_alloc_old _ _ hlt).trans q3,rfl,rfl,fun i e z he hz=>?_,fun b hb=>?_,q6,?_,List.nodup_range,fun i=>?_,fun yR h2=>?_⟩
  ·rw [List.getElem?_map] at hz
   cases hm:ms.toList[i]? with
   |none=>rw [hm] at hz;cases hz
   |some m =>
    rw [hm] at hz;cases hz
    obtain ⟨e',he',hk,_⟩:=q4.at hm
    rw [he] at he';cases he'
    exact hk
  ·obtain ⟨m, hm, rfl⟩ := List.mem_map.1 hb
   exact q5 m hm
  ·rw [List.length_map,eD.length q4]
  ·have hlen := eD.length q4
   simp only [List.mem_range,List.not_mem_nil,not_false_eq_true,and_true]
   constructor
   ·intro hi
    exact ⟨_,List.getElem?_eq_getElem (show i<(ms.toList.map (·.born)).length by simp at hlen ⊢;omega)⟩
   ·rintro ⟨b, hb⟩
    have:=(List.getElem?_eq_some_iff.1 hb).1
    simp at this hlen;omega
  ·exact K9 cu hmid qe hL rfl yR h2
 have hat0:∀J:List Nat,J.Perm (List.range dh.length)→∃res,zm step (J.map fun i=>dh.getD i (wV.zero,zo.zero)) x=some res∧(match res with | .inl y=>K .normal (I y) | .inr b=>K (Ed Ap (X b).1) (X b).2):=fun J hJ =>
  hres _ (((hJ.map _).trans (by rw [Q5])).trans hp0)
 have hdE:KD wV es:=hd0.perm hp0
 clear hres qE mS qe hmid cu q3 q5 q6 di hoA hav hb hR hL hlt
 generalize (a.put (some qd) (.pointer (some ⟨w.heap.size,0,none⟩)))=a1 at VK ⊢
 generalize hw1:w.alloc (.mapIter (some L.b) clock #[] clock)=w1 at VK ⊢
 generalize w.heap.size=r at VK
 generalize hbs:ms.toList.map (·.born)=bs at VK
 generalize hkz:ms.toList.map (·.key)=kz at VK
 generalize L.b=bm at VK
 have hlen:dh.length=bs.length:=VK.len
 clear hw1 hbs hkz
 show Code.wpIn _ _ _ (.block Ap _) _ _ _
 refine wpIn_block (wpIn_mono ?_ fun e a w hp=>wU hp)
 refine wpIn_loop_ghost (fun (g:List Nat×α) a w=>(∃Y1,Ext P Y Y1∧∃ι μ seen c0 ms clock',MI P N Y1 I mn qd wV acy zo acz es dh kz bm r clock bs g.1 g.2 a w ι μ seen c0 ms clock') ∧
  ∀J:List Nat,J.Perm g.1→∃res,zm step (J.map fun i=>dh.getD i (wV.zero,zo.zero)) g.2=some res∧(match res with | .inl y=>K .normal (I y) | .inr b=>K (Ed Ap (X b).1) (X b).2)) (fun g=>g.1.length) (x:=(List.range dh.length,x)) ⟨⟨Y,.refl Y,_,_,_,_,_,_,VK⟩,hat0⟩ ?_
 clear VK hat0
 rintro ⟨todo,x⟩ a w ⟨⟨Y0,UP,ι,μ,seen,c0,ms,clock',M⟩,KQ⟩
 simp only at M KQ
 refine wpIn_seq (wpIn_region ?_)
 have hsz2:tc.size=2:=by rw [←Array.length_toList,Hy];rfl
 rw [show List.range tc.size=[0,1] by rw [hsz2];rfl]
 have hO0:tc[0]?=some o1:=by rw [←Array.getElem?_toList,Hy];rfl
 have hO1:tc[1]?=some o2:=by rw [←Array.getElem?_toList,Hy];rfl
 have acC:=M.rep.sz
 have aao:a.eval (.tmp qd) = .pointer (some ⟨r,0,none⟩):=M.it
 have hold:∀m∈ms.toList,m.born<clock:=fun m hm=>M.old _ (by rw [←M.hbs];exact List.mem_map.2 ⟨m,hm,rfl⟩)
 have dW:∀v,get n (I x).env = .any∧get ok (I x).env = .any∧(a.put (some n) v).eval (.tmp n)=v:=fun v=>⟨hI x n (by simp),hI x ok (by simp),BI (by rw [acC];exact hnN)⟩
 rcases run_next_at (P:=P) w o1.type r bm clock c0 seen ms clock' M.hr M.hm hold M.sc with ⟨h0,hrun⟩|⟨en,hel,w1,hw1,hrun⟩
 ·refine tU (x := .tuple #[.bool false]) (w' := w) (fun _ => trivial) rfl hO0 (gm hg1 _) (by rw [Ip]; intro c; simp) (.inl (by
   unfold execOp;rw [Ip];simp only [aao,Sem.run_bind,hrun];rfl)) ?_
  rw [Q2]
  refine tU (x := .bool false) (w' := w) (fun _ => trivial) rfl hO1 (gm hg2 _) (by rw [Nv]; intro c; simp) (.inl (by
   unfold execOp;rw [Nv];simp only [(dW _).2.2];simp [Instr.extract])) ?_
  rw [hd2]
  simp only [wpOpsIn]
  show Code.wpIn _ _ _ (.seq _ _) _ _ _
  refine wpIn_seq (wpIn_cond_false (BI (by simpa [Act.put,acC] using hokN)) (wpIn_exit ?_))
  have age:todo=[]:=by
   cases htd:todo with
   |nil=>rfl
   |cons i _ =>
    exfalso
    obtain ⟨b,iA,eB⟩:=(M.left i).1 (by rw [htd];exact List.mem_cons_self ..)
    rw [←M.hbs,List.getElem?_map] at iA
    cases hmi:ms.toList[i]? with
    |none=>rw [hmi] at iA;cases iA
    |some m =>
     rw [hmi] at iA;cases iA
     have:m∈leftOf ms seen:=by
      simp only [leftOf,Array.mem_filter]
      exact ⟨by simpa using List.mem_of_getElem? hmi,by simpa using eB⟩
     have hp:=Array.size_pos_of_mem this
     omega
  subst age
  obtain ⟨res,hr,hK⟩:=KQ [] (.refl _)
  simp only [List.map_nil,zm,Option.some.injEq] at hr
  subst hr
  refine ⟨Y0,UP,ι,μ,I x,.exit Ap,?_,rfl,?_⟩
  ·have h1 := (M.rep.over (dW .nilFunc).1 (.tuple #[.bool false])).over (dW .nilFunc).2.1 (.bool false)
   exact h1
  ·simp only [Nat.beq_refl];exact hK
 ·-- an entry
  have acE:w1.heap=w.heap:=by rcases hw1 with rfl|rfl<;>rfl
  have qE:ek P N Y0 ι μ (I x) a w1:=by
   rcases hw1 with rfl|rfl
   ·exact M.rep
   ·exact ⟨M.rep.env,M.rep.sz,M.rep.inv.drew,M.rep.ms⟩
  have DG:w1.heap[r]?=some (.mapIter (some bm) clock seen c0):=by rw [acE];exact M.hr
  have fL:w1.heap[bm]?=some (.map ms clock'):=by rw [acE];exact M.hm
  have hne:bm≠r:=fun e=>by subst e;rw [DG] at fL;cases fL
  have hrlt:r<w1.heap.size:=(Array.getElem?_eq_some_iff.1 DG).1
  change (Instr.next _ _ _).run P w = .ok _ (w1.putObj r (.mapIter (some bm) clock (seen.push en.born) clock')) at hrun
  generalize hw2:w1.putObj r (.mapIter (some bm) clock (seen.push en.born) clock')=w2 at hrun
  have DH:w2.heap[r]?=some (.mapIter (some bm) clock (seen.push en.born) clock'):=by rw [←hw2];exact World.putObj_heap_same hrlt
  have hm2:w2.heap[bm]?=some (.map ms clock'):=by rw [←hw2,World.putObj_heap_other hne];exact fL
  have ue:Inv P Y0 ι μ (I x).H w2:=by rw [←hw2];exact qE.inv.side DG M.own _
  have agi:Y0.w0.heap.size≤w2.heap.size:=ue.below.size
  clear hw2 fL DG qE hw1 acE hrlt
  refine tU (x := .tuple #[.bool true, en.key, en.val]) (w' := w2) (fun _ => trivial) rfl hO0 (gm hg1 _) (by rw [Ip]; intro c; simp) (.inl (by
   unfold execOp;rw [Ip];simp only [aao,Sem.run_bind,hrun];rfl)) ?_
  rw [Q2]
  refine tU (x := .bool true) (w' := w2) (fun _ => trivial) rfl hO1 (gm hg2 _) (by rw [Nv]; intro c; simp) (.inl (by
   unfold execOp;rw [Nv];simp only [(dW _).2.2];simp [Instr.extract])) ?_
  rw [hd2]
  simp only [wpOpsIn]
  show Code.wpIn _ _ _ (.seq _ _) _ _ _
  refine wpIn_seq (wpIn_cond_true (BI (by simpa [Act.put,acC] using hokN)) (wpIn_skip ?_))
  have hRa:ek P N Y0 ι μ (I x) ((a.put (some n) (.tuple #[.bool true,en.key,en.val])).put (some ok) (.bool true)) w2:=by
   have h1:=(M.rep.over (dW .nilFunc).1 (.tuple #[.bool true,en.key,en.val])).over (dW .nilFunc).2.1 (.bool true)
   exact ⟨h1.env,h1.sz,ue,h1.ms⟩
  have acF:((a.put (some n) (.tuple #[.bool true,en.key,en.val])).put (some ok) (.bool true)).tmps.getD qd undef = .pointer (some ⟨r,0,none⟩):=by
   rw [QZ aan,QZ hnit];exact M.it
  show Code.wpIn _ _ _ (.block b3 y) _ _ _
  generalize ((a.put (some n) (.tuple #[.bool true,en.key,en.val])).put (some ok) (.bool true))=a2 at hRa acF
  -- which one
  have acG:en∈ms.toList∧en.born∉seen.toList:=by
   have:en∈leftOf ms seen:=by simpa using hel
   simp only [leftOf,Array.mem_filter] at this
   exact ⟨by simpa using this.1,by simpa using this.2⟩
  obtain ⟨i,hi⟩:=List.getElem?_of_mem acG.1
  have hbi:bs[i]?=some en.born:=by rw [←M.hbs,List.getElem?_map,hi];rfl
  have Iq:i∈todo:=(M.left i).2 ⟨_,hbi,acG.2⟩
  have La:∀J:List Nat,J.Perm (todo.erase i)→∃res,zm step (dh.getD i (wV.zero,zo.zero)::J.map fun i=>dh.getD i (wV.zero,zo.zero)) x=some res∧(match res with | .inl y=>K .normal (I y) | .inr b=>K (Ed Ap (X b).1) (X b).2):=fun J hJ =>
   KQ (i::J) ((hJ.cons i).trans (List.perm_cons_erase Iq).symm)
  have hs1:∃q,step (dh.getD i (wV.zero,zo.zero)) x=some q:=by
   obtain ⟨res,hr,_⟩:=La _ (.refl _)
   rcases Ec hr with ⟨y,hy⟩|⟨b,hb,_⟩
   ·exact ⟨_,hy⟩
   ·exact ⟨_,hb⟩
  obtain ⟨q,hq⟩:=hs1
  obtain ⟨id,es',hmid,qe,hwp⟩:=hstep _ _ _ hq
  obtain ⟨⟨L,hL,hLb⟩,Dl⟩:=M.here id hmid
  have:=Dl es' qe
  subst this
  obtain ⟨L',ms2,ck2,HA,z1,z2,z3,z4,z5,z6,z7,z8⟩:=ue.live id _ (dM qe)
  rw [hL] at z1;cases z1
  rw [hLb,hm2] at z3;cases z3
  obtain ⟨e0,he0,hk,hv⟩:=z4.at hi
  have hat:dh.getD i (wV.zero,zo.zero)=e0:=by
   have hil:i<dh.length:=by
    have:=(List.getElem?_eq_some_iff.1 hbi).1
    rw [M.len];exact this
   have h1:dh[i]?=some dh[i]:=List.getElem?_eq_getElem hil
   have h2:=M.hke i _ en.key h1 (by rw [←M.hkz,List.getElem?_map,hi];rfl)
   have h3:=hdE.inj (hp0.mem_iff.1 (List.getElem_mem hil)) (z7.mem_iff.1 (List.mem_of_getElem? he0)) (VJ hkT h2 hk)
   rw [List.getD_eq_getElem?_getD,h1]
   exact h3
  rw [hat] at hq hwp La
  have hx0:=K3 x
  let L0:Loc:=⟨r,0,0,0⟩
  have Q6:Inv P Y0 ι (μ.set aC L0) ⟨aC+1,(I x).H.bl⟩ w2:=by rw [←hx0];exact ue.name L0
  have hnone:μ aC=none:=by rw [←hx0];exact ue.nx _ (Nat.le_refl _)
  have hle:=Mu.eY (L:=L0) hnone
  have hRs:ek P N (Y0.side w2 ι (μ.set aC L0) r) ι (μ.set aC L0) ⟨(qd,.ptr aC 0)::(I x).env,⟨aC+1,(I x).H.bl⟩,(I x).ms⟩ a2 w2:=by
   refine ⟨fun t=>?_,hRa.sz,Q6.into DH,hRa.ms.mono hle⟩
   rw [bS]
   split
   ·rename_i e; subst e
    rw [acF]
    have:=Rel.ptr (ι:=ι) (μ:=μ.set aC L0) aC 0 L0 (by simp [Mu.set])
    exact this
   ·exact (hRa.env t).mono (au.le_refl _) hle
  have cu:=run_entry_at (P:=P) w2 r bm clock seen ms clock' en DH hm2 acG.1 (by rw [M.hbs];exact M.nd)
  have Q7:jM (Y0.side w2 ι (μ.set aC L0) r) out:=(UP.ab6 hout).up (Mu.le_trans M.rep.inv.m0 hle)
  have gR:(Y0.side w2 ι (μ.set aC L0) r).base (aC+1):=fun id hid=>Q6.nx id hid
  have hF:(Y0.side w2 ι (μ.set aC L0) r).F=Y.F:=UP.F
  rw [←hF]
  refine wpIn_mono (Q3 (Y:=Y0.side w2 ι (μ.set aC L0) r) (gD (aC+1)) Nw hbd Q7 gR hRs acF cu (hk.rel) (hv.rel) hwp) fun e3 a3 w3 hp=>?_
  obtain ⟨Y1,QJ,ι3,μ3,S3,ex,PS,hx3,Vw⟩:=hp
  have pJ:Inv P (Y0.side w2 ι (μ.set aC L0) r) ι3 μ3 S3.H w3:=QJ.inv PS.inv
  have VL:(μ.set aC L0).le μ3:=pJ.m0
  have agk:=(Array.getElem?_eq_some_iff.1 DH).1
  obtain ⟨Y2,hY2,Q8,-,-,-,Bt,-,Q9⟩:=QJ.lift (Yb:=Y0) (r:=r) (fun h=>Q6.af9 h) (fun b hb=>by
   rcases hb with hb|hb
   ·exact .inl (Nat.le_trans agi hb)
   ·exact hb.1) rfl (Mu.le_trans M.rep.inv.m0 hle) rfl ⟨agk,fun h=>by
    rcases h with h|h
    ·have : w2.heap.size ≤ r := h
     omega
    ·exact h.2 rfl⟩ M.own
  have hYt:=UP.trans hY2
  have Lb:Inv P Y2 ι3 μ3 S3.H w3:=Q8 PS.inv
  have hms3:iR Y2.hid μ3 S3.ms a3.defers:=by rw [Bt];exact PS.ms
  cases q with
  |inr b =>
   obtain ⟨hne3,hex,π3,Lf⟩:=Vw
   obtain ⟨res,hr,hK⟩:=La _ (.refl _)
   have hres:res = .inr b:=by
    rcases Ec hr with ⟨y,hy⟩|⟨b',hb,h⟩
    ·rw [hq] at hy;cases hy
    ·rw [hq] at hb;cases hb;exact h
   subst hres
   have hRb:=Lf.rep (hYt.tS hbase) (⟨PS.env,PS.sz,Lb,hms3⟩:ek P N Y2 ι3 μ3 S3 a3 w3)
   subst hex
   simp only at hK
   generalize hxb:(X b).1=xb at hK hx3 hne3
   cases xb with
   |normal=>exact absurd rfl hne3
   |exit i' =>
    cases hx3
    refine ⟨Y2,hYt,ι3,_,_,.exit i',hRb,rfl,?_⟩
    simp only [Ed] at hK
    split at hK
    ·rename_i hb;simp only [hb];exact hK
    ·rename_i hb;simp only [hb];exact hK
   |ret=>cases hx3;exact ⟨Y2,hYt,ι3,_,_,.ret,hRb,rfl,hK⟩
  |inl y =>
   obtain ⟨rfl,hit3,hmn3,BJ,π3,Lf⟩:=Vw
   cases hx3
   have hRf:ek P N Y2 ι3 μ3 ⟨dQ (qd::[n,ok]) S3.env,S3.H,S3.ms⟩ a3 w3:=⟨PS.env.forget _,PS.sz,Lb,hms3⟩
   have hRy:=Lf.rep (hYt.tS hbase) hRf
   have hbm3 : w3.heap[bm]? = some (.map ms clock') ∨ ∃ ms3 ck3, w3.heap[bm]? = some (.map ms3 ck3) := .inr (by
    obtain ⟨L3,ms3,ck3,es3,y1,y2,y3,_⟩:=Lb.live id _ (dM BJ)
    rw [VL _ _ (hle _ _ hL)] at y1;cases y1
    exact ⟨ms3,ck3,by rw [←hLb];exact y3⟩)
   obtain ⟨L3,ms3,ck3,es3,y1,y2,y3,y4,y5,y6,y7,_⟩:=Lb.live id _ (dM BJ)
   rw [VL _ _ (hle _ _ hL)] at y1;cases y1
   rw [hLb] at y3
   have agp:bm<w2.heap.size:=(Array.getElem?_eq_some_iff.1 hm2).1
   have hgrow:=pJ.below.maps bm agp ms clock' hm2
   obtain ⟨ms4,ck4,g1,g2,g3⟩:=hgrow
   rw [y3] at g1;cases g1
   have hbk:(ms3.toList.map fun m=>(m.born,m.key))=ms.toList.map fun m=>(m.born,m.key):=by
    refine (g2.eq_of_length ?_).symm
    have h1:=ue.live id _ (dM qe)
    have h2:ms.toList.length=bs.length:=by rw [←M.hbs,List.length_map]
    rw [List.length_map,List.length_map,eD.length y4,y7.length_eq,←hp0.length_eq,hlen,h2]
   have wm:ms3.toList.map (·.born)=bs:=by
    have:=congrArg (List.map Prod.fst) hbk
    rw [←M.hbs];simpa [List.map_map,Function.comp_def] using this
   have hkeys:ms3.toList.map (·.key)=kz:=by
    have:=congrArg (List.map Prod.snd) hbk
    rw [←M.hkz];simpa [List.map_map,Function.comp_def] using this
   refine ⟨⟨todo.erase i,y⟩,⟨⟨Y2,hYt,ι3,_,seen.push en.born,clock',ms3,ck3,hRy,?_,Q9,?_,M.ck,Nat.le_trans M.ck g3,y3,wm,hkeys,fun i e z he hz=>(M.hke i e z he hz).mono (fun b o x hx=>pJ.i0 b o x hx),M.old,M.nd,M.len,M.td.erase i,fun j=>?_,?_⟩,fun J hJ=>?_⟩,?_⟩
   ·have := PS.env qd
    rw [hit3] at this
    generalize a3.tmps.getD qd undef=tv at this ⊢
    cases this with
    |ptr _ _ L4 h4 =>
     rw [VL aC L0 (by simp [Mu.set])] at h4
     cases h4
     rfl
   ·have := pJ.below.block r (Array.getElem?_eq_some_iff.1 DH).1 (fun h => h.2 rfl)
    rw [this];exact DH
   ·rw [List.Nodup.mem_erase_iff M.td, M.left j]
    simp only [Array.toList_push,List.mem_append,List.mem_singleton]
    constructor
    ·rintro ⟨hj, b, hb, hs⟩
     refine ⟨b,hb,fun h=>?_⟩
     rcases h with h|h
     ·exact hs h
     ·subst h
      exact hj ((List.getElem?_inj (List.getElem?_eq_some_iff.1 hb).1 M.nd).1 (hb.trans hbi.symm))
    ·rintro ⟨b, hb, hs⟩
     refine ⟨fun e=>?_,b,hb,fun h=>hs (.inl h)⟩
     subst e
     rw [hbi] at hb;cases hb
     exact hs (.inr rfl)
   ·exact fun yR h2=>K9 Lf hmn3 BJ (VL _ _ (hle _ _ hL)) hLb yR h2
   ·obtain ⟨res, h, hK⟩ := La J hJ
    simp only [zm,hq] at h
    exact ⟨res,h,hK⟩
   ·rw [List.length_erase_of_mem Iq]
    have:=List.length_pos_of_mem Iq
    show todo.length - 1<todo.length
    omega
end
end Go.AM
end
section
namespace Go.AM
structure Kz (R:Type) where
 br:Bool→R→R→R
 am:R→R→R
 nd:Bool→R→R
 no:R
 bd:{A:Type}→Option A→(A→R)→R
 sm:{A B:Type}→A ⊕ B→(A→R)→(B→R)→R
 an:{E:Type}→List E→(List E→R)→R
noncomputable def need {X:Type} (c:Bool) (x:Option X):Option X:=@ite _ (c=true) (Classical.propDecidable _) x none
noncomputable def vc {X:Type} (c:Bool) (x y:Option X):Option X:=@ite _ (c=true) (Classical.propDecidable _) x y
noncomputable def Ef {X:Type} (x y:Option X):Option X:=@ite _ (x=y) (Classical.propDecidable _) x none
noncomputable def gK {A X:Type} (o:Option A) (f:A→Option X):Option X:=@dite _ (∃a,o=some a) (Classical.propDecidable _) (fun h=>f h.choose) (fun _=>none)
@[reducible] noncomputable def iN (X:Type):Kz (Option X) where
 br c a b:=vc c a b
 am a b:=Ef a b
 nd c a:=need c a
 no:=none
 bd o f:=gK o f
 sm s f g:=match s with
  | .inl a=>f a
  | .inr b=>g b
 an es f:=gQ f es
theorem Nz {X:Type} {x y:Option X} {r:X} (h:Ef x y=some r):x=some r∧y=some r:=by
 unfold Ef at h
 split at h
 ·rename_i e;exact ⟨h,e▸h⟩
 ·cases h
@[simp] theorem Aq {X:Type} {x:Option X}:Ef x x=x:=by unfold Ef;rw [if_pos rfl]
theorem fQ {X:Type} {c:Bool} {x:Option X} (h:c=true):need c x=x:=by unfold need;rw [if_pos h]
@[simp] theorem aA {X:Type} {x:Option X}:need true x=x:=fQ rfl
@[simp] theorem acH {X:Type} {x:Option X}:need false x=none:=by unfold need;rw [if_neg (by simp)]
@[simp] theorem aP {X:Type} {x y:Option X}:vc true x y=x:=by unfold vc;rw [if_pos rfl]
@[simp] theorem bV {X:Type} {x y:Option X}:vc false x y=y:=by unfold vc;rw [if_neg (by simp)]
@[simp] theorem aD {A X:Type} {a:A} {f:A→Option X}:gK (some a) f=f a:=by
 have h:∃b,some a=some b:=⟨a,rfl⟩
 unfold gK;rw [dif_pos h]
 have:=h.choose_spec
 rw [←Option.some.inj this]
@[simp] theorem ajx {A X:Type} {f:A→Option X}:gK none f=none:=by
 unfold gK;rw [dif_neg];rintro ⟨a,h⟩;cases h
theorem cT {X:Type} {c:Bool} {x:Option X} {r:X} (h:need c x=some r):c=true∧x=some r:=by
 cases c<;>simp at h ⊢;exact h
theorem qf {A X:Type} {o:Option A} {f:A→Option X} {r:X} (h:gK o f=some r):∃a,o=some a∧f a=some r:=by
 cases o<;>simp at h ⊢;exact h
theorem oP {X A:Type} {o:Option A} {f:A→Option X} {r:X} (h:(iN X).bd o f=some r):∃a,o=some a∧f a=some r:=qf h
theorem gT {X:Type} {c:Bool} {x y:Option X} {r:X} (h:vc c x y=some r):(c=true∧x=some r)∨(c=false∧y=some r):=by
 cases c<;>simp at h ⊢<;>exact h
section
variable {R:Type}
def fV (v:V) (k:V→R):R:=match v with
 | .any=>k .any
 | .tf b=>match b with
  |true=>k (.tf true)
  |false=>k (.tf false)
 | .bool b=>k (.bool b)
 | .int ik n=>k (.int ik n)
 | .str s=>k (.str s)
 | .b7=>k .b7
 | .cz=>k .cz
 | .eO=>k .eO
 | .ez t xs=>k (.ez t xs)
 | .bG=>k .bG
 | .sl id t lo n=>k (.sl id t lo n)
 | .ptr id off=>k (.ptr id off)
 | .eS cs=>k (.eS cs)
 | .ep id t i p=>k (.ep id t i p)
 | .ip t x=>k (.ip t x)
 | .fn f a b=>k (.fn f a b)
 | .yl id=>k (.yl id)
 | .agg cs=>k (.agg cs)
 | .bX vs=>k (.bX vs)
 | .bZ t v=>k (.bZ t v)
 | .cb c=>k (.cb c)
 | .mp id=>k (.mp id)
 | .aO=>k .aO
 | .pa id t n=>k (.pa id t n)
 | .kC t xs=>k (.kC t xs)
 | .sp id o l=>k (.sp id o l)
theorem mT (v:V) (k:V→R):fV v k=k v:=by
 cases v<;>try rfl
 rename_i b;cases b<;>rfl
def fN (n:Nat) (k:Nat→R):R:=match n with
 |0=>k 0
 |n+1=>k (n+1)
theorem fu (n:Nat) (k:Nat→R):fN n k=k n:=by cases n<;>rfl
def uG (d:Option Nat) (v:V) (env:Env) (k:Env→R):R:=match d with
 |some t=>k ((t,v)::env)
 |none=>k env
theorem kL (d:Option Nat) (v:V) (env:Env) (k:Env→R):uG d v env k=k (put d v env):=by cases d<;>rfl
def pK (id : Nat) : aq → (aq → R) → R
 |[],k=>k []
 |(s,b)::r,k=>match Nat.beq s id with
  |true=>pK id r k
  |false=>pK id r fun r'=>k ((s,b)::r')
theorem jS (id : Nat) : ∀ (bl : aq) (k : aq → R), pK id bl k = k (aZ id bl)
 |[],k=>rfl
 |(s,b)::r,k=>by
  simp only [pK,aZ]
  split<;>rename_i h<;>simp only [h]<;>exact jS id r _
def gE : dZ → aq → (aq → R) → R
 |[],bl,k=>k bl
 |(id,none)::r,bl,k=>pK id bl fun bl=>gE r bl k
 |(id,some b)::r,bl,k=>pK id bl fun bl=>gE r ((id,b)::bl) k
theorem fB : ∀ (u : dZ) (bl : aq) (k : aq → R), gE u bl k = k (bn u bl)
 |[],_,_=>rfl
 |(id,none)::r,bl,k=>by simp only [gE,jS,bn];exact fB r _ k
 |(id,some b)::r,bl,k=>by simp only [gE,jS,bn];exact fB r _ k
def rj (kz : Kz R) : List Bool → R → R
 |[],k=>k
 |b::r,k=>kz.nd b (rj kz r k)
structure Cx where
 pc:{R:Type}→Kz R→Nat→List V→(V→R)→R
 ca:{R:Type}→Kz R→Nat→List V→Nat→aq→(V→Nat→aq→R)→R
 rd:{R:Type}→Kz R→Nat→List V→Nat→aq→(V→Nat→aq→R)→R
 op:Nat:=0
structure Cx.Ok (P:Program) (cx:Cx):Prop where
 pok:∀{X:Type} {f:Nat} {vs:List V} {K:V→Option X} {r:X},cx.pc (iN X) f vs K=some r→∃v,gx P f vs v∧K v=some r
 VM:∀{X:Type} {f:Nat} {vs:List V} {nx:Nat} {bl:aq} {K:V→Nat→aq→Option X} {r:X},cx.ca (iN X) f vs nx bl K=some r →
  ∀{Q:V→aH→Prop},(∀v nx bl,K v nx bl=some r→Q v ⟨nx,bl⟩)→gA P f vs ⟨nx,bl⟩ Q
 rok:∀{X:Type} {id:Nat} {vs:List V} {nx:Nat} {bl:aq} {K:V→Nat→aq→Option X} {r:X},cx.rd (iN X) id vs nx bl K=some r →
  ∀{Q:V→aH→Prop},(∀v nx bl,K v nx bl=some r→Q v ⟨nx,bl⟩)→around P id vs ⟨nx,bl⟩ Q
def Cx.l6 (cx:Cx) (n:Nat):Cx:={ cx with op:=n }
def BK (kz:Kz R) (g:Option (Nat×Bool)) (env:Env) (skip run:Env→R):R:=match g with
 |none=>run env
 |some (s,b)=>match get s env with
  | .tf c=>match c,b with
   |true,true=>run env
   |false,false=>run env
   |true,false=>skip env
   |false,true=>skip env
  | .bool c => kz.br c
   (match b with
    |true=>run ((s,.tf true)::env)
    |false=>skip ((s,.tf true)::env))
   (match b with
    |false=>run ((s,.tf false)::env)
    |true=>skip ((s,.tf false)::env))
  | .bX _=>skip env
  |_=>kz.no
def clK (kz:Kz R) (op:Nat) (ar:Ar) (bl:aq) (k:aq→R):R:=match op with
 |0=>k bl
 |n+1=>match (match n with
   |0=>P7 bl
   |_+1=>A8 bl) with
  |[]=>k bl
  |ids=>match PO ar ids bl with
   |some u=>gE u bl k
   |none=>kz.no
def dmOp : Nat → Nat
 |0=>0
 |_+1=>1
def kI (kz : Kz R) (cx : Cx) (ar : Ar) : List eC → Env → Nat → aq → (Env → Nat → aq → R) → R
 |[],env,nx,bl,K=>K env nx bl
 | .op d g i::r,env,nx,bl,K=>BK kz g env (fun env=>uG d (.bX []) env fun env=>kI kz cx ar r env nx bl K) fun env =>
   match cx.op with
   |0=>(match evF ar i env bl nx with
    |some (ob,v,u)=>rj kz ob (fV v fun v=>uG d v env fun env=>match i.lays with
     |true=>fN (nx+1) fun nx=>gE u bl fun bl=>kI kz cx ar r env nx bl K
     |false=>gE u bl fun bl=>kI kz cx ar r env nx bl K)
    |none=>kz.no)
   |_+1=>match yZ ar i env bl nx with
    |some (ob,v,u)=>rj kz ob (fV v fun v=>uG d v env fun env=>match i.lays with
     |true=>fN (nx+1) fun nx=>gE u bl fun bl=>kI kz cx ar r env nx bl K
     |false=>gE u bl fun bl=>kI kz cx ar r env nx bl K)
    |none=>match evF ar i env bl nx with
     |some (ob,v,u)=>rj kz ob (fV v fun v=>uG d v env fun env=>match i.lays with
      |true=>fN (nx+1) fun nx=>gE u bl fun bl=>kI kz cx ar r env nx bl K
      |false=>gE u bl fun bl=>kI kz cx ar r env nx bl K)
     |none=>clK kz 1 ar bl fun bl=>match evF ar i env bl nx with
      |some (ob,v,u)=>rj kz ob (fV v fun v=>uG d v env fun env=>match i.lays with
       |true=>fN (nx+1) fun nx=>gE u bl fun bl=>kI kz cx ar r env nx bl K
       |false=>gE u bl fun bl=>kI kz cx ar r env nx bl K)
      |none=>kz.no
 | .call d g f a tys::r,env,nx,bl,K=>BK kz g env (fun env=>uG d (.bX []) env fun env=>kI kz cx ar r env nx bl K) fun env=>clK kz (dmOp cx.op) ar bl fun bl =>
   match f.ev env with
   | .fn f fs cs=>cx.ca kz f (fs++cG tys (a.map (·.ev env))++cs) nx bl fun v nx bl=>fV v fun v=>uG d v env fun env=>kI kz cx ar r env nx bl K
   | .yl id=>cx.rd kz id (cG tys (a.map (·.ev env))) nx bl fun v nx bl=>fV v fun v=>uG d v env fun env=>kI kz cx ar r env nx bl K
   |_=>kz.no
def As (kz:Kz R) (gs:List Nat) (d:Option Nat) (v:V) (env:Env) (K:Env→R):R:=match d with
 |none=>K env
 |some t=>match Be t gs with
  |false=>K ((t,v)::env)
  |true=>match v with
   | .bool c=>kz.br c (K ((t,.tf true)::env)) (K ((t,.tf false)::env))
   |v=>K ((t,v)::env)
def UQ (kz : Kz R) (cx : Cx) (ar : Ar) (gs : List Nat) (b : Nat) : List eC → Nat → Env → aq → List DR → (Env → aq → List DR → R) → R
 |[],_,env,bl,cR,K=>K env bl cR
 | .op d g i::r,k,env,bl,cR,K=>match KK g env with
  |some true=>match (match cx.op with
    |0=>none
    |_+1=>yZ ar i env bl (b+k)) with
   |some (ob,v,u)=>rj kz ob (fV v fun v=>As kz gs d v env fun env'=>gE u bl fun bl=>UQ kz cx ar gs b r (k+1) env' bl (vP k (mc i env) (u.map (·.1)) cR) K)
   |none=>match evF ar i env bl (b+k) with
    |some (ob,v,u)=>rj kz ob (fV v fun v=>As kz gs d v env fun env'=>gE u bl fun bl=>UQ kz cx ar gs b r (k+1) env' bl (vP k (mc i env) (u.map (·.1)) cR) K)
    |none=>kz.no
  |some false=>uG d (.bX []) env fun env=>UQ kz cx ar gs b r (k+1) env bl cR K
  |none=>kz.no
 | .call d g f a tys::r,k,env,bl,cR,K=>match KK g env with
  |some true=>match f.ev env with
   | .fn f fs cs=>match fs++cG tys (a.map (·.ev env))++cs with
    |vs=>match cV (fin ar bl 8) vs with
     |some vs'=>cx.pc kz f vs' fun x=>fV x fun x=>match Dz x||vs.all (dy 8) with
      |true=>As kz gs d x env fun env'=>UQ kz cx ar gs b r (k+1) env' bl (vP k (jc bl vs) [] cR) K
      |false=>match vQ (jc bl vs) bl with
       |some u=>As kz gs d x env fun env'=>gE u bl fun bE=>UQ kz cx ar gs b r (k+1) env' bE (vP k (jc bl vs) (u.map (·.1)) cR) K
       |none=>kz.no
     |none=>kz.no
   |_=>kz.no
  |some false=>uG d (.bX []) env fun env=>UQ kz cx ar gs b r (k+1) env bl cR K
  |none=>kz.no
end
abbrev Kc (R:Type):=Ex→Env→Nat→aq→List Nat→R
structure bL (P:Program) (N:Nat) (out:Option Nat) (base:Nat):Type 1 where
 c:C
 run:{R:Type}→Kz R→Env→Nat→aq→List Nat→Kc R→R
 ok:∀{X:Type} {env:Env} {nx:Nat} {bl:aq} {ms:List Nat} {K:Kc (Option X)} {r:X},run (iN X) env nx bl ms K=some r →
  ∀{Q:Ex→St→Prop},(∀e env nx bl ms,K e env nx bl ms=some r→Q e ⟨env,⟨nx,bl⟩,ms⟩)→(fF P N out base).loop c ⟨env,⟨nx,bl⟩,ms⟩ Q
structure eL (P:Program) (N:Nat) (out:Option Nat) (base:Nat):Type 1 where
 f:O
 ps:List Nat
 a:C
 b:C
 run:{R:Type}→Kz R→Env→Nat→aq→List Nat→Kc R→R
 ok:∀{X:Type} {env:Env} {nx:Nat} {bl:aq} {ms:List Nat} {K:Kc (Option X)} {r:X},run (iN X) env nx bl ms K=some r →
  ∀{Q:Ex→St→Prop},(∀e env nx bl ms,K e env nx bl ms=some r→Q e ⟨env,⟨nx,bl⟩,ms⟩)→(fF P N out base).bA f ps a b ⟨env,⟨nx,bl⟩,ms⟩ Q
structure o5 (P:Program) (N:Nat) (out:Option Nat) (base:Nat):Type 1 where
 pre:List eC
 m:O
 it:Nat
 cl:List Nat
 e:Option Nat
 kt:Ty
 kg:Bool
 vt:Ty
 vg:Bool
 pz:Nat
 b:C
 run:{R:Type}→Kz R→Env→Nat→aq→List Nat→Kc R→R
 ok:∀{X:Type} {env:Env} {nx:Nat} {bl:aq} {ms:List Nat} {K:Kc (Option X)} {r:X},run (iN X) env nx bl ms K=some r →
  ∀{Q:Ex→St→Prop},(∀e env nx bl ms,K e env nx bl ms=some r→Q e ⟨env,⟨nx,bl⟩,ms⟩)→(fF P N out base).gq (.gq pre m it cl e kt kg vt vg pz b) ⟨env,⟨nx,bl⟩,ms⟩ Q
structure Ir (P:Program) (N:Nat) (out:Option Nat) (base:Nat) (f:O) (ps:List Nat) (a b:C):Type 1 where
 run:{R:Type}→Kz R→Env→Nat→aq→List Nat→Kc R→R
 ok:∀{X:Type} {env:Env} {nx:Nat} {bl:aq} {ms:List Nat} {K:Kc (Option X)} {r:X},run (iN X) env nx bl ms K=some r →
  ∀{Q:Ex→St→Prop},(∀e env nx bl ms,K e env nx bl ms=some r→Q e ⟨env,⟨nx,bl⟩,ms⟩)→(fF P N out base).bA f ps a b ⟨env,⟨nx,bl⟩,ms⟩ Q
def Ir.s {P:Program} {N:Nat} {out:Option Nat} {base:Nat} {f:O} {ps:List Nat} {a b:C} (T:Ir P N out base f ps a b):eL P N out base:=⟨f,ps,a,b,T.run,T.ok⟩
inductive D (P:Program) (N:Nat) (out:Option Nat) (base:Nat):Type 1 where
 |skip
 |aN (items:List eC)
 |draw (cI:List (List Nat)) (items:List eC)
 |seq (a b:D P N out base)
 |cond (c:O) (a b:D P N out base)
 |block (id:Nat) (c:D P N out base)
 |loop (l:bL P N out base)
 |exit (id:Nat)
 |ret
 |bA (l:eL P N out base)
 |gq (l:o5 P N out base)
section
variable {P:Program} {N:Nat} {out:Option Nat} {base:Nat} {R:Type}
def D.er : D P N out base → C
 | .skip=>.skip
 | .aN is=>.aN is
 | .draw ps is=>.draw ps is
 | .seq a b=>.seq a.er b.er
 | .cond c a b=>.cond c a.er b.er
 | .block id c=>.block id c.er
 | .loop l=>.loop l.c
 | .exit id=>.exit id
 | .ret=>.ret
 | .bA l=>.bA l.f l.ps l.a l.b
 | .gq l=>.gq l.pre l.m l.it l.cl l.e l.kt l.kg l.vt l.vg l.pz l.b
def rwK (c:O) (b:Bool) (env:Env):Env:=match c with
 | .t n=>(n,.tf b)::env
 | .c _=>env
 | .m _ _=>env
def kE (kz : Kz R) (cx : Cx) (ar : Ar) : D P N out base → Env → Nat → aq → List Nat → Kc R → R
 | .skip,env,nx,bl,ms,K=>K .normal env nx bl ms
 | .aN is,env,nx,bl,ms,K=>kI kz cx ar is env nx bl fun env nx bl=>K .normal env nx bl ms
 | .draw ps is,env,nx,bl,ms,K=>UQ kz cx ar (vT is) nx is 0 env bl [] fun env bl cR=>match Qf ps cR with
  |true=>fN (nx+is.length) fun nx=>K .normal env nx bl ms
  |false=>kz.no
 | .seq a b,env,nx,bl,ms,K=>kE kz cx ar a env nx bl ms fun e env nx bl ms=>match e with
  | .normal=>kE kz cx ar b env nx bl ms K
  | .exit id=>K (.exit id) env nx bl ms
  | .ret=>K .ret env nx bl ms
 | .cond c a b,env,nx,bl,ms,K=>match c.ev env with
  | .tf true=>kE kz cx ar a env nx bl ms K
  | .tf false=>kE kz cx ar b env nx bl ms K
  | .bool x=>kz.br x (kE kz cx ar a (rwK c true env) nx bl ms K) (kE kz cx ar b (rwK c false env) nx bl ms K)
  | .cb x=>kz.br x (kz.am (kE kz cx ar a (rwK c true env) nx bl ms K) (kE kz cx ar b (rwK c false env) nx bl ms K)) (kE kz cx ar b (rwK c false env) nx bl ms K)
  |_=>kz.no
 | .block id c,env,nx,bl,ms,K=>kE kz cx ar c env nx bl ms fun e env nx bl ms=>match e with
  | .normal=>K .normal env nx bl ms
  | .exit id'=>match Nat.beq id' id with
   |true=>K .normal env nx bl ms
   |false=>K (.exit id') env nx bl ms
  | .ret=>K .ret env nx bl ms
 | .loop l,env,nx,bl,ms,K=>clK kz cx.op ar bl fun bl=>l.run kz env nx bl ms K
 | .exit id,env,nx,bl,ms,K=>K (.exit id) env nx bl ms
 | .ret,env,nx,bl,ms,K=>K .ret env nx bl ms
 | .bA l,env,nx,bl,ms,K=>clK kz cx.op ar bl fun bl=>l.run kz env nx bl ms K
 | .gq l,env,nx,bl,ms,K=>clK kz cx.op ar bl fun bl=>l.run kz env nx bl ms K
variable {X:Type} {cx:Cx}
theorem mF {ob:List Bool} {x:Option X} {r:X} (h:rj (iN X) ob x=some r):uB ob∧x=some r:=by
 induction ob with
 |nil=>exact ⟨trivial,h⟩
 |cons b l ih =>
  obtain ⟨h1,h2⟩:=cT h
  obtain ⟨h3,h4⟩:=ih h2
  cases l with
  |nil=>exact ⟨h1,h4⟩
  |cons c l=>exact ⟨⟨h1,h3⟩,h4⟩
theorem Au {g : Option (Nat × Bool)} {env : Env} {nx : Nat} {bl : aq} {ms : List Nat} {skip run : Env → Option X} {r : X} (h : BK (iN X) g env skip run = some r) {d : Option Nat} {K run' : St → Prop}
  (hs:∀env,skip env=some r→K ⟨put d (.bX []) env,⟨nx,bl⟩,ms⟩) (hr:∀env,run env=some r→run' ⟨env,⟨nx,bl⟩,ms⟩):oH g d ⟨env,⟨nx,bl⟩,ms⟩ K run':=by
 unfold BK at h
 unfold oH
 split at h
 ·exact hr _ h
 ·rename_i s b
  simp only
  split at h
  ·rename_i c hc
   rw [hc]
   cases c<;>cases b<;>simp only at h ⊢
   ·exact hr _ h
   ·exact hs _ h
   ·exact hs _ h
   ·exact hr _ h
  ·rename_i c hc
   rw [hc]
   rcases gT h with ⟨e,h⟩|⟨e,h⟩
   ·refine ⟨fun _ => ?_, fun e' => by rw [e] at e'; cases e'⟩
    cases b<;>simp only at h ⊢
    ·exact hs _ h
    ·exact hr _ h
   ·refine ⟨fun e' => (by rw [e] at e'; cases e'), fun _ => ?_⟩
    cases b<;>simp only at h ⊢
    ·exact hr _ h
    ·exact hs _ h
  ·rename_i hc
   rw [hc]
   exact hs _ h
  ·cases h
theorem Ra {op:Nat} {bl:aq} {k:aq→Option X} {r:X} (h:clK (iN X) op dN bl k=some r):k bl=some r∨∃ids u,PO (fF P N out base) ids bl=some u∧k (bn u bl)=some r:=by
 unfold clK at h
 split at h
 ·exact .inl h
 ·split at h
  ·exact .inl h
  ·split at h <;> try (cases h; done)
   rename_i u hu
   rw [fB] at h
   exact .inr ⟨_,u,by unfold fF;rw [QN];exact hu,h⟩
theorem BL {op:Nat} {env:Env} {nx:Nat} {bl:aq} {ms:List Nat} {k:aq→Option X} {r:X} (h:clK (iN X) op dN bl k=some r) {K:St→Prop} (hK:∀bl,k bl=some r→K ⟨env,⟨nx,bl⟩,ms⟩):P8 (fF P N out base) ⟨env,⟨nx,bl⟩,ms⟩ K:=by
 rcases Ra (P:=P) (N:=N) (out:=out) (base:=base) h with h|⟨ids,u,hu,h⟩
 ·exact .inl (hK _ h)
 ·exact .inr ⟨ids,u,hu,hK _ h⟩
theorem nS (fR:cx.Ok P):∀{is:List eC} {env:Env} {nx:Nat} {bl:aq} {ms:List Nat} {K:Env→Nat→aq→Option X} {r:X} {Q:St→Prop},kI (iN X) cx dN is env nx bl K=some r →
  (∀env nx bl,K env nx bl=some r→Q ⟨env,⟨nx,bl⟩,ms⟩)→eW (fF P N out base) is ⟨env,⟨nx,bl⟩,ms⟩ Q
 |[],env,nx,bl,ms,K,r,Q,h,hK=>hK _ _ _ h
 | .op d g i::is,env,nx,bl,ms,K,r,Q,h,hK=>by
  simp only [kI] at h
  simp only [eW]
  have body:∀{env:Env} {bl:aq} {ob:List Bool} {v:V} {u:dZ},evF dN i env bl nx=some (ob,v,u) →
    rj (iN X) ob (fV v fun v=>uG d v env fun env=>match i.lays with
     |true=>fN (nx+1) fun nx=>gE u bl fun bl=>kI (iN X) cx dN is env nx bl K
     |false=>gE u bl fun bl=>kI (iN X) cx dN is env nx bl K)=some r →
    bT (fF P N out base) i env bl nx=some (ob,v,u)∧uB ob∧eW (fF P N out base) is ⟨put d v env,⟨PR i.lays nx,bn u bl⟩,ms⟩ Q:=by
   intro env bl ob v u aj h
   obtain ⟨cL,h⟩:=mF h
   rw [mT,kL] at h
   rw [QW] at aj
   refine ⟨by unfold fF;rw [QL];exact aj,cL,?_⟩
   split at h
   ·rename_i hl
    rw [fu,fB] at h
    simp only [hl,PR]
    exact nS fR h hK
   ·rename_i hl
    rw [fB] at h
    simp only [hl,PR]
    exact nS fR h hK
  refine Au h (fun env h=>?_) (fun env h=>?_)
  ·rw [kL] at h;exact nS fR h hK
  ·split at h
   ·split at h
    ·rename_i ob v u aj
     obtain ⟨h1,h2,h3⟩:=body aj h
     exact BF h1 h2 h3
    ·cases h
   ·split at h
    ·rename_i ob v u aj
     obtain ⟨cL,h⟩:=mF h
     rw [mT,kL] at h
     refine acs (by unfold fF;rw [QM];exact aj) cL ?_
     split at h
     ·rename_i hl
      rw [fu,fB] at h
      simp only [hl,PR]
      exact nS fR h hK
     ·rename_i hl
      rw [fB] at h
      simp only [hl,PR]
      exact nS fR h hK
    ·split at h
     ·rename_i ob v u aj
      obtain ⟨h1,h2,h3⟩:=body aj h
      exact BF h1 h2 h3
     ·rcases Ra (P := P) (N := N) (out := out) (base := base) h with h | ⟨ids, u', hu, h⟩
      ·split at h
       ·rename_i ob v u aj
        obtain ⟨h1,h2,h3⟩:=body aj h
        exact BF h1 h2 h3
       ·cases h
      ·split at h
       ·rename_i ob v u aj
        obtain ⟨h1,h2,h3⟩:=body aj h
        exact acu hu h1 h2 h3
       ·cases h
 | .call d g f a tys::is,env,nx,bl,ms,K,r,Q,h,hK=>by
  simp only [kI] at h
  simp only [eW]
  refine Au h (fun env h=>?_) (fun env h=>?_)
  ·rw [kL] at h;exact nS fR h hK
  ·simp only [HO]
   refine BL h fun bl h=>?_
   simp only [uV]
   split at h
   ·rename_i f' fs cs hf
    rw [hf]
    refine fR.VM h fun v nx bl h=>?_
    rw [mT,kL] at h
    exact nS fR h hK
   ·rename_i id hf
    rw [hf]
    refine fR.rok h fun v nx bl h=>?_
    rw [mT,kL] at h
    exact nS fR h hK
   ·cases h
theorem rq {gs:List Nat} {d:Option Nat} {v:V} {env:Env} {K:Env→Option X} {r:X} (h:As (iN X) gs d v env K=some r) {K':Env→Prop} (hK:∀env,K env=some r→K' env):DA gs d v env K':=by
 unfold As at h
 unfold DA
 cases d with
 |none=>exact hK _ h
 |some t =>
  simp only at h ⊢
  split at h
  ·rename_i hm;rw [hm];exact hK _ h
  ·rename_i hm
   rw [hm]
   simp only
   split at h
   ·rename_i c
    simp only
    rcases gT h with ⟨e,h⟩|⟨e,h⟩
    ·exact ⟨fun _=>hK _ h,fun e'=>by rw [e] at e';cases e'⟩
    ·exact ⟨fun e'=>(by rw [e] at e';cases e'),fun _=>hK _ h⟩
   ·rename_i hv
    have:=hK _ h
    cases v<;>first|exact this|exact (hv _ rfl).elim
theorem qg (fR:cx.Ok P) {gs:List Nat} {b:Nat}:∀{is:List eC} {k:Nat} {env:Env} {bl:aq} {cR:List DR} {K:Env→aq→List DR→Option X} {r:X} {Q:Env→aq→List DR→Prop},
  UQ (iN X) cx dN gs b is k env bl cR K=some r→(∀env bl cR,K env bl cR=some r→Q env bl cR)→qN (fF P N out base) gs b is k env bl cR Q
 |[],k,env,bl,cR,K,r,Q,h,hK=>hK _ _ _ h
 | .op d g i::is,k,env,bl,cR,K,r,Q,h,hK=>by
  simp only [UQ] at h
  simp only [qN]
  split at h
  ·rename_i hg
   rw [hg]
   split at h
   ·rename_i ob v u aj
    obtain ⟨cL,h⟩:=mF h
    rw [mT] at h
    have acJ:yZ (fF P N out base) i env bl (b+k)=some (ob,v,u):=by
     unfold fF;rw [QM]
     split at aj
     ·cases aj
     ·exact aj
    refine .inr (zT acJ cL (rq h fun env h=>?_))
    rw [fB] at h
    exact qg fR h hK
   ·split at h
    ·rename_i ob v u aj
     obtain ⟨cL,h⟩:=mF h
     rw [mT] at h
     rw [QW] at aj
     have acJ:bT (fF P N out base) i env bl (b+k)=some (ob,v,u):=by unfold fF;rw [QL];exact aj
     refine .inl (zT acJ cL (rq h fun env h=>?_))
     rw [fB] at h
     exact qg fR h hK
    ·cases h
  ·rename_i hg
   rw [hg]
   rw [kL] at h
   exact qg fR h hK
  ·cases h
 | .call d g f a tys::is,k,env,bl,cR,K,r,Q,h,hK=>by
  simp only [UQ] at h
  simp only [qN]
  split at h
  ·rename_i hg
   rw [hg]
   split at h
   ·rename_i f' fs cs hf
    rw [hf]
    split at h
    ·rename_i vs' hm
     obtain ⟨v,hp,h⟩:=fR.pok h
     rw [mT] at h
     have e:cV (fin (fF P N out base) bl 8)=cV (fin dN bl 8):=funext fun vs=>mB (fun v=>by unfold fF;exact wM) vs
     simp only [e,hm]
     split at h
     ·rename_i hsc
      exact ⟨v,[],hp,by rw [hsc];rfl,rq h fun env h=>qg fR h hK⟩
     ·rename_i hsc
      split at h
      ·rename_i u hu
       exact ⟨v,u,hp,by rw [hsc];exact hu,rq h fun env h=>qg fR (by rw [fB] at h;exact h) hK⟩
      ·cases h
    ·cases h
   ·cases h
  ·rename_i hg
   rw [hg]
   rw [kL] at h
   exact qg fR h hK
  ·cases h
theorem kN (fR:cx.Ok P):∀{d:D P N out base} {env:Env} {nx:Nat} {bl:aq} {ms:List Nat} {K:Kc (Option X)} {r:X} {Q:Ex→St→Prop},kE (iN X) cx dN d env nx bl ms K=some r →
  (∀e env nx bl ms,K e env nx bl ms=some r→Q e ⟨env,⟨nx,bl⟩,ms⟩)→qO (fF P N out base) d.er ⟨env,⟨nx,bl⟩,ms⟩ Q:=by
 intro d
 induction d with
 |skip=>intro env nx bl ms K r Q h hK;exact hK _ _ _ _ _ h
 |aN is=>intro env nx bl ms K r Q h hK;exact nS fR h fun env nx bl h=>hK _ _ _ _ _ h
 |draw ps is =>
  intro env nx bl ms K r Q h hK
  refine qg fR h fun env bl cR h=>?_
  split at h
  ·rename_i hd
   rw [fu] at h
   exact ⟨hd,hK _ _ _ _ _ h⟩
  ·cases h
 |seq a b Is HB =>
  intro env nx bl ms K r Q h hK
  refine Is h fun e env nx bl ms h=>?_
  cases e with
  |normal=>exact HB h hK
  |exit id=>exact hK _ _ _ _ _ h
  |ret=>exact hK _ _ _ _ _ h
 |cond c a b Is HB =>
  intro env nx bl ms K r Q h hK
  simp only [kE] at h
  simp only [D.er,qO]
  have hrw:∀x env,U7 c x ⟨env,⟨nx,bl⟩,ms⟩=⟨rwK c x env,⟨nx,bl⟩,ms⟩:=fun x env=>by cases c<;>rfl
  split at h
  ·rename_i hc;rw [hc];exact Is h hK
  ·rename_i hc;rw [hc];exact HB h hK
  ·rename_i x hc
   rw [hc]
   rcases gT h with ⟨e,h⟩|⟨e,h⟩
   ·refine ⟨fun _ => ?_, fun e' => by rw [e] at e'; cases e'⟩
    rw [hrw];exact Is h hK
   ·refine ⟨fun e' => (by rw [e] at e'; cases e'), fun _ => ?_⟩
    rw [hrw];exact HB h hK
  ·rename_i x hc
   rw [hc]
   rcases gT h with ⟨e,h⟩|⟨e,h⟩
   ·obtain ⟨h1, h2⟩ := Nz h
    exact ⟨fun _=>by rw [hrw];exact Is h1 hK,by rw [hrw];exact HB h2 hK⟩
   ·exact ⟨fun e'=>(by rw [e] at e';cases e'),by rw [hrw];exact HB h hK⟩
  ·cases h
 |block id c ih =>
  intro env nx bl ms K r Q h hK
  refine ih h fun e env nx bl ms h=>?_
  cases e with
  |normal=>exact hK _ _ _ _ _ h
  |exit id' =>
   simp only at h ⊢
   split at h
   ·rename_i e;rw [e];exact hK _ _ _ _ _ h
   ·rename_i e;rw [e];exact hK _ _ _ _ _ h
  |ret=>exact hK _ _ _ _ _ h
 |loop l=>intro env nx bl ms K r Q h hK;exact BL h fun bl h=>l.ok h hK
 |exit id=>intro env nx bl ms K r Q h hK;exact hK _ _ _ _ _ h
 |ret=>intro env nx bl ms K r Q h hK;exact hK _ _ _ _ _ h
 |bA l=>intro env nx bl ms K r Q h hK;exact BL h fun bl h=>l.ok h hK
 |gq l=>intro env nx bl ms K r Q h hK;exact BL h fun bl h=>l.ok h hK
end
end Go.AM
end
section
namespace Go.AM
inductive CP where
 |any
 |tf (b:Bool)
 |b7
 |cz
 |eO
 |bG
 |hole (t:Ty)
 |cB (b:Nat) (t:Ty)
 |PU (b:Nat) (t:Ty)
 |ptr (b off:Nat)
 |yl (b:Nat)
 |eS (t:Ty)
 |fn0 (f:Nat)
 |NA (l:CP)
 |NB (l:CP)
 |fn (f:Nat) (a b:CP)
 |ru (t:Nat) (g:Bool) (l:CP)
 |mp (b:Nat)
 |aO
 |pa (b:Nat) (t:Ty) (n:Nat)
 |kC (t:Ty)
 |nil
 |cons (c l:CP)
inductive SP where
 |c (c:CP)
 |agg (cs:List CP)
 |bX (cs:List CP)
 |fn (f:Nat) (a b:List CP)
 |alt (a b:List CP)
def CP.T : CP → Type → Type
 | .hole t,A=>t.den×A
 | .cB _ _,A=>Nat×A
 | .PU _ _,A=>Nat×Nat×A
 | .eS t,A=>t.den×A
 | .kC t,A=>List t.den×A
 | .ru _ _ l,A=>l.T A
 | .mp _,A=>A
 | .aO,A=>A
 | .pa _ _ _,A=>A
 | .NA l,A=>l.T A
 | .NB l,A=>l.T A
 | .fn _ a b,A=>a.T (b.T A)
 | .cons c l,A=>c.T (l.T A)
 | .any,A=>A
 | .tf _,A=>A
 | .b7,A=>A
 | .cz,A=>A
 | .eO,A=>A
 | .bG,A=>A
 | .ptr _ _,A=>A
 | .yl _,A=>A
 | .fn0 _,A=>A
 | .nil,A=>A
def tyV : (t : Ty) → t.den → V
 | .unit,_=>.agg []
 | .bool,b=>.bool b
 | .str,s=>.str s
 | .int k,n=>.int k n
 | .list t,xs=>.ez t xs
 | .prod a b,x=>.agg (cm (.prod a b) x)
 | .bZ d g t,x=>.bZ d (cm.iu g (cm t x))
def CP.r : (c : CP) → {A : Type} → c.T A → A
 | .any,_,x=>x
 | .tf _,_,x=>x
 | .b7,_,x=>x
 | .cz,_,x=>x
 | .eO,_,x=>x
 | .bG,_,x=>x
 | .hole _,_,x=>x.2
 | .cB _ _,_,x=>x.2
 | .PU _ _,_,x=>x.2.2
 | .ptr _ _,_,x=>x
 | .yl _,_,x=>x
 | .eS _,_,x=>x.2
 | .kC _,_,x=>x.2
 | .ru _ _ l,_,x=>l.r x
 | .mp _,_,x=>x
 | .aO,_,x=>x
 | .pa _ _ _,_,x=>x
 | .fn0 _,_,x=>x
 | .NA l,_,x=>l.r x
 | .NB l,_,x=>l.r x
 | .fn _ a b,_,x=>b.r (a.r x)
 | .nil,_,x=>x
 | .cons c l,_,x=>l.r (c.r x)
def CP.vs : (c : CP) → {A : Type} → c.T A → List V
 | .any,_,_=>[.any]
 | .tf b,_,_=>[.tf b]
 | .b7,_,_=>[.b7]
 | .cz,_,_=>[.cz]
 | .eO,_,_=>[.eO]
 | .bG,_,_=>[.bG]
 | .hole t,_,x=>[tyV t x.1]
 | .cB b t,_,x=>[.sl b t 0 x.1]
 | .PU b t,_,x=>[.sl b t x.1 x.2.1]
 | .ptr b off,_,_=>[.ptr b off]
 | .yl b,_,_=>[.yl b]
 | .eS t,_,x=>[.eS (cm t x.1)]
 | .fn0 f,_,_=>[.fn f [] []]
 | .NA l,_,x=>[.eS (l.vs x)]
 | .NB l,_,x=>[.agg (l.vs x)]
 | .ru t g l,_,x=>[.bZ t (cm.iu g (l.vs x))]
 | .mp b,_,_=>[.mp b]
 | .aO,_,_=>[.aO]
 | .pa b t n,_,_=>[.pa b t n]
 | .kC t,_,x=>[.kC t x.1]
 | .fn f a b,_,x=>[.fn f (a.vs x) (b.vs (a.r x))]
 | .nil,_,_=>[]
 | .cons c l,_,x=>c.vs x++l.vs (c.r x)
def Q2 : List V → V
 |v::_=>v
 |[]=>.any
def CP.v {A:Type} (c:CP) (x:c.T A):V:=Q2 (c.vs x)
def lK : List CP → Type → Type
 |[],A=>A
 |c::r,A=>c.T (lK r A)
def qh {A : Type} : (cs : List CP) → lK cs A → List V
 |[],_=>[]
 |c::r,x=>c.v x::qh r (c.r x)
def rz {A : Type} : (cs : List CP) → lK cs A → A
 |[],x=>x
 |c::r,x=>rz r (c.r x)
def SP.T : SP → Type → Type
 | .c q,A=>q.T A
 | .agg cs,A=>lK cs A
 | .bX cs,A=>lK cs A
 | .fn _ a b,A=>lK a (lK b A)
 | .alt a b,A=>lK a A ⊕ lK b A
def SP.v {A : Type} : (p : SP) → p.T A → V
 | .c q,x=>q.v x
 | .agg cs,x=>.agg (qh cs x)
 | .bX cs,x=>.bX (qh cs x)
 | .fn f a b,x=>.fn f (qh a x) (qh b (rz a x))
 | .alt a b,x=>match x with
  | .inl y=>.bX (qh a y)
  | .inr y=>.bX (qh b y)
def SP.r {A : Type} : (p : SP) → p.T A → A
 | .c q,x=>q.r x
 | .agg cs,x=>rz cs x
 | .bX cs,x=>rz cs x
 | .fn _ a b,x=>rz b (rz a x)
 | .alt a b,x=>match x with
  | .inl y=>rz a y
  | .inr y=>rz b y
def zq : List (Nat × SP) → Type → Type
 |[],A=>A
 |(_,p)::r,A=>p.T (zq r A)
def wW {A : Type} : (ps : List (Nat × SP)) → zq ps A → Env
 |[],_=>[]
 |(s,p)::r,x=>(s,p.v x)::wW r (p.r x)
def Rb {A : Type} : (ps : List (Nat × SP)) → zq ps A → A
 |[],x=>x
 |(_,p)::r,x=>Rb r (p.r x)
inductive BP where
 |arr (t:Ty) (fz:Bool)
 |cells (cs:List CP) (fz:Bool)
 |loop (st:pT) (j:Option Ex) (d:Nat) (env:List (Nat×SP)) (ps:List Nat) (as bd:C) (N:Nat)
 |ff
 |map (kt:Ty) (kg:Bool) (vt:Ty) (vg:Bool)
 |l6 (t:Ty) (i:Nat) (p:List Bool) (c:CP)
def BP.T : BP → Type → Type
 | .arr t _,A=>List t.den×A
 | .cells cs _,A=>lK cs A
 | .loop _ _ _ env _ _ _ _,A=>zq env A
 | .ff,A=>A
 | .map kt _ vt _,A=>List (kt.den×vt.den)×A
 | .l6 t _ _ c,A=>List t.den×c.T A
def BP.v {A : Type} : (p : BP) → p.T A → kA
 | .arr t fz,x=>.arr t x.1 fz
 | .cells cs fz,x=>.cells (qh cs x) fz
 | .loop st j d env ps as bd N,x=>.loop st j d (wW env x) ps as bd N
 | .ff,_=>.ff
 | .map kt kg vt vg,x=>.map kt kg vt vg x.1
 | .l6 t i p c,x=>.l6 t x.1 i p (c.v x.2)
def BP.r {A : Type} : (p : BP) → p.T A → A
 | .arr _ _,x=>x.2
 | .cells cs _,x=>rz cs x
 | .loop _ _ _ env _ _ _ _,x=>Rb env x
 | .ff,x=>x
 | .map _ _ _ _,x=>x.2
 | .l6 _ _ _ c,x=>c.r x.2
def VN : List (Nat × BP) → Type → Type
 |[],A=>A
 |(_,p)::r,A=>p.T (VN r A)
def UR {A : Type} : (ps : List (Nat × BP)) → VN ps A → aq
 |[],_=>[]
 |(s,p)::r,x=>(s,p.v x)::UR r (p.r x)
inductive Lc where
 |slot (s:Nat)
 |part (s k:Nat)
 |cell (b k:Nat)
 |old (i:Nat)
 |mark (j:Nat)
structure ah where
 env:List (Nat×SP)
 bl:List (Nat×BP)
 gu:List Lc
 ms:List Nat
def ah.T (p:ah):Type:=zq p.env (VN p.bl Unit)
def ah.E (p:ah) (x:p.T):Env:=wW p.env x
def ah.B (p:ah) (x:p.T):aq:=UR p.bl (Rb p.env x)
def ah.st (base:Nat) (p:ah) (x:p.T):St:=⟨p.E x,⟨base+p.gu.length,p.B x⟩,p.ms⟩
def uH : List Nat → Nat → Option Nat
 |[],_=>none
 |i::_,0=>some i
 |_::r,n+1=>uH r n
def lu : Bool → Bool → Bool
 |true,true=>true
 |false,false=>true
 |_,_=>false
def lM : (t t' : Ty) → Bool
 | .unit,.unit=>true
 | .bool,.bool=>true
 | .str,.str=>true
 | .int k,.int k'=>decide (k=k')
 | .list t,.list t'=>lM t t'
 | .prod a b,.prod a' b'=>match lM a a' with
  |true=>lM b b'
  |false=>false
 | .bZ d g a,.bZ d' g' a'=>match Nat.beq d d' with
  |true=>match lu g g' with
   |true=>lM a a'
   |false=>false
  |false=>false
 |_,_=>false
def zu (π:List Nat) (b i:Nat):Bool:=match uH π b with
 |some j=>Nat.beq j i
 |none=>false
def BM : (t : Ty) → V → Option t.den
 | .bool,.bool b=>some b
 | .bool,.tf b=>some b
 | .str,.str s=>some s
 | .int k,.int k' n=>match decide (k=k') with
  |true=>some n
  |false=>none
 | .list t,.ez t' xs=>jE t' t xs
 | .list _,.bG=>some []
 | .prod a b,.agg cs=>match aX dN [] (.prod a b) cs with
  |some (x,_,[])=>some x
  |_=>none
 | .bZ d g a,v=>match aX dN [] (.bZ d g a) [v] with
  |some (x,_,[])=>some x
  |_=>none
 |_,_=>none
def CP.rd1 {A:Type} (π:List Nat) (c:CP) (v:V):Option (A→c.T A) :=
 match c with
 | .any=>some fun a=>a
 | .tf b=>match v with
  | .tf b'=>match lu b b' with
   |true=>some fun a=>a
   |false=>none
  |_=>none
 | .b7=>match v with
  | .b7=>some fun a=>a
  |_=>none
 | .cz=>match v with
  | .cz=>some fun a=>a
  |_=>none
 | .eO=>match v with
  | .eO=>some fun a=>a
  |_=>none
 | .bG=>match v with
  | .bG=>some fun a=>a
  |_=>none
 | .hole t=>match BM t v with
  |some x=>some fun a=>(x,a)
  |none=>none
 | .cB b t=>match v with
  | .sl i t' lo n=>match zu π b i with
   |true=>match lM t' t with
    |true=>match Nat.beq lo 0 with
     |true=>some fun a=>(n,a)
     |false=>none
    |false=>none
   |false=>none
  | .bG=>some fun a=>((0:Nat),a)
  |_=>none
 | .PU b t=>match v with
  | .sl i t' lo n=>match zu π b i with
   |true=>match lM t' t with
    |true=>some fun a=>(lo,n,a)
    |false=>none
   |false=>none
  | .bG=>some fun a=>((0:Nat),(0:Nat),a)
  |_=>none
 | .ptr b off=>match v with
  | .ptr i o=>match zu π b i with
   |true=>match Nat.beq o off with
    |true=>some fun a=>a
    |false=>none
   |false=>none
  |_=>none
 | .yl b=>match v with
  | .yl i=>match zu π b i with
   |true=>some fun a=>a
   |false=>none
  |_=>none
 | .eS t=>match v with
  | .eS cs=>match aX dN [] t cs with
   |some (x,_,[])=>some fun a=>(x,a)
   |_=>none
  |_=>none
 | .mp b=>match v with
  | .mp i=>match zu π b i with
   |true=>some fun a=>a
   |false=>none
  |_=>none
 | .aO=>match v with
  | .aO=>some fun a=>a
  |_=>none
 | .pa b t n=>match v with
  | .pa i t' n'=>match zu π b i with
   |true=>match lM t' t with
    |true=>match Nat.beq n' n with
     |true=>some fun a=>a
     |false=>none
    |false=>none
   |false=>none
  |_=>none
 | .kC t=>match v with
  | .kC t' xs=>match jE t' t xs with
   |some ys=>some fun a=>(ys,a)
   |none=>none
  |_=>none
 | .fn0 f=>match v with
  | .fn f' [] []=>match Nat.beq f' f with
   |true=>some fun a=>a
   |false=>none
  |_=>none
 |_=>none
def CP.HC (π : List Nat) : (c : CP) → {A : Type} → List V → Option ((A → c.T A) × List V)
 | .nil,_,vs=>some (fun a=>a,vs)
 | .cons c l,A,vs=>match c.HC π (A:=l.T A) vs with
  |some (f,vs')=>match l.HC π (A:=A) vs' with
   |some (g,vs'')=>some (fun a=>f (g a),vs'')
   |none=>none
  |none=>none
 | .NA l,A,vs=>match vs with
  | .eS cs::r=>match l.HC π (A:=A) cs with
   |some (f,[])=>some (f,r)
   |_=>none
  |_=>none
 | .NB l,A,vs=>match vs with
  | .agg cs::r=>match l.HC π (A:=A) cs with
   |some (f,[])=>some (f,r)
   |_=>none
  |_=>none
 | .ru t g l,A,vs=>match vs with
  | .bZ t' v::r=>match Nat.beq t' t with
   |true=>match A6 g v with
    |some cs=>match l.HC π (A:=A) cs with
     |some (f,[])=>some (f,r)
     |_=>none
    |none=>none
   |false=>none
  |_=>none
 | .fn f a b,A,vs=>match vs with
  | .fn f' va vb::r=>match Nat.beq f' f with
   |true=>match a.HC π (A:=b.T A) va with
    |some (g,[])=>match b.HC π (A:=A) vb with
     |some (h,[])=>some (fun x=>g (h x),r)
     |_=>none
    |_=>none
   |false=>none
  |_=>none
 |c,_,vs=>match vs with
  |v::r=>match c.rd1 π v with
   |some f=>some (f,r)
   |none=>none
  |[]=>none
def CP.rd {A:Type} (π:List Nat) (c:CP) (v:V):Option (A→c.T A):=match c.HC π (A:=A) [v] with
 |some (f,[])=>some f
 |_=>none
def eV {A : Type} (π : List Nat) : (cs : List CP) → List V → Option (A → lK cs A)
 |[],[]=>some fun a=>a
 |c::r,v::vs=>match CP.rd (A:=lK r A) π c v with
  |some f=>match eV (A:=A) π r vs with
   |some g=>some fun a=>f (g a)
   |none=>none
  |none=>none
 |_,_=>none
def SP.rd {A:Type} (π:List Nat) (p:SP) (v:V):Option (A→p.T A) :=
 match p with
 | .c q=>q.rd π v
 | .agg cs=>match v with
  | .agg vs=>eV π cs vs
  |_=>none
 | .bX cs=>match v with
  | .bX vs=>eV π cs vs
  |_=>none
 | .fn f a b=>match v with
  | .fn f' va vb=>match Nat.beq f' f with
   |true=>match eV (A:=lK b A) π a va with
    |some g=>match eV (A:=A) π b vb with
     |some h=>some fun x=>g (h x)
     |none=>none
    |none=>none
   |false=>none
  |_=>none
 | .alt a b=>match v with
  | .bX vs=>match eV (A:=A) π a vs with
   |some f=>some fun x=>.inl (f x)
   |none=>match eV (A:=A) π b vs with
    |some f=>some fun x=>.inr (f x)
    |none=>none
  |_=>none
def SP.kv {R : Type} (kz : Kz R) : (p : SP) → p.T Unit → (V → R) → R
 | .alt a b,y,K=>kz.sm (A:=lK a Unit) (B:=lK b Unit) y (fun x=>K (.bX (qh a x))) (fun x=>K (.bX (qh b x)))
 | .c q,y,K=>K (SP.v (.c q) y)
 | .agg cs,y,K=>K (SP.v (.agg cs) y)
 | .bX cs,y,K=>K (SP.v (.bX cs) y)
 | .fn f a b,y,K=>K (SP.v (.fn f a b) y)
theorem SP.agr {X : Type} : ∀ (p : SP) (y : p.T Unit) (K : V → Option X), p.kv (iN X) y K = K (p.v y)
 | .alt _ _,.inl _,_=>rfl
 | .alt _ _,.inr _,_=>rfl
 | .c _,_,_=>rfl
 | .agg _,_,_=>rfl
 | .bX _,_,_=>rfl
 | .fn _ _ _,_,_=>rfl
def Av {A : Type} (π : List Nat) (env : Env) : (ps : List (Nat × SP)) → Option (A → zq ps A)
 |[]=>some fun a=>a
 |(s,p)::r=>match SP.rd (A:=zq r A) π p (get s env) with
  |some f=>match Av (A:=A) π env r with
   |some g=>some fun a=>f (g a)
   |none=>none
  |none=>none
mutual
def VO : V → V → Bool
 | .any,.any=>true
 | .tf a,.tf b=>lu a b
 | .bool a,.bool b=>lu a b
 | .int k n,.int k' m=>match decide (k=k') with
  |true=>decide (n=m)
  |false=>false
 | .b7,.b7=>true
 | .cz,.cz=>true
 | .eO,.eO=>true
 | .aO,.aO=>true
 | .bG,.bG=>true
 | .str s,.str s'=>decide (s=s')
 | .fn f a b,.fn f' a' b'=>match Nat.beq f f' with
  |true=>match pL a a' with
   |true=>pL b b'
   |false=>false
  |false=>false
 | .agg a,.agg b=>pL a b
 |_,_=>false
def pL : List V → List V → Bool
 |[],[]=>true
 |a::r,b::s=>match VO a b with
  |true=>pL r s
  |false=>false
 |_,_=>false
end
mutual
theorem Lg : ∀ {a b : V}, VO a b = true → a = b
 |a,b,h=>by
  cases a<;>cases b<;>simp only [VO,Bool.false_eq_true] at h<;>try rfl
  case tf.tf x y=>cases x<;>cases y<;>simp_all [lu]
  case bool.bool x y=>cases x<;>cases y<;>simp_all [lu]
  case int.int=>split at h<;>simp_all
  case str.str=>simp_all
  case fn.fn =>
   split at h<;>try (cases h;done)
   rename_i h1
   split at h<;>try (cases h;done)
   rename_i h2
   rw [Nat.eq_of_beq_eq_true h1,lN h2,lN h]
  case agg.agg=>rw [lN h]
theorem lN : ∀ {a b : List V}, pL a b = true → a = b
 |[],[],_=>rfl
 |a::r,b::s,h=>by
  simp only [pL] at h
  split at h<;>try (cases h;done)
  rename_i h1
  rw [Lg h1,lN h]
 |[],_::_,h=>by simp [pL] at h
 |_::_,[],h=>by simp [pL] at h
end
end Go.AM
end
section
namespace Go.AM
def an (a b:Bool):Bool:=match a with
 |true=>b
 |false=>false
theorem aQ {a b:Bool}:an a b=true↔a=true∧b=true:=by cases a<;>simp [an]
theorem dR {a b:Bool} (h:lu a b=true):a=b:=by cases a<;>cases b<;>simp_all [lu]
theorem kO:∀{t t':Ty},lM t t'=true→t=t':=by
 intro t
 induction t with
 |unit=>intro t' h;cases t'<;>simp [lM] at h ⊢
 |bool=>intro t' h;cases t'<;>simp [lM] at h ⊢
 |str=>intro t' h;cases t'<;>simp [lM] at h ⊢
 |int k=>intro t' h;cases t'<;>simp [lM] at h ⊢;exact h
 |list t ih=>intro t' h;cases t'<;>simp [lM] at h ⊢;exact ih h
 |prod a b Is HB =>
  intro t' h
  cases t'<;>simp only [lM,Bool.false_eq_true] at h
  split at h<;>try (cases h;done)
  rename_i h1
  rw [Is h1,HB h]
 |bZ d g a ih =>
  intro t' h
  cases t'<;>simp only [lM,Bool.false_eq_true] at h
  split at h<;>try (cases h;done)
  rename_i h1
  split at h<;>try (cases h;done)
  rename_i h2
  rw [Nat.eq_of_beq_eq_true h1,dR h2,ih h]
def Rc (a b:IntKind):Bool:=decide (a=b)
theorem Re {a b:IntKind} (h:Rc a b=true):a=b:=by simpa [Rc] using h
def Rf (a b:yV):Bool:=decide (a=b)
theorem Rg {a b:yV} (h:Rf a b=true):a=b:=by simpa [Rf] using h
def Rh : Kd → Kd → Bool
 | .b,.b=>true
 | .i,.i=>true
 | .s,.s=>true
 |_,_=>false
theorem Ri {x y:Kd} (h:Rh x y=true):x=y:=by cases x<;>cases y<;>simp_all [Rh]
def jT {α : Type} (f : α → α → Bool) : List α → List α → Bool
 |[],[]=>true
 |a::r,b::s=>match f a b with
  |true=>jT f r s
  |false=>false
 |_,_=>false
theorem eM {α : Type} {f : α → α → Bool} (hf : ∀ {a b}, f a b = true → a = b) : ∀ {a b : List α}, jT f a b = true → a = b
 |[],[],_=>rfl
 |a::r,b::s,h=>by
  simp only [jT] at h
  split at h<;>try (cases h;done)
  rename_i h1
  rw [hf h1,eM hf h]
 |[],_::_,h=>by simp [jT] at h
 |_::_,[],h=>by simp [jT] at h
def aas:=jT Rh
theorem Rj {a b:List Kd} (h:aas a b=true):a=b:=eM Ri h
def Rk:=jT lu
theorem Eg {a b:List Bool} (h:Rk a b=true):a=b:=eM dR h
def Eh:=jT Nat.beq
theorem rA {a b:List Nat} (h:Eh a b=true):a=b:=eM Nat.eq_of_beq_eq_true h
def Rl:=jT Eh
theorem NC {a b:List (List Nat)} (h:Rl a b=true):a=b:=eM rA h
def dA : O → O → Bool
 | .t n,.t m=>Nat.beq n m
 | .c v,.c u=>VO v u
 | .m n l,.m m k=>an (Nat.beq n m) (decide (l=k))
 |_,_=>false
theorem aT {a b:O} (h:dA a b=true):a=b:=by
 cases a<;>cases b<;>simp only [dA,Bool.false_eq_true] at h
 ·rw [Nat.eq_of_beq_eq_true h]
 ·rw [Lg h]
 ·rw [aQ] at h;rw [Nat.eq_of_beq_eq_true h.1,of_decide_eq_true h.2]
def wX:=jT dA
theorem lP {a b:List O} (h:wX a b=true):a=b:=eM aT h
def Ei : Option O → Option O → Bool
 |none,none=>true
 |some a,some b=>dA a b
 |_,_=>false
theorem wY {a b:Option O} (h:Ei a b=true):a=b:=by
 cases a<;>cases b<;>simp only [Ei,Bool.false_eq_true] at h
 ·rfl
 ·rw [aT h]
def acK : Nat × Nat × O → Nat × Nat × O → Bool
 |(a,b,x),(a',b',x')=>an (Nat.beq a a') (an (Nat.beq b b') (dA x x'))
theorem VP {p q:Nat×Nat×O} (h:acK p q=true):p=q:=by
 obtain ⟨a,b,c⟩:=p
 obtain ⟨a',b',c'⟩:=q
 simp only [acK,aQ] at h
 rw [Nat.eq_of_beq_eq_true h.1,Nat.eq_of_beq_eq_true h.2.1,aT h.2.2]
def aat:=jT acK
theorem Rm {a b:List (Nat×Nat×O)} (h:aat a b=true):a=b:=eM VP h
def fS : I → I → Bool
 | .mv x0,.mv y0=>dA x0 y0
 | .pick x0 x1 x2,.pick y0 y1 y2=>an (dA x0 y0) (an (dA x1 y1) (dA x2 y2))
 | .alloc x0,.alloc y0=>pL x0 y0
 | .box x0,.box y0=>dA x0 y0
 | .build x0 x1,.build y0 y1=>an (pL x0 y0) (aat x1 y1)
 | .dH x0 x1,.dH y0 y1=>an (lM x0 y0) (wX x1 y1)
 | .load x0 x1 x2,.load y0 y1 y2=>an (lu x0 y0) (an (Nat.beq x1 y1) (dA x2 y2))
 | .store x0 x1 x2,.store y0 y1 y2=>an (Nat.beq x0 y0) (an (dA x1 y1) (dA x2 y2))
 | .bin x0 x1 x2,.bin y0 y1 y2=>an (Rf x0 y0) (an (dA x1 y1) (dA x2 y2))
 | .UY x0 x1 x2,.UY y0 y1 y2=>an (lu x0 y0) (an (dA x1 y1) (dA x2 y2))
 | .eqs x0 x1 x2 x3,.eqs y0 y1 y2 y3=>an (lu x0 y0) (an (aas x1 y1) (an (dA x2 y2) (dA x3 y3)))
 | .neg x0,.neg y0=>dA x0 y0
 | .not x0,.not y0=>dA x0 y0
 | .conv x0 x1,.conv y0 y1=>an (Rc x0 y0) (dA x1 y1)
 | .jl x0 x1 x2,.jl y0 y1 y2=>an (Nat.beq x0 y0) (an (Rk x1 y1) (dA x2 y2))
 | .field x0 x1 x2 x3,.field y0 y1 y2 y3=>an (lu x0 y0) (an (Nat.beq x1 y1) (an (Nat.beq x2 y2) (dA x3 y3)))
 | .idx x0 x1 x2,.idx y0 y1 y2=>an (Nat.beq x0 y0) (an (dA x1 y1) (dA x2 y2))
 | .yW x0 x1 x2 x3,.yW y0 y1 y2 y3=>an (Nat.beq x0 y0) (an (Nat.beq x1 y1) (an (dA x2 y2) (dA x3 y3)))
 | .ext x0 x1,.ext y0 y1=>an (Nat.beq x0 y0) (dA x1 y1)
 | .len x0,.len y0=>dA x0 y0
 | .lens x0,.lens y0=>dA x0 y0
 | .yX x0,.yX y0=>Nat.beq x0 y0
 | .append x0 x1 x2,.append y0 y1 y2=>an (Nat.beq x0 y0) (an (dA x1 y1) (dA x2 y2))
 | .gY x0 x1,.gY y0 y1=>an (lM x0 y0) (dA x1 y1)
 | .A4 x0 x1 x2,.A4 y0 y1 y2=>an (Nat.beq x0 y0) (an (wX x1 y1) (wX x2 y2))
 | .slice x0 x1 x2 x3 x4,.slice y0 y1 y2 y3 y4=>an (Nat.beq x0 y0) (an (dA x1 y1) (an (Ei x2 y2) (an (Ei x3 y3) (Ei x4 y4))))
 | .k8 x0 x1 x2,.k8 y0 y1 y2=>an (lu x0 y0) (an (dA x1 y1) (wX x2 y2))
 | .ex x0 x1,.ex y0 y1=>an (decide (x0=y0)) (wX x1 y1)
 |_,_=>false
theorem VQ {a b:I} (h:fS a b=true):a=b:=by
 cases a<;>cases b<;>first|(simp only [fS,Bool.false_eq_true] at h;done)|skip
 case mv.mv=>simp only [fS,aQ] at h;rw [aT h]
 case pick.pick=>simp only [fS,aQ] at h;rw [aT h.1,aT h.2.1,aT h.2.2]
 case alloc.alloc=>simp only [fS,aQ] at h;rw [lN h]
 case box.box=>simp only [fS,aQ] at h;rw [aT h]
 case build.build=>simp only [fS,aQ] at h;rw [lN h.1,Rm h.2]
 case dH.dH=>simp only [fS,aQ] at h;rw [kO h.1,lP h.2]
 case load.load=>simp only [fS,aQ] at h;rw [dR h.1,Nat.eq_of_beq_eq_true h.2.1,aT h.2.2]
 case store.store=>simp only [fS,aQ] at h;rw [Nat.eq_of_beq_eq_true h.1,aT h.2.1,aT h.2.2]
 case bin.bin=>simp only [fS,aQ] at h;rw [Rg h.1,aT h.2.1,aT h.2.2]
 case UY.UY=>simp only [fS,aQ] at h;rw [dR h.1,aT h.2.1,aT h.2.2]
 case eqs.eqs=>simp only [fS,aQ] at h;rw [dR h.1,Rj h.2.1,aT h.2.2.1,aT h.2.2.2]
 case neg.neg=>simp only [fS,aQ] at h;rw [aT h]
 case not.not=>simp only [fS,aQ] at h;rw [aT h]
 case conv.conv=>simp only [fS,aQ] at h;rw [Re h.1,aT h.2]
 case jl.jl=>simp only [fS,aQ] at h;rw [Nat.eq_of_beq_eq_true h.1,Eg h.2.1,aT h.2.2]
 case field.field=>simp only [fS,aQ] at h;rw [dR h.1,Nat.eq_of_beq_eq_true h.2.1,Nat.eq_of_beq_eq_true h.2.2.1,aT h.2.2.2]
 case idx.idx=>simp only [fS,aQ] at h;rw [Nat.eq_of_beq_eq_true h.1,aT h.2.1,aT h.2.2]
 case yW.yW=>simp only [fS,aQ] at h;rw [Nat.eq_of_beq_eq_true h.1,Nat.eq_of_beq_eq_true h.2.1,aT h.2.2.1,aT h.2.2.2]
 case ext.ext=>simp only [fS,aQ] at h;rw [Nat.eq_of_beq_eq_true h.1,aT h.2]
 case len.len=>simp only [fS,aQ] at h;rw [aT h]
 case lens.lens=>simp only [fS,aQ] at h;rw [aT h]
 case yX.yX=>simp only [fS,aQ] at h;rw [Nat.eq_of_beq_eq_true h]
 case append.append=>simp only [fS,aQ] at h;rw [Nat.eq_of_beq_eq_true h.1,aT h.2.1,aT h.2.2]
 case gY.gY=>simp only [fS,aQ] at h;rw [kO h.1,aT h.2]
 case A4.A4=>simp only [fS,aQ] at h;rw [Nat.eq_of_beq_eq_true h.1,lP h.2.1,lP h.2.2]
 case slice.slice=>simp only [fS,aQ] at h;rw [Nat.eq_of_beq_eq_true h.1,aT h.2.1,wY h.2.2.1,wY h.2.2.2.1,wY h.2.2.2.2]
 case k8.k8=>simp only [fS,aQ] at h;rw [dR h.1,aT h.2.1,lP h.2.2]
 case ex.ex=>simp only [fS,aQ] at h;rw [of_decide_eq_true h.1,lP h.2]
def VR : Option (Nat × Bool) → Option (Nat × Bool) → Bool
 |none,none=>true
 |some (s,b),some (s',b')=>an (Nat.beq s s') (lu b b')
 |_,_=>false
theorem Lh {p q:Option (Nat×Bool)} (h:VR p q=true):p=q:=by
 rcases p with _|⟨a,b⟩<;>rcases q with _|⟨a',b'⟩<;>simp only [VR,Bool.false_eq_true,aQ] at h
 ·rfl
 ·rw [Nat.eq_of_beq_eq_true h.1,dR h.2]
def Ro : Option Nat → Option Nat → Bool
 |none,none=>true
 |some a,some b=>Nat.beq a b
 |_,_=>false
theorem BN {a b:Option Nat} (h:Ro a b=true):a=b:=by
 cases a<;>cases b<;>simp only [Ro,Bool.false_eq_true] at h
 ·rfl
 ·rw [Nat.eq_of_beq_eq_true h]
def Rp : Option Ty → Option Ty → Bool
 |none,none=>true
 |some a,some b=>lM a b
 |_,_=>false
theorem Rq {a b:Option Ty} (h:Rp a b=true):a=b:=by
 cases a<;>cases b<;>simp only [Rp,Bool.false_eq_true] at h
 ·rfl
 ·rw [kO h]
def wZ : eC → eC → Bool
 | .op d g i,.op d' g' i'=>an (Ro d d') (an (VR g g') (fS i i'))
 | .call d g f a t,.call d' g' f' a' t'=>an (Ro d d') (an (VR g g') (an (dA f f') (an (wX a a') (jT Rp t t'))))
 |_,_=>false
theorem th {a b:eC} (h:wZ a b=true):a=b:=by
 cases a<;>cases b<;>simp only [wZ,Bool.false_eq_true,aQ] at h
 ·rw [BN h.1,Lh h.2.1,VQ h.2.2]
 ·rw [BN h.1,Lh h.2.1,aT h.2.2.1,lP h.2.2.2.1,eM Rq h.2.2.2.2]
def iU : C → C → Bool
 | .skip,.skip=>true
 | .aN is,.aN is'=>jT wZ is is'
 | .draw ps is,.draw ps' is'=>an (Rl ps ps') (jT wZ is is')
 | .seq a b,.seq a' b'=>an (iU a a') (iU b b')
 | .cond c a b,.cond c' a' b'=>an (dA c c') (an (iU a a') (iU b b'))
 | .block id c,.block id' c'=>an (Nat.beq id id') (iU c c')
 | .loop c,.loop c'=>iU c c'
 | .exit id,.exit id'=>Nat.beq id id'
 | .ret,.ret=>true
 | .bA f ps a b,.bA f' ps' a' b'=>an (dA f f') (an (Eh ps ps') (an (iU a a') (iU b b')))
 | .gq p m i cl e kt kg vt vg d b,.gq p' m' i' cl' e' PM Z6 PN U2 d' b'=>an (jT wZ p p') (an (dA m m') (an (Nat.beq i i') (an (Eh cl cl') (an (Ro e e') (an (lM kt PM) (an (lu kg Z6) (an (lM vt PN) (an (lu vg U2) (an (Nat.beq d d') (iU b b'))))))))))
 |_,_=>false
theorem ve:∀{a b:C},iU a b=true→a=b:=by
 intro a
 induction a with
 |skip=>intro b h;cases b<;>simp [iU] at h ⊢
 |ret=>intro b h;cases b<;>simp [iU] at h ⊢
 |exit id=>intro b h;cases b<;>simp only [iU,Bool.false_eq_true] at h;rw [Nat.eq_of_beq_eq_true h]
 |aN is=>intro b h;cases b<;>simp only [iU,Bool.false_eq_true] at h;rw [eM th h]
 |draw ps is=>intro b h;cases b<;>simp only [iU,Bool.false_eq_true,aQ] at h;rw [NC h.1,eM th h.2]
 |seq a b Is HB=>intro b h;cases b<;>simp only [iU,Bool.false_eq_true,aQ] at h;rw [Is h.1,HB h.2]
 |cond c a b Is HB=>intro b h;cases b<;>simp only [iU,Bool.false_eq_true,aQ] at h;rw [aT h.1,Is h.2.1,HB h.2.2]
 |block id c ih=>intro b h;cases b<;>simp only [iU,Bool.false_eq_true,aQ] at h;rw [Nat.eq_of_beq_eq_true h.1,ih h.2]
 |loop c ih=>intro b h;cases b<;>simp only [iU,Bool.false_eq_true] at h;rw [ih h]
 |gq p m i cl e kt kg vt vg d b ih =>
  intro b h
  cases b<;>simp only [iU,Bool.false_eq_true,aQ] at h
  obtain ⟨h1,h2,h3,h4,h5,h6,h7,h8,h9,h11,h10⟩:=h
  rw [eM th h1,aT h2,Nat.eq_of_beq_eq_true h3,rA h4,BN h5,kO h6,dR h7,kO h8,dR h9,Nat.eq_of_beq_eq_true h11,ih h10]
 |bA f ps a b Is HB=>intro b h;cases b<;>simp only [iU,Bool.false_eq_true,aQ] at h;rw [aT h.1,rA h.2.1,Is h.2.2.1,HB h.2.2.2]
end Go.AM
end
section
namespace Go.AM
section
variable {π:List Nat}
theorem oQ : ∀ (π : List Nat) (b : Nat), uH π b = π[b]?
 |[],_=>by simp [uH]
 |i::r,0=>by simp [uH]
 |i::r,n+1=>by simp [uH,oQ r n]
theorem kP {b i:Nat} (h:zu π b i=true):π[b]?=some i:=by
 unfold zu at h
 split at h
 ·rename_i j e;rw [←oQ,e,Nat.eq_of_beq_eq_true h]
 ·cases h
theorem Dq.append {as bs cs ds:List V} (h:Dq π as bs) (h':Dq π cs ds):Dq π (as++cs) (bs++ds):=by
 induction as generalizing bs with
 |nil =>
  have:bs=[]:=List.eq_nil_of_length_eq_zero h.1.symm
  subst this;simpa using h'
 |cons a as ih =>
  cases bs with
  |nil=>exact absurd h.1 (by simp)
  |cons b bs=>exact .cons (h.2 0 a b rfl rfl) (ih ⟨by have:=h.1;simpa using this,fun i v u hv hu=>h.2 (i+1) v u (by simpa using hv) (by simpa using hu)⟩)
theorem Ej {t t':Ty} {xs:List t.den} {ys:List t'.den} (h:jE t t' xs=some ys):V.ez t' ys=V.ez t xs:=by
 obtain ⟨e,he⟩:=dI h
 subst e;subst he;rfl
theorem Ek {g:Bool} {v:V} {ds cs:List V} (h:A6 g v=some cs) (aj:Dq π ds cs):EV π (cm.iu g ds) v:=by
 cases g with
 |true =>
  cases v<;>simp [A6] at h
  subst h
  exact .agg _ _ aj.1 aj.2
 |false =>
  have:cs=[v]:=by cases v<;>simp_all [A6,V.cells?]
  subst this
  match ds,aj with
  |[w],aj=>exact aj.2 0 w v rfl rfl
  |[],aj=>exact absurd aj.1 (by simp)
  |_::_::_,aj=>exact absurd aj.1 (by simp)
theorem oR {ar : Ar} : ∀ {t : Ty} {vs : List V} {x : t.den} {u : dZ} {r : List V}, aX ar [] t vs = some (x, u, r) → ∃ us, vs = us ++ r ∧ Dq π (cm t x) us
 | .unit,vs,x,u,r,h=>by
  simp [aX] at h;obtain ⟨_,_,rfl⟩:=h;exact ⟨[],rfl,.nil⟩
 | .bool,vs,x,u,r,h=>by
  rcases vs with _|⟨v,r'⟩
  ·simp [aX] at h
  ·cases v <;> simp [aX] at h
   ·obtain ⟨rfl,_,rfl⟩:=h;exact ⟨[_],rfl,.cons (.tfb _) .nil⟩
   ·obtain ⟨rfl,_,rfl⟩:=h;exact ⟨[_],rfl,.cons (.bool _) .nil⟩
 | .str,vs,x,u,r,h=>by
  rcases vs with _|⟨v,r'⟩
  ·simp [aX] at h
  ·cases v <;> simp [aX] at h
   obtain ⟨rfl,_,rfl⟩:=h;exact ⟨[_],rfl,.cons (.str _) .nil⟩
 | .int k,vs,x,u,r,h=>by
  rcases vs with _|⟨v,r'⟩
  ·simp [aX] at h
  ·cases v <;> simp [aX] at h
   obtain ⟨rfl,rfl,_,rfl⟩:=h;exact ⟨[_],rfl,.cons (.int _ _) .nil⟩
 | .list t,vs,x,u,r,h=>by
  rcases vs with _|⟨v,r'⟩
  ·simp [aX] at h
  ·cases v <;> simp only [aX] at h <;> try (cases h; done)
   ·split at h <;> try (cases h; done)
    rename_i hc
    cases h
    exact ⟨[_],rfl,.cons (by rw [Ej hc];exact .ez _ _) .nil⟩
   ·cases h;exact ⟨[.bG],rfl,.cons (.acv _) .nil⟩
 | .prod a b,vs,x,u,r,h=>by
  simp only [aX] at h
  split at h<;>try (cases h;done)
  rename_i x1 u1 r1 h1
  split at h<;>try (cases h;done)
  rename_i y1 u2 r2 h2
  cases h
  obtain ⟨us,rfl,e1⟩:=oR h1
  obtain ⟨us2,rfl,e2⟩:=oR h2
  exact ⟨us++us2,by simp,e1.append e2⟩
 | .bZ d g t,vs,x,u,r,h=>by
  cases vs with
  |nil=>simp [aX] at h
  |cons v vs =>
   cases v<;>simp only [aX] at h<;>try (cases h;done)
   rename_i d' v'
   split at h<;>try (cases h;done)
   rename_i e;subst e
   split at h<;>try (cases h;done)
   rename_i cs hun
   split at h<;>try (cases h;done)
   rename_i x0 ho
   cases h
   obtain ⟨us,e1,aj⟩:=oR ho
   rw [List.append_nil] at e1
   exact ⟨[.bZ d v'],rfl,.cons (.bZ _ _ _ (Ek hun (by rw [e1];exact aj))) .nil⟩
theorem VS : ∀ {t : Ty} {v : V} {x : t.den}, BM t v = some x → EV π (tyV t x) v
 | .unit,v,x,h=>by simp [BM] at h
 | .bool,v,x,h=>by
  cases v<;>simp [BM] at h
  ·subst h;exact .tfb _
  ·subst h;exact .bool _
 | .str,v,x,h=>by
  cases v<;>simp [BM] at h
  subst h;exact .str _
 | .int k,v,x,h=>by
  cases v<;>simp only [BM] at h<;>try (cases h;done)
  split at h<;>try (cases h;done)
  rename_i hk
  cases h
  have:=of_decide_eq_true hk
  subst this;exact .int _ _
 | .list t,v,x,h=>by
  cases v<;>simp only [BM] at h<;>try (cases h;done)
  ·show EV π (.ez t x) _
   rw [Ej h];exact .ez _ _
  ·cases h;exact .acv _
 | .prod a b,v,x,h=>by
  cases v<;>simp only [BM] at h<;>try (cases h;done)
  split at h<;>try (cases h;done)
  rename_i hc
  cases h
  obtain ⟨us,e,aj⟩:=oR (π:=π) hc
  rw [List.append_nil] at e
  subst e
  exact .agg _ _ aj.1 aj.2
 | .bZ d g t,v,x,h=>by
  simp only [BM] at h
  split at h<;>try (cases h;done)
  rename_i hc
  cases h
  obtain ⟨us,e,aj⟩:=oR (π:=π) hc
  rw [List.append_nil] at e
  subst e
  exact aj.2 0 _ _ rfl rfl
variable {A:Type}
theorem CP.acL {c:CP} {v:V} {f:A→c.T A} (h:c.rd1 π v=some f) (a:A):Dq π (c.vs (f a)) [v]∧c.r (f a)=a:=by
 cases c<;>simp only [CP.rd1] at h
 case any=>cases h;exact ⟨.cons (.any _) .nil,rfl⟩
 case tf b =>
  split at h<;>try (cases h;done)
  split at h<;>try (cases h;done)
  rename_i hb
  cases h
  rw [←dR hb]
  exact ⟨.cons (.tf _) .nil,rfl⟩
 case b7=>split at h<;>cases h;exact ⟨.cons (.b7) .nil,rfl⟩
 case cz=>split at h<;>cases h;exact ⟨.cons (.cz) .nil,rfl⟩
 case eO=>split at h<;>cases h;exact ⟨.cons (.eO) .nil,rfl⟩
 case bG=>split at h<;>cases h;exact ⟨.cons (.bG) .nil,rfl⟩
 case hole t =>
  split at h<;>cases h
  rename_i hx
  exact ⟨.cons (VS hx) .nil,rfl⟩
 case cB b t =>
  split at h<;>try (cases h;done)
  ·rename_i i t' lo n
   split at h<;>try (cases h;done)
   rename_i h1
   split at h<;>try (cases h;done)
   rename_i h2
   split at h<;>try (cases h;done)
   rename_i h3
   cases h
   have e:=Nat.eq_of_beq_eq_true h3
   rw [kO h2,e]
   exact ⟨.cons (.sl _ _ _ _ _ (kP h1)) .nil,rfl⟩
  ·cases h;exact ⟨.cons (.acw _ _ _) .nil,rfl⟩
 case PU b t =>
  split at h<;>try (cases h;done)
  ·rename_i i t' lo n
   split at h<;>try (cases h;done)
   rename_i h1
   split at h<;>try (cases h;done)
   rename_i h2
   cases h
   rw [kO h2]
   exact ⟨.cons (.sl _ _ _ _ _ (kP h1)) .nil,rfl⟩
  ·cases h;exact ⟨.cons (.acw _ _ _) .nil,rfl⟩
 case ptr b off =>
  split at h<;>try (cases h;done)
  split at h<;>try (cases h;done)
  rename_i h1
  split at h<;>try (cases h;done)
  rename_i h2
  cases h
  rw [Nat.eq_of_beq_eq_true h2]
  exact ⟨.cons (.ptr _ _ _ (kP h1)) .nil,rfl⟩
 case yl b =>
  split at h<;>try (cases h;done)
  split at h<;>try (cases h;done)
  rename_i h1
  cases h
  exact ⟨.cons (.yl _ _ (kP h1)) .nil,rfl⟩
 case eS t =>
  split at h<;>try (cases h;done)
  split at h<;>try (cases h;done)
  rename_i hc
  cases h
  obtain ⟨us,e,aj⟩:=oR (π:=π) hc
  rw [List.append_nil] at e
  subst e
  exact ⟨.cons (.eS _ _ aj.1 aj.2) .nil,rfl⟩
 case mp b =>
  split at h<;>try (cases h;done)
  split at h<;>try (cases h;done)
  rename_i h1
  cases h
  exact ⟨.cons (.mp _ _ (kP h1)) .nil,rfl⟩
 case aO=>split at h<;>cases h;exact ⟨.cons (.aO) .nil,rfl⟩
 case pa b t n =>
  split at h<;>try (cases h;done)
  split at h<;>try (cases h;done)
  rename_i h1
  split at h<;>try (cases h;done)
  rename_i h2
  split at h<;>try (cases h;done)
  rename_i h3
  cases h
  rw [kO h2,Nat.eq_of_beq_eq_true h3]
  exact ⟨.cons (.pa _ _ _ _ (kP h1)) .nil,rfl⟩
 case kC t =>
  split at h<;>try (cases h;done)
  split at h<;>try (cases h;done)
  rename_i ys hc
  cases h
  obtain ⟨e,he⟩:=dI hc
  subst e;subst he
  exact ⟨.cons (.kC _ _) .nil,rfl⟩
 case ru=>cases h
 case fn0 f' =>
  split at h<;>try (cases h;done)
  split at h<;>try (cases h;done)
  rename_i h1
  cases h
  rw [Nat.eq_of_beq_eq_true h1]
  exact ⟨.cons (.fn _ _ _ _ _ rfl (fun i v u hv=>by simp at hv) rfl (fun i v u hv=>by simp at hv)) .nil,rfl⟩
 case NA=>cases h
 case NB=>cases h
 case fn=>cases h
 case nil=>cases h
 case cons=>cases h
theorem CP.acM:∀{c:CP} {A:Type} {vs r:List V} {f:A→c.T A},c.HC π vs=some (f,r)→∃us,vs=us++r∧∀a,Dq π (c.vs (f a)) us∧c.r (f a)=a:=by
 intro c
 induction c with
 |nil=>intro A vs r f h;simp only [CP.HC] at h;cases h;exact ⟨[],rfl,fun a=>⟨.nil,rfl⟩⟩
 |cons c l ihc ihl =>
  intro A vs r f h
  simp only [CP.HC] at h
  split at h<;>try (cases h;done)
  rename_i f1 vs' h1
  split at h<;>try (cases h;done)
  rename_i g vs'' h2
  cases h
  obtain ⟨us,rfl,e1⟩:=ihc h1
  obtain ⟨us2,rfl,e2⟩:=ihl h2
  refine ⟨us++us2,by simp,fun a=>?_⟩
  obtain ⟨q1,q2⟩:=e1 (g a)
  obtain ⟨q3,q4⟩:=e2 a
  simp only [CP.vs,CP.r,q2]
  exact ⟨q1.append q3,q4⟩
 |NA l ih =>
  intro A vs r f h
  simp only [CP.HC] at h
  split at h<;>try (cases h;done)
  rename_i cs r'
  split at h<;>try (cases h;done)
  rename_i f1 h1
  cases h
  obtain ⟨us,e,e1⟩:=ih h1
  rw [List.append_nil] at e
  subst e
  refine ⟨[.eS cs],rfl,fun a=>?_⟩
  obtain ⟨q1,q2⟩:=e1 a
  exact ⟨.cons (.eS _ _ q1.1 q1.2) .nil,q2⟩
 |NB l ih =>
  intro A vs r f h
  simp only [CP.HC] at h
  split at h<;>try (cases h;done)
  rename_i cs r'
  split at h<;>try (cases h;done)
  rename_i f1 h1
  cases h
  obtain ⟨us,e,e1⟩:=ih h1
  rw [List.append_nil] at e
  subst e
  refine ⟨[.agg cs],rfl,fun a=>?_⟩
  obtain ⟨q1,q2⟩:=e1 a
  exact ⟨.cons (.agg _ _ q1.1 q1.2) .nil,q2⟩
 |ru t g l ih =>
  intro A vs r f h
  simp only [CP.HC] at h
  split at h<;>try (cases h;done)
  rename_i t' v r'
  split at h<;>try (cases h;done)
  rename_i ht
  split at h<;>try (cases h;done)
  rename_i cs hun
  split at h<;>try (cases h;done)
  rename_i f1 h1
  cases h
  obtain ⟨us,e,e1⟩:=ih h1
  rw [List.append_nil] at e
  subst e
  have e0:=Nat.eq_of_beq_eq_true ht
  subst e0
  refine ⟨[.bZ t' v],rfl,fun a=>?_⟩
  obtain ⟨q1,q2⟩:=e1 a
  exact ⟨.cons (.bZ _ _ _ (Ek hun q1)) .nil,q2⟩
 |fn f0 a b Is HB =>
  intro A vs r f h
  simp only [CP.HC] at h
  split at h<;>try (cases h;done)
  rename_i f' va vb r'
  split at h<;>try (cases h;done)
  rename_i hf
  split at h<;>try (cases h;done)
  rename_i g hg
  split at h<;>try (cases h;done)
  rename_i k hk
  cases h
  obtain ⟨us,e,e1⟩:=Is hg
  rw [List.append_nil] at e
  subst e
  obtain ⟨us2,e',e2⟩:=HB hk
  rw [List.append_nil] at e'
  subst e'
  have e0:=Nat.eq_of_beq_eq_true hf
  subst e0
  refine ⟨[.fn f' va vb],rfl,fun x=>?_⟩
  obtain ⟨q1,q2⟩:=e1 (k x)
  obtain ⟨q3,q4⟩:=e2 x
  simp only [CP.vs,CP.r,q2]
  exact ⟨.cons (.fn _ _ _ _ _ q1.1 q1.2 q3.1 q3.2) .nil,q4⟩
 |_ =>
  intro A vs r f h
  simp only [CP.HC] at h
  split at h<;>try (cases h;done)
  rename_i v r'
  split at h<;>try (cases h;done)
  rename_i f1 h1
  cases h
  exact ⟨[v],rfl,fun a=>CP.acL h1 a⟩
theorem CP.rB {c:CP} {v:V} {f:A→c.T A} (h:c.rd π v=some f) (a:A):EV π (c.v (f a)) v∧c.r (f a)=a:=by
 unfold CP.rd at h
 split at h<;>try (cases h;done)
 rename_i f1 h1
 cases h
 obtain ⟨us,e,e1⟩:=CP.acM h1
 rw [List.append_nil] at e
 subst e
 obtain ⟨q1,q2⟩:=e1 a
 refine ⟨?_,q2⟩
 unfold CP.v
 have hl:=q1.1
 cases hc:c.vs (f a) with
 |nil=>rw [hc] at hl;simp at hl
 |cons u r=>exact q1.2 0 u v (by rw [hc];rfl) rfl
theorem iE : ∀ {cs : List CP} {vs : List V} {f : A → lK cs A}, eV π cs vs = some f → ∀ a, Dq π (qh cs (f a)) vs ∧ rz cs (f a) = a
 |[],[],f,h,a=>by cases h;exact ⟨.nil,rfl⟩
 |c::r,v::vs,f,h,a=>by
  simp only [eV] at h
  split at h<;>try (cases h;done)
  rename_i f1 h1
  split at h<;>cases h
  rename_i g h2
  obtain ⟨q1,q2⟩:=CP.rB h1 (g a)
  obtain ⟨q3,q4⟩:=iE h2 a
  simp only [qh,rz,q2]
  exact ⟨.cons q1 q3,q4⟩
 |[],_::_,f,h,a=>by simp [eV] at h
 |_::_,[],f,h,a=>by simp [eV] at h
theorem SP.rB : ∀ {p : SP} {v : V} {f : A → p.T A}, p.rd π v = some f → ∀ (a : A), EV π (p.v (f a)) v ∧ p.r (f a) = a
 | .c q,v,f,h,a=>CP.rB (c:=q) h a
 | .agg cs,v,f,h,a=>by
  cases v<;>try (cases h;done)
  rename_i vs
  have h':eV π cs vs=some f:=h
  obtain ⟨h1,h2⟩:=iE h' a
  exact ⟨.agg _ _ h1.1 h1.2,h2⟩
 | .bX cs,v,f,h,a=>by
  cases v<;>try (cases h;done)
  rename_i vs
  have h':eV π cs vs=some f:=h
  obtain ⟨h1,h2⟩:=iE h' a
  exact ⟨.bX _ _ h1.1 h1.2,h2⟩
 | .fn f' x y,v,f,h,a=>by
  cases v with
  |fn f2 va vb =>
   have h':(match Nat.beq f2 f' with
    |true=>match eV (A:=lK y A) π x va with
     |some g=>match eV (A:=A) π y vb with
      |some h=>some fun z=>g (h z)
      |none=>none
     |none=>none
    |false=>none)=some f:=h
   clear h
   cases hf:Nat.beq f2 f' with
   |false=>rw [hf] at h';cases h'
   |true =>
    rw [hf] at h'
    simp only at h'
    cases hg:eV (A:=lK y A) π x va with
    |none=>rw [hg] at h';cases h'
    |some g =>
     rw [hg] at h'
     simp only at h'
     cases hk:eV (A:=A) π y vb with
     |none=>rw [hk] at h';cases h'
     |some k =>
      rw [hk] at h'
      have h2:(fun z=>g (k z))=f:=Option.some.inj h'
      obtain ⟨q1,q2⟩:=iE hg (k a)
      obtain ⟨q3,q4⟩:=iE hk a
      have e:=Nat.eq_of_beq_eq_true hf
      subst e
      have e2:SP.v (A:=A) (.fn f2 x y) (g (k a)) = .fn f2 (qh x (g (k a))) (qh y (k a)):=by
       show V.fn f2 _ (qh y (rz x (g (k a))))=_
       rw [q2]
      have e3:SP.r (A:=A) (.fn f2 x y) (g (k a))=a:=by
       show rz y (rz x (g (k a)))=a
       rw [q2,q4]
      have e4:f a=g (k a):=by rw [←h2]
      rw [e4]
      exact ⟨by rw [e2];exact .fn _ _ _ _ _ q1.1 q1.2 q3.1 q3.2,e3⟩
  |_=>cases h
 | .alt x y,v,f,h,a=>by
  cases v with
  |bX vs =>
   have h':(match eV (A:=A) π x vs with
    |some f=>some fun z=>(Sum.inl (f z):lK x A ⊕ lK y A)
    |none=>match eV (A:=A) π y vs with
     |some f=>some fun z=>Sum.inr (f z)
     |none=>none)=some f:=h
   clear h
   cases hx:eV (A:=A) π x vs with
   |some g =>
    rw [hx] at h'
    have h2:=Option.some.inj h'
    subst h2
    obtain ⟨h1,h2⟩:=iE hx a
    exact ⟨.bX _ _ h1.1 h1.2,h2⟩
   |none =>
    rw [hx] at h'
    simp only at h'
    cases hy:eV (A:=A) π y vs with
    |none=>rw [hy] at h';cases h'
    |some g =>
     rw [hy] at h'
     have h2:=Option.some.inj h'
     subst h2
     obtain ⟨h1,h2⟩:=iE hy a
     exact ⟨.bX _ _ h1.1 h1.2,h2⟩
  |_=>cases h
theorem rC {env : Env} : ∀ {ps : List (Nat × SP)} {f : A → zq ps A}, Av π env ps = some f → ∀ a, EE π (wW ps (f a)) env ∧ Rb ps (f a) = a
 |[],f,h,a=>by cases h;exact ⟨fun p hp=>by simp [wW] at hp,rfl⟩
 |(s,p)::r,f,h,a=>by
  simp only [Av] at h
  split at h<;>try (cases h;done)
  rename_i f1 h1
  split at h<;>cases h
  rename_i g h2
  obtain ⟨q1,q2⟩:=SP.rB h1 (g a)
  obtain ⟨q3,q4⟩:=rC h2 a
  simp only [wW,Rb,q2]
  refine ⟨fun x hx=>?_,q4⟩
  rcases List.mem_cons.1 hx with rfl|hx
  ·exact q1
  ·exact q3 x hx
def Rr : pT → pT → Bool
 | .ready,.ready=>true
 | .busy,.busy=>true
 | .done,.done=>true
 | .exhausted,.exhausted=>true
 |_,_=>false
theorem Rs {a b:pT} (h:Rr a b=true):a=b:=by cases a<;>cases b<;>simp_all [Rr]
def acN : Option Ex → Option Ex → Bool
 |none,none=>true
 |some .normal,some .normal=>true
 |some (.exit a),some (.exit b)=>Nat.beq a b
 |some .ret,some .ret=>true
 |_,_=>false
theorem VT {a b:Option Ex} (h:acN a b=true):a=b:=by
 rcases a with _|(_|_|_)<;>rcases b with _|(_|_|_)<;>simp only [acN,Bool.false_eq_true] at h<;>try rfl
 rw [Nat.eq_of_beq_eq_true h]
def BP.rd (π:List Nat) (nx:Nat) (bl:aq) (id:Nat) (p:BP):Option (A→p.T A) :=
 match uH π id with
 |none=>none
 |some i=>match p with
  | .arr t fz=>match av i bl with
   |some (.arr t' xs fz')=>match jE t' t xs with
    |some ys=>match lu fz' fz with
     |true=>some fun a=>(ys,a)
     |false=>none
    |none=>none
   |none=>match Nat.ble nx i with
    |true=>some fun a=>(([]:List t.den),a)
    |false=>none
   |_=>none
  | .cells cs fz=>match av i bl with
   |some (.cells vs fz')=>match lu fz' fz with
    |true=>eV π cs vs
    |false=>none
   |_=>none
  | .loop st j d env ps as bd N=>match av i bl with
   |some (.loop st' j' d' env' ps' as' Vv N')=>match an (Rr st' st) (an (acN j' j)<|an (zu π d d') (an (Eh ps' ps) (an (Nat.beq N' N) (an (iU as' as) (iU Vv bd))))) with
    |true=>Av π env' env
    |false=>none
   |_=>none
  | .ff=>match av i bl with
   |some .ff=>some fun a=>a
   |_=>none
  | .map kt kg vt vg=>match av i bl with
   |some (.map PM Z6 PN U2 es)=>match an (lu Z6 kg) (lu U2 vg) with
    |true=>match KA PM PN kt vt es with
     |some fs=>some fun a=>(fs,a)
     |none=>none
    |false=>none
   |_=>none
  | .l6 t k q c=>match av i bl with
   |some (.l6 t' xs k' q' v)=>match an (Nat.beq k' k) (Rk q' q) with
    |true=>match jE t' t xs with
     |some ys=>match CP.rd π c v with
      |some f=>some fun a=>(ys,f a)
      |none=>none
     |none=>none
    |false=>none
   |_=>none
theorem BP.rB {nx:Nat} {bl:aq} {id:Nat} {p:BP} {f:A→p.T A} (h:p.rd π nx bl id=some f) (a:A):EBk π nx bl id (p.v (f a))∧p.r (f a)=a:=by
 unfold BP.rd at h
 split at h
 ·cases h
 ·rename_i i hi
  rw [oQ] at hi
  cases p<;>simp only at h
  case arr t fz =>
   split at h
   ·rename_i t' xs fz' hb
    split at h<;>try (cases h;done)
    rename_i ys hc
    split at h<;>cases h
    rename_i hfz
    refine ⟨⟨i,hi,.inl ?_⟩,rfl⟩
    obtain ⟨e,he⟩:=dI hc
    subst e;subst he
    rw [hb,dR hfz]
   ·rename_i hb
    split at h<;>cases h
    rename_i hle
    exact ⟨⟨i,hi,.inr ⟨rfl,Nat.le_of_ble_eq_true hle⟩⟩,rfl⟩
   ·cases h
  case cells cs fz =>
   split at h<;>try (cases h;done)
   rename_i vs fz' hb
   split at h<;>try (cases h;done)
   rename_i hfz
   obtain ⟨h1,h2⟩:=iE h a
   refine ⟨⟨i,hi,vs,?_,h1⟩,h2⟩
   rw [hb,dR hfz]
  case loop st j d env ps as bd N =>
   split at h<;>try (cases h;done)
   rename_i st' j' d' env' ps' as' Vv N' hb
   split at h<;>try (cases h;done)
   rename_i hc
   simp only [aQ] at hc
   obtain ⟨c1,cj,c2,c3,c4,c5,c6⟩:=hc
   obtain ⟨h1,h2⟩:=rC h a
   refine ⟨⟨i,hi,d',env',?_,kP c2,h1⟩,h2⟩
   rw [hb,Rs c1,VT cj,rA c3,Nat.eq_of_beq_eq_true c4,ve c5,ve c6]
  case ff =>
   split at h<;>cases h
   rename_i hb
   exact ⟨⟨i,hi,hb⟩,rfl⟩
  case map kt kg vt vg =>
   split at h<;>try (cases h;done)
   rename_i PM Z6 PN U2 es hb
   split at h<;>try (cases h;done)
   rename_i hg
   split at h<;>try (cases h;done)
   rename_i fs hc
   cases h
   simp only [aQ] at hg
   rw [dR hg.1,dR hg.2] at hb
   unfold KA at hc
   split at hc<;>try (cases hc;done)
   rename_i he
   obtain ⟨rfl,rfl⟩:=he
   cases hc
   exact ⟨⟨i,hi,hb⟩,rfl⟩
  case l6 t k q c =>
   split at h<;>try (cases h;done)
   rename_i t' xs k' q' v hb
   split at h<;>try (cases h;done)
   rename_i hc
   simp only [aQ] at hc
   split at h<;>try (cases h;done)
   rename_i ys hy
   split at h<;>try (cases h;done)
   rename_i f' hf
   cases h
   obtain ⟨e,he⟩:=dI hy
   subst e;subst he
   obtain ⟨h1,h2⟩:=CP.rB hf a
   refine ⟨⟨i,hi,v,?_,h1⟩,h2⟩
   rw [hb,Nat.eq_of_beq_eq_true hc.1,Eg hc.2]
def Rt (π : List Nat) (nx : Nat) (bl : aq) : (ps : List (Nat × BP)) → Option (A → VN ps A)
 |[]=>some fun a=>a
 |(id,p)::r=>match BP.rd (A:=VN r A) π nx bl id p with
  |some f=>match Rt π nx bl r with
   |some g=>some fun a=>f (g a)
   |none=>none
  |none=>none
theorem BO {nx : Nat} {bl : aq} : ∀ {ps : List (Nat × BP)} {f : A → VN ps A}, Rt π nx bl ps = some f → ∀ a, (∀ p ∈ UR ps (f a), EBk π nx bl p.1 p.2) ∧ (UR ps (f a)).map (·.1) = ps.map (·.1)
 |[],f,h,a=>by cases h;exact ⟨fun p hp=>by simp [UR] at hp,rfl⟩
 |(s,p)::r,f,h,a=>by
  simp only [Rt] at h
  split at h<;>try (cases h;done)
  rename_i f1 h1
  split at h<;>cases h
  rename_i g h2
  obtain ⟨q1,q2⟩:=BP.rB h1 (g a)
  obtain ⟨q3,q4⟩:=BO h2 a
  simp only [UR,q2]
  refine ⟨fun x hx=>?_,by simp [q4]⟩
  rcases List.mem_cons.1 hx with rfl|hx
  ·exact q1
  ·exact q3 x hx
def ND (nx b : Nat) : V → Option Nat
 | .sl i _ _ _=>some i
 | .ptr i _=>some i
 | .yl i=>some i
 | .mp i=>some i
 | .pa i _ _=>some i
 | .ep i _ _ _=>some i
 | .bG=>some (nx+b)
 | .bZ _ (.ptr i _)=>some i
 |_=>none
def Ru : List V → Nat → Option V
 |[],_=>none
 |v::_,0=>some v
 |_::r,n+1=>Ru r n
def acO (π : List Nat) (env : Env) (nx : Nat) (bl : aq) (ms : List Nat) (b : Nat) : Lc → Option Nat
 | .slot s=>ND nx b (get s env)
 | .part s k=>match get s env with
  | .agg cs=>match Ru cs k with
   |some v=>ND nx b v
   |none=>none
  | .fn _ a c=>match Ru (a++c) k with
   |some v=>ND nx b v
   |none=>none
  | .bX cs=>match Ru cs k with
   |some v=>ND nx b v
   |none=>none
  |_=>none
 | .cell b' k=>match uH π b' with
  |some i=>match av i bl with
   |some (.cells cs _)=>match Ru cs k with
    |some v=>ND nx b v
    |none=>none
   |some (.l6 _ _ _ _ v)=>ND nx b v
   |_=>none
  |none=>none
 | .old i=>some i
 | .mark j=>uH ms j
def snoc {R : Type} : List Nat → Nat → (List Nat → R) → R
 |[],i,k=>k [i]
 |j::r,i,k=>snoc r i fun r'=>k (j::r')
theorem BQ {R : Type} : ∀ (l : List Nat) (i : Nat) (k : List Nat → R), snoc l i k = k (l ++ [i])
 |[],_,_=>rfl
 |j::r,i,k=>by simp only [snoc,BQ r];rfl
def rD {R : Type} (no : R) (env : Env) (nx : Nat) (bl : aq) (ms : List Nat) : List Lc → List Nat → Nat → (List Nat → R) → R
 |[],π,_,k=>k π
 |l::r,π,b,k=>match acO π env nx bl ms b l with
  |some i=>fN i fun i=>snoc π i fun π=>fN (b+1) fun b=>rD no env nx bl ms r π b k
  |none=>no
theorem w5 {X:Type} {no:Option X} {env:Env} {nx:Nat} {bl:aq} {ms:List Nat}:∀{ls:List Lc} {π:List Nat} {b:Nat} {k:List Nat→Option X} {x:X},rD no env nx bl ms ls π b k=some x →
  no=some x∨∃r,r.length=ls.length∧k (π++r)=some x
 |[],π,b,k,x,h=>.inr ⟨[],rfl,by simpa [rD] using h⟩
 |l::ls,π,b,k,x,h=>by
  simp only [rD] at h
  split at h
  ·rename_i i hi
   rw [fu,BQ,fu] at h
   rcases w5 h with h|⟨r,h1,h2⟩
   ·exact .inl h
   ·exact .inr ⟨i::r,by simp [h1],by simpa using h2⟩
  ·exact .inl h
def Rv (π:List Nat) (a b:Nat):Bool:=match uH π a with
 |some i=>match uH π b with
  |some j=>match Nat.beq i j with
   |true=>false
   |false=>true
  |none=>false
 |none=>false
def BR (π : List Nat) (a : Nat) : List (Nat × BP) → Bool
 |[]=>true
 |(b,_)::r=>match Rv π a b with
  |true=>BR π a r
  |false=>false
def w6 (π : List Nat) : List (Nat × BP) → Bool
 |[]=>true
 |(a,_)::r=>match BR π a r with
  |true=>w6 π r
  |false=>false
theorem Rw {a b:Nat} (h:Rv π a b=true):π[a]?≠π[b]?:=by
 unfold Rv at h
 split at h<;>try (cases h;done)
 rename_i i hi
 split at h<;>try (cases h;done)
 rename_i j hj
 split at h<;>try (cases h;done)
 rename_i hij
 rw [←oQ,←oQ,hi,hj]
 intro e;cases e
 rw [Nat.beq_refl] at hij;cases hij
theorem tj {a : Nat} : ∀ {r : List (Nat × BP)}, BR π a r = true → ∀ b ∈ r.map (·.1), π[a]? ≠ π[b]?
 |[],_,b,hb=>by simp at hb
 |(c,_)::r,h,b,hb=>by
  simp only [BR] at h
  split at h<;>try (cases h;done)
  rename_i hd
  simp only [List.map_cons,List.mem_cons] at hb
  rcases hb with rfl|hb
  ·exact Rw hd
  ·exact tj h b hb
theorem w8 : ∀ {r : List (Nat × BP)}, w6 π r = true → ∀ a ∈ r.map (·.1), ∀ b ∈ r.map (·.1), π[a]? = π[b]? → a = b
 |[],_,a,ha=>by simp at ha
 |(c,_)::r,h,a,ha=>by
  simp only [w6] at h
  split at h<;>try (cases h;done)
  rename_i hd
  intro b hb e
  simp only [List.map_cons,List.mem_cons] at ha hb
  rcases ha with rfl|ha<;>rcases hb with rfl|hb
  ·rfl
  ·exact absurd e (tj hd b hb)
  ·exact absurd e.symm (tj hd a ha)
  ·exact w8 h a ha b hb e
def NF (π : List Nat) : List Nat → List Nat → Bool
 |[],[]=>true
 |a::r,i::s=>match zu π a i with
  |true=>NF π r s
  |false=>false
 |_,_=>false
theorem Li : ∀ {ps ms : List Nat}, NF π ps ms = true → ps.map (fun i => π[i]?) = ms.map some
 |[],[],_=>rfl
 |a::r,i::s,h=>by
  simp only [NF] at h
  split at h<;>try (cases h;done)
  rename_i ha
  simp [kP ha,Li h]
 |[],_::_,h=>by simp [NF] at h
 |_::_,[],h=>by simp [NF] at h
def ah.rd {R:Type} (no:R) (pre:List Nat) (base:Nat) (p:ah) (env:Env) (nx:Nat) (bl:aq) (ms:List Nat) (k:p.T→R):R :=
 rD no env nx bl ms p.gu pre base fun π=>match an (NF π p.ms ms) (w6 π p.bl) with
  |true=>match Av (A:=VN p.bl Unit) π env p.env with
   |some f=>match Rt (A:=Unit) π nx bl p.bl with
    |some g=>k (f (g ()))
    |none=>no
   |none=>no
  |false=>no
theorem ah.Lk {X:Type} {no:Option X} {base:Nat} {p:ah} {env:Env} {nx:Nat} {bl:aq} {ms:List Nat} {k:p.T→Option X} {r:X} (h:p.rd no (List.range base) base env nx bl ms k=some r) :
  no=some r∨∃x π,k x=some r∧iS base π ⟨env,⟨nx,bl⟩,ms⟩ (p.st base x):=by
 rcases w5 h with h|⟨rr,hlen,h⟩
 ·exact .inl h
 split at h
 ·rename_i hc
  rw [aQ] at hc
  split at h
  ·rename_i f hf
   split at h
   ·rename_i g hg
    obtain ⟨h1,h2⟩:=rC hf (g ())
    obtain ⟨h3,h4⟩:=BO hg ()
    refine .inr ⟨f (g ()),List.range base++rr,h,?_⟩
    constructor
    ·simp
    ·simp [ah.st,hlen]
    ·exact Li hc.1
    ·exact h1
    ·simp only [ah.st,ah.B,h2];exact h3
    ·simp only [ah.st, ah.B, h2]
     intro q hq s hs e
     refine w8 hc.2 q.1 ?_ s.1 ?_ e
     ·rw [←h4];exact List.mem_map_of_mem hq
     ·rw [←h4];exact List.mem_map_of_mem hs
   ·exact .inl h
  ·exact .inl h
 ·exact .inl h
theorem ah.dw {X:Type} {base:Nat} {p:ah} {env:Env} {nx:Nat} {bl:aq} {ms:List Nat} {k:p.T→Option X} {r:X} (h:p.rd none (List.range base) base env nx bl ms k=some r) :
  ∃x π,k x=some r∧iS base π ⟨env,⟨nx,bl⟩,ms⟩ (p.st base x):=by
 rcases ah.Lk h with h|h
 ·cases h
 ·exact h
end
end Go.AM
end
section
namespace Go.AM
@[reducible] def gZ (k:IntKind) (z:Int):Bool:=k.min≤z&&z≤k.max
@[reducible] def fZ (i n:Int):Bool:=decide (0≤i∧i<n)
@[reducible] def abL (a b:Int):Int:=if b<a then b else a
@[reducible] def imax (a b:Int):Int:=if b > a then b else a
@[reducible] def seq (a b:ByteArray):Bool:=a.toList==b.toList
@[reducible] def slt (a b:ByteArray):Bool:=Op.bytesLess a.toList b.toList
@[reducible] def HJ (c a b:Bool):Bool:=if c then a else b
def It : Ex → Ex → Bool
 | .normal,.normal=>true
 | .exit a,.exit b=>Nat.beq a b
 | .ret,.ret=>true
 |_,_=>false
theorem Ll {a b:Ex} (h:It a b=true):a=b:=by
 cases a<;>cases b<;>simp only [It,Bool.false_eq_true] at h<;>try rfl
 rw [Nat.eq_of_beq_eq_true h]
abbrev aR:=List (Ex×ah)
def aR.T : aR → Type
 |[]=>Empty
 |[(_,p)]=>p.T
 |(_,p)::q::r=>p.T ⊕ aR.T (q::r)
def aR.st (base : Nat) : (xs : aR) → xs.T → Ex × St
 |[],x=>nomatch x
 |[(e,p)],x=>(e,p.st base x)
 |(_,_)::q::r,.inr y=>aR.st base (q::r) y
 |(e,p)::_::_,.inl x=>(e,p.st base x)
section
variable {R:Type}
def VU : List V → (List V → R) → R
 |[],k=>k []
 |v::r,k=>fV v fun v=>VU r fun r=>k (v::r)
theorem mG : ∀ (l : List V) (k : List V → R), VU l k = k l
 |[],k=>rfl
 |v::r,k=>by simp only [VU,mT,mG r]
def NG : Env → (Env → R) → R
 |[],k=>k []
 |(s,v)::r,k=>fV v fun v=>NG r fun r=>k ((s,v)::r)
theorem rE : ∀ (l : Env) (k : Env → R), NG l k = k l
 |[],k=>rfl
 |(s,v)::r,k=>by simp only [NG,mT,rE r]
def acP (b:kA) (k:kA→R):R:=match b with
 | .cells cs fz=>VU cs fun cs=>k (.cells cs fz)
 | .arr t xs fz=>k (.arr t xs fz)
 | .loop st j d env ps as bd N=>NG env fun env=>k (.loop st j d env ps as bd N)
 | .ff=>k .ff
 | .map kt kg vt vg es=>k (.map kt kg vt vg es)
 | .l6 t xs i p v=>fV v fun v=>k (.l6 t xs i p v)
theorem VV (b:kA) (k:kA→R):acP b k=k b:=by cases b<;>simp only [acP,mG,rE,mT]
def fBl : aq → (aq → R) → R
 |[],k=>k []
 |(s,b)::r,k=>acP b fun b=>fBl r fun r=>k ((s,b)::r)
theorem BS : ∀ (l : aq) (k : aq → R), fBl l k = k l
 |[],k=>rfl
 |(s,b)::r,k=>by simp only [fBl,VV,BS r]
def ah.go (p:ah) (nx:Nat) (x:p.T) (k:Env→Nat→aq→List Nat→R):R:=NG (p.E x) fun env=>fBl (p.B x) fun bl=>k env nx bl p.ms
theorem ah.go_eq (p:ah) (nx:Nat) (x:p.T) (k:Env→Nat→aq→List Nat→R):p.go nx x k=k (p.E x) nx (p.B x) p.ms:=by
 unfold ah.go;rw [rE,BS]
def aR.go (kz : Kz R) (base : Nat) : (xs : aR) → xs.T → Kc R → R
 |[],x,_=>nomatch x
 |[(e,p)],x,k=>fN (base+p.gu.length) fun nx=>p.go nx x (k e)
 |(e,p)::q::r,x,k=>kz.sm x (fun x=>fN (base+p.gu.length) fun nx=>p.go nx x (k e)) fun y=>aR.go kz base (q::r) y k
end
theorem aR.Aw {X:Type} {base:Nat}:∀{xs:aR} {x:xs.T} {k:Kc (Option X)} {r:X},xs.go (iN X) base x k=some r →
  k (xs.st base x).1 (xs.st base x).2.env (xs.st base x).2.H.next (xs.st base x).2.H.bl (xs.st base x).2.ms=some r
 |[],x,_,_,_=>nomatch x
 |[(e,p)],x,k,r,h=>by
  simp only [aR.go,fu] at h
  exact (ah.go_eq p _ (show p.T from x) (k e)).symm.trans h
 |(e,p)::q::s,x,k,r,h=>by
  simp only [aR.go,iN] at h
  cases x with
  |inl x =>
   simp only [fu] at h
   rw [ah.go_eq] at h
   exact h
  |inr y=>exact aR.Aw (xs:=q::s) (x:=y) h
def aR.rd {R : Type} (no : R) (pre : List Nat) (base : Nat) : (xs : aR) → Ex → Env → Nat → aq → List Nat → (xs.T → R) → R
 |[],_,_,_,_,_,_=>no
 |[(e',p)],e,env,nx,bl,ms,k=>match It e' e with
  |true=>p.rd no pre base env nx bl ms k
  |false=>no
 |(e',p)::q::r,e,env,nx,bl,ms,k=>match It e' e with
  |true=>p.rd (aR.rd no pre base (q::r) e env nx bl ms fun x=>k (.inr x)) pre base env nx bl ms fun x=>k (.inl x)
  |false=>aR.rd no pre base (q::r) e env nx bl ms fun x=>k (.inr x)
theorem aR.dw {X:Type} {base:Nat} {env:Env} {nx:Nat} {bl:aq} {ms:List Nat}:∀{xs:aR} {e:Ex} {k:xs.T→Option X} {r:X},xs.rd none (List.range base) base e env nx bl ms k=some r →
  ∃x π,k x=some r∧e=(xs.st base x).1∧iS base π ⟨env,⟨nx,bl⟩,ms⟩ (xs.st base x).2
 |[],_,_,_,h=>by simp [aR.rd] at h
 |[(e',p)],e,k,r,h=>by
  simp only [aR.rd] at h
  split at h<;>try (cases h;done)
  rename_i he
  obtain ⟨x,π,h1,h2⟩:=ah.dw h
  exact ⟨x,π,h1,(Ll he).symm,h2⟩
 |(e',p)::q::s,e,k,r,h=>by
  simp only [aR.rd] at h
  split at h
  ·rename_i he
   rcases ah.Lk h with h|⟨x,π,h1,h2⟩
   ·obtain ⟨x, π, h1, h2, h3⟩ := aR.dw (xs := q :: s) h
    exact ⟨.inr x,π,h1,h2,h3⟩
   ·exact ⟨.inl x,π,h1,(Ll he).symm,h2⟩
  ·obtain ⟨x, π, h1, h2, h3⟩ := aR.dw (xs := q :: s) h
   exact ⟨.inr x,π,h1,h2,h3⟩
def Rx {R:Type} (no:R) (pre:List Nat) (base:Nat) (p:ah) (xs:aR) (inl:p.T→R) (inr:xs.T→R):Kc R:=fun e env nx bl ms=>match e with
 | .normal=>p.rd no pre base env nx bl ms inl
 | .exit i=>xs.rd no pre base (.exit i) env nx bl ms inr
 | .ret=>xs.rd no pre base .ret env nx bl ms inr
def BT {P:Program} {N:Nat} {out:Option Nat} {base:Nat} {R:Type} (kz:Kz R) (cx:Cx) (ar:Ar) (pre:List Nat) (p:ah) (xs:aR) (body:D P N out base) (inl:p.T→R) (inr:xs.T→R) (x:p.T):R :=
 fN (base+p.gu.length) fun nx=>p.go nx x fun env nx bl ms=>kE kz cx ar body env nx bl ms (Rx kz.no pre base p xs inl inr)
section
variable {P:Program} {N:Nat} {out:Option Nat} {base:Nat}
noncomputable def bp (mixed : P.follows .mixedOrders = true) (cx : Cx) (fR : cx.Ok P) (pre : List Nat) (hpre : pre = List.range base) (p : ah) (xs : aR) (hxs : xs.all (fun p => !It p.1 .normal) = true) (body : D P N out base)
  (step:p.T→Option (p.T ⊕ xs.T)) (hstep:∀x,BT (iN (p.T ⊕ xs.T)) cx dN pre p xs body (fun y=>some (.inl y)) (fun b=>some (.inr b)) x=step x):bL P N out base where
 c:=body.er
 run kz env nx bl ms K:=p.rd kz.no pre base env nx bl ms fun x=>kz.bd (iter step x) fun b=>xs.go kz base b K
 ok:=by
  intro X env nx bl ms K r h Q hQ
  subst hpre
  obtain ⟨x,π,h1,h2⟩:=ah.dw h
  obtain ⟨b,h3,h4⟩:=oP h1
  have h5:=aR.Aw h4
  refine Nu (gP mixed) (I:=p.st base) (X:=xs.st base) (step:=step) (fun x r hx=>?_) h3 h2 (hQ _ _ _ _ _ h5)
  rw [←hstep x] at hx
  unfold BT at hx
  rw [fu,ah.go_eq] at hx
  refine kN fR hx fun e env nx bl ms hk=>?_
  unfold Rx at hk
  cases e with
  |normal =>
   obtain ⟨y,π,q1,q2⟩:=ah.dw hk
   cases q1
   exact ⟨rfl,π,q2⟩
  |exit i =>
   obtain ⟨y,π,q1,q2,q3⟩:=aR.dw hk
   cases q1
   exact ⟨by simp,q2,π,q3⟩
  |ret =>
   obtain ⟨y,π,q1,q2,q3⟩:=aR.dw hk
   cases q1
   exact ⟨by simp,q2,π,q3⟩
def qi : List SP → Type → Type
 |[],A=>A
 |p::r,A=>p.T (qi r A)
def El {A : Type} : (ps : List SP) → qi ps A → List V
 |[],_=>[]
 |p::r,x=>p.v x::El r (p.r x)
def acQ {A : Type} : (ps : List SP) → qi ps A → A
 |[],x=>x
 |p::r,x=>acQ r (p.r x)
def Ay {A : Type} (π : List Nat) : (ps : List SP) → List V → Option (A → qi ps A)
 |[],[]=>some fun a=>a
 |p::r,v::vs=>match SP.rd (A:=qi r A) π p v with
  |some f=>match Ay π r vs with
   |some g=>some fun a=>f (g a)
   |none=>none
  |none=>none
 |_,_=>none
theorem Em {π : List Nat} {A : Type} : ∀ {ps : List SP} {vs : List V} {f : A → qi ps A}, Ay π ps vs = some f → ∀ a, Dq π (El ps (f a)) vs ∧ acQ ps (f a) = a
 |[],[],f,h,a=>by cases h;exact ⟨.nil,rfl⟩
 |c::r,v::vs,f,h,a=>by
  simp only [Ay] at h
  split at h<;>try (cases h;done)
  rename_i f1 h1
  split at h<;>cases h
  rename_i g h2
  obtain ⟨q1,q2⟩:=SP.rB h1 (g a)
  obtain ⟨q3,q4⟩:=Em h2 a
  simp only [El,acQ,q2]
  exact ⟨.cons q1 q3,q4⟩
 |[],_::_,f,h,a=>by simp [Ay] at h
 |_::_,[],f,h,a=>by simp [Ay] at h
structure Ct where
 f:Nat
 ps:List SP
 res:SP
 fn:qi ps Unit→Option (res.T Unit)
def Ct.Ok (P:Program) (ct:Ct):Prop:=∀x y,ct.fn x=some y→gx P ct.f (El ct.ps x) (ct.res.v y)
theorem Eo {π:List Nat}:Mu.eH (fun _=>none) π=fun _=>none:=by
 funext i;simp only [Mu.eH];cases π[i]?<;>rfl
theorem BU {f:Nat} {vs vs':List V} {v:V} {nx:Nat} {bl:aq} (h:gx P f vs' v) (hm:cV (fin dN bl 8) vs=some vs') (hs:Dz v=true) {Q:V→aH→Prop} (hQ:Q v ⟨nx,bl⟩):gA P f vs ⟨nx,bl⟩ Q:=by
 refine ⟨h.1,fun Y ι μ w as hI hl=>?_⟩
 refine (h.2 (ι.all Y.own w) w as (hI.de.mono (au.Bs hI.rd)) (fun b o x hx=>?_) (iD (fun v r x h hr=>uZ (fun _ _ _=>rfl) hI h hr) hm hl)).mono ?_
 ·exact au.Ia hI.rd hx
 ·rintro e w' ⟨x, ι', rfl, _, _, _, jm, H7⟩
  exact ⟨x,ι,μ,v,_,rfl,au.le_refl _,Mu.le_refl _,hI.called (au.le_refl _) (fun _ _ _=>rfl) (c7.kept (fun b o x hx=>hI.rd b o x hx) jm) jm,D5 hs H7,hQ⟩
def Ep {R : Type} (kz : Kz R) (f : Nat) (vs : List V) (K : V → R) : List Ct → R
 |[]=>kz.no
 |ct::r=>match Nat.beq ct.f f with
  |true=>match Ay (A:=Unit) [] ct.ps vs with
   |some g=>kz.bd (ct.fn (g ())) fun y=>ct.res.kv kz y K
   |none=>Ep kz f vs K r
  |false=>Ep kz f vs K r
def Lm (P : Program) : List Ct → Prop
 |[]=>True
 |c::r=>c.Ok P∧Lm P r
theorem oS {X : Type} {f : Nat} {vs : List V} {K : V → Option X} {r : X} : ∀ {sA : List Ct}, Lm P sA → Ep (iN X) f vs K sA = some r → ∃ v, gx P f vs v ∧ K v = some r
 |[],_,hk=>by cases hk
 |ct::sA,h,hk=>by
  simp only [Ep] at hk
  split at hk
  ·rename_i hf
   have e:=Nat.eq_of_beq_eq_true hf
   subst e
   split at hk
   ·rename_i g hg
    obtain ⟨y,hy,hk⟩:=qf hk
    rw [SP.agr] at hk
    obtain ⟨q1,_⟩:=Em hg ()
    refine ⟨_,?_,hk⟩
    have hp:=h.1 _ _ hy
    exact ⟨hp.1, fun ι w as hgl hrd hl => hp.2 ι w as hgl hrd (by
     have:=aI.eH (π:=[]) q1.1 (fun i v u hv hu=>fun {x} hr=>(q1.2 i v u hv hu).rel hr) hl
     rwa [Eo] at this)⟩
   ·exact oS h.2 hk
  ·exact oS h.2 hk
theorem NH {f:Nat} {vs vs':List V} {v:V} {nx:Nat} {bl bE:aq} (h:gx P f vs' v) (hm:cV (fin dN bl 8) vs=some vs') (hb:ua (jc bl vs) bl=some bE) {Q:V→aH→Prop} (hQ:Q v ⟨nx,bE⟩):gA P f vs ⟨nx,bl⟩ Q:=by
 refine ⟨h.1,fun Y ι μ w as hI hl=>?_⟩
 obtain ⟨ι',h1,h2,h3⟩:=u7 hI hb
 have hl':aI ι' (fun _=>none) vs' as.toList:=by
  have key:∀{vs vs':List V} {xs:List Value},cV (fin dN bl 8) vs=some vs'→(∀id∈jc bl vs,zi ι' μ id (av id bl))→aI ι μ vs xs→aI ι' (fun _=>none) vs' xs:=by
   intro vs
   induction vs with
   |nil=>intro vs' xs hm _ hl;cases hm;rw [hl.of_nil];exact .nil
   |cons v r ih =>
    intro vs' xs hm hfz hl
    unfold cV at hm
    split at hm<;>try (cases hm;done)
    rename_i u hu
    split at hm<;>cases hm
    rename_i us KU
    obtain ⟨x,xs',rfl,r1,r2⟩:=hl.bq
    simp only [jc,List.flatMap_cons,List.mem_append] at hfz
    exact .cons (Bv hu (fun id hid=>hfz id (.inl hid)) (r1.mono h1 (Mu.le_refl _))) (ih KU (fun id hid=>hfz id (.inr hid)) r2)
  exact key hm h3 hl
 refine (h.2 ι' w as h2.de (fun b o x hx=>h2.rd b o x hx) hl').mono ?_
 rintro e w' ⟨x,ι2,rfl,hi,hib,hrd,jm,H7⟩
 exact ⟨x,ι2,μ,v,_,rfl,au.le_trans h1 hi,Mu.le_refl _,h2.called hi hib hrd jm,H7.mono (au.le_refl _) (fun _ _ h=>by cases h),hQ⟩
def acR {R:Type} (sA:List Ct) (kz:Kz R) (f:Nat) (vs:List V) (nx:Nat) (bl:aq) (K:V→Nat→aq→R):R:=match vs.all (dy 8) with
 |true=>Ep kz f vs (fun v=>K v nx bl) sA
 |false=>match cV (fin dN bl 8) vs with
  |some vs'=>Ep kz f vs' (fun v=>match Dz v with
   |true=>K v nx bl
   |false=>match ua (jc bl vs) bl with
    |some bE=>fBl bE fun bE=>K v nx bE
    |none=>kz.no) sA
  |none=>kz.no
def mkCx (sA:List Ct):Cx where
 pc kz f vs K:=Ep kz f vs K sA
 ca kz f vs nx bl K:=acR sA kz f vs nx bl K
 rd kz _ _ _ _ _:=kz.no
theorem VW {sA:List Ct} (h:Lm P sA):(mkCx sA).Ok P where
 pok hk:=oS h hk
 VM:=by
  intro X f vs nx bl K r hk Q hQ
  simp only [mkCx,acR] at hk
  split at hk
  ·rename_i hd
   obtain ⟨v,hp,hk⟩:=oS h hk
   exact Ih hp hd (hQ _ _ _ hk)
  ·split at hk <;> try (cases hk; done)
   rename_i vs' hm
   obtain ⟨v,hp,hk⟩:=oS h hk
   split at hk
   ·rename_i hs
    exact BU hp hm hs (hQ _ _ _ hk)
   ·split at hk <;> try (cases hk; done)
    rename_i bE hb
    rw [BS] at hk
    exact NH hp hm hb (hQ _ _ _ hk)
 rok hk:=by cases hk
def acS {R:Type} (kz:Kz R) (ar:Ar) (rs:List RV) (tys:List (Option Ty)) (res:SP) (k:res.T Unit→R):Kc R:=fun e env nx bl ms=>match e with
 | .exit _=>kz.no
 | .normal=>go env nx bl ms
 | .ret=>go env nx bl ms
where go (env:Env) (nx:Nat) (bl:aq) (ms:List Nat):R:=match eo ms bl with
 |some bl=>match uE ar ⟨env,⟨nx,bl⟩,[]⟩ rs with
  |some vs=>match fin ar bl 8 (tV (cG tys vs)) with
   |some v=>match SP.rd (A:=Unit) [] res v with
    |some f=>k (f ())
    |none=>kz.no
   |none=>kz.no
  |none=>kz.no
 |none=>kz.no
def fnE {R:Type} (kz:Kz R) (cx:Cx) (ar:Ar) (rs:List RV) (tys:List (Option Ty)) (ps:List SP) (res:SP) (body:D P N none 0) (k:res.T Unit→R) (x:qi ps Unit):R :=
 VU (El ps x) fun vs=>kE kz cx ar body (args 0 vs) 0 [] [] (acS kz ar rs tys res k)
theorem NI {f : Nat} {func : Func} {fn : Fn} (hf : P.funcs[f]? = some func) (htr : bK P func = some fn) (cu : Enters P f) (gD : mw P fn.N none 0) {vs : List V} {r : V} (hlen : vs.length ≤ fn.np)
  (h:qO (fF P fn.N none 0) fn.body ⟨args 0 vs,⟨0,[]⟩,[]⟩ (Nf (fF P fn.N none 0) fn.res fn.tys (fun r'=>EV [] r r'))):gx P f vs r:=by
 refine ⟨cu,fun ι w as hgl hrd hr=>?_⟩
 let Y:Ctx:=⟨w,ι,fun _=>none,none,fun _=>False,[]⟩
 have hI:Inv P Y ι (fun _=>none) ⟨0,[]⟩ w:=⟨KM.refl _ _,au.le_refl _,fun _ _ _ _=>rfl,hrd,fun id L h=>h,fun _ _=>rfl,fun id B h=>by simp [av] at h,fun id id' B B' L L' h=>by simp [av] at h,fun id B h=>by simp [av] at h,hgl⟩
 have hres:Qe P func.results.toList=some fn.res:=by
  unfold bK at htr
  split at htr<;>try (cases htr;done)
  split at htr<;>try (cases htr;done)
  rename_i UM
  split at htr<;>try (cases htr;done)
  cases htr;exact UM
 refine KZ (Y:=Y) hf htr gD hlen h rfl rfl (fun _ _=>rfl) hI hr fun Y1 ι' μ' S' a' w' e' hY hR hq=>?_
 have key:Nf.pX (fF P fn.N none 0) fn.res fn.tys (fun r'=>EV [] r r') S'→LeavesInM Fence.wide 0 P func a'.tmps (fun e w'=>∃v ι',e = .returned v∧ι.le ι'∧(∀b o,b<w.heap.size→ι' b o=ι b o)∧c7 ι' w' ∧
   Dw w w'∧Rel ι' (fun _=>none) r v) a'.defers .returning w':=by
  intro hs
  unfold Nf.pX at hs
  split at hs<;>try (exact hs.elim)
  rename_i bl qD
  split at hs<;>try (exact hs.elim)
  rename_i vs' hvs
  split at hs<;>try (exact hs.elim)
  rename_i r' VX
  refine sS hres (n:=S'.H.next) (bl:=S'.H.bl) hY rfl hR.inv hR.env hR.ms qD hvs fun x w2 nA hx=>?_
  refine ⟨x,ι'.all Y.own w2,rfl,au.le_trans nA.i0 (au.Bs nA.rd),fun b o hb=>?_,fun b o y hy=>?_,nA.below.to (fun _ h=>h),?_⟩
  ·rw [au.Vo (fun h=>by rcases h with h|h;exact absurd hb (Nat.not_lt.2 h);exact h)];exact nA.iB b o hb (fun h=>h)
  ·exact au.Ia nA.rd hy
  ·have := hs.rel (uZ (Y := Y) (ar := fF P fn.N none 0) (fun _ _ _ => rfl) nA VX (hx fn.tys))
   rwa [Eo] at this
 cases e' with
 |exit id=>exact hq.elim
 |normal=>exact ⟨.inl rfl,key hq⟩
 |ret=>exact ⟨.inr rfl,key hq⟩
theorem dX (mixed : P.follows .mixedOrders = true) {cx : Cx} (fR : cx.Ok P) {func : Func} {fn : Fn} {ct : Ct} (hf : P.funcs[ct.f]? = some func) (htr : bK P func = some fn) (cu : Enters P ct.f)
  (body:D P fn.N none 0) (hbody:body.er=fn.body) (hnp:Nat.ble ct.ps.length fn.np=true) (hfn:∀x,fnE (iN (ct.res.T Unit)) cx dN fn.res fn.tys ct.ps ct.res body some x=ct.fn x):ct.Ok P:=by
 intro x y hxy
 rw [←hfn x] at hxy
 unfold fnE at hxy
 rw [mG] at hxy
 have hlen:∀(ps:List SP) (x:qi ps Unit),(El ps x).length=ps.length:=by
  intro ps
  induction ps with
  |nil=>intro x;rfl
  |cons p r ih=>intro x;simp [El,ih]
 have hwp:=kN (Q:=Nf (fF P fn.N none 0) fn.res fn.tys (fun r=>EV [] (ct.res.v y) r)) fR hxy (fun e env nx bl ms hk=>by
  have key:acS.go (iN (ct.res.T Unit)) dN fn.res fn.tys ct.res some env nx bl ms=some y→Nf.pX (fF P fn.N none 0) fn.res fn.tys (fun r=>EV [] (ct.res.v y) r) ⟨env,⟨nx,bl⟩,ms⟩:=by
   intro hg
   unfold acS.go at hg
   unfold Nf.pX
   split at hg<;>try (cases hg;done)
   rename_i bE h1
   rw [h1]
   simp only
   split at hg<;>try (cases hg;done)
   rename_i vs h2
   rw [h2]
   simp only
   have e:fin (fF P fn.N none 0) bE 8 (tV (cG fn.tys vs))=fin dN bE 8 (tV (cG fn.tys vs)):=by unfold fF;exact wM
   rw [e]
   split at hg<;>try (cases hg;done)
   rename_i v h3
   rw [h3]
   simp only
   split at hg<;>try (cases hg;done)
   rename_i f h4
   cases hg
   exact (SP.rB h4 ()).1
  cases e with
  |exit i=>cases hk
  |normal=>exact key hk
  |ret=>exact key hk)
 rw [hbody] at hwp
 exact NI hf htr cu (gP mixed) (by rw [hlen];exact Nat.le_of_ble_eq_true hnp) hwp
end
end Go.AM
end
